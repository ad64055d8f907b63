/- Texts of this claim, one behind the other: Each, Append, Join. -/
import Derived.Test.YtmhjjhaipcgbiaaBakP21
import Derived.Test.YtmhjjhaipcgbiaaBakP28
import Derived.Test.YtmhjjhaipcgbiaaBakP17
import Derived.Test.YtmhjjhaipcgbiaaBakP18

namespace Go.Proofs.Ytmhjjhaipcgbiaa
open Go.RowKit
set_option linter.unusedVariables false
set_option linter.unusedSimpArgs false
set_option maxRecDepth 100000
set_option maxHeartbeats 4000000
attribute [local go_sem] Oper.semAt_some
def valC (c : Col) (i : Nat) : V := if nullB c.bits i then ⟨true, 0, []⟩ else ⟨false, (valueC c i).1, (valueC c i).2⟩
end Go.Proofs.Ytmhjjhaipcgbiaa


namespace Go.Proofs.Ytmhjjhaipcgbiaa
open Go.RowKit Go.Shelf
set_option linter.unusedVariables false
set_option linter.unusedSimpArgs false
set_option maxRecDepth 100000
set_option maxHeartbeats 4000000
attribute [local go_sem] Oper.semAt_some
def CS.app (k : Int) (cs : CS) (l : List V) : CS := l.foldl (CS.add k) cs
def valsC (c : Col) (n : Nat) : List V := (List.range n).map (valC c)
structure AppI (c : Col) (B D E X : SL) (vals : List Value) (cs : CS) (S : Nat → Prop) (bl Bs b0 : Nat) (w w1 : World) (i : Nat) (W : World) : Prop where
  bs : BS W (fun b => S b ∧ b < w.heap.size ∨ w1.heap.size + 2 ≤ b) bl c.k c.s (CS.app c.k cs (valsC c i))
  kept : Kept (fun b => S b ∧ b < w.heap.size) w W
  b0 : W.heap[b0]? = some (.cells #[.pointer (some ⟨bl, 0, none⟩)] 56 (0, 0))
  bx : W.heap[Bs]? = some (.cells #[.int .i64 c.k, .int .i64 c.s, .int .i64 c.n, .int .i64 c.m, .slice B.a c.bits.length B.c, .slice D.a c.data.length D.c, .slice E.a c.ends.length E.c, .slice X.a c.words.length X.c] 43 (0, 0))
theorem AppI.moved {c : Col} {B D E X : SL} {vals : List Value} {cs : CS} {S : Nat → Prop} {bl Bs b0 : Nat} {w w1 A A' : World} {i : Nat} (hs : w.heap.size ≤ w1.heap.size) (h0 : b0 < w1.heap.size) (h1 : Bs < w1.heap.size)
    (h : AppI c B D E X vals cs S bl Bs b0 w w1 i A) (hk : Kept (fun k => k = w1.heap.size ∨ k = w1.heap.size + 1) A A') : AppI c B D E X vals cs S bl Bs b0 w w1 i A' :=
  ⟨h.bs.kept hk (fun b hb _ e => by omega), h.kept.trans hk (fun b hb hlt => by omega), (hk.block _ (lt_of_blk h.b0) (by omega)).trans h.b0, (hk.block _ (lt_of_blk h.bx) (by omega)).trans h.bx⟩
end Go.Proofs.Ytmhjjhaipcgbiaa


namespace Go.Proofs.Ytmhjjhaipcgbiaa
open Go.RowKit Go.Shelf
set_option linter.unusedVariables false
set_option linter.unusedSimpArgs false
set_option maxRecDepth 100000
set_option maxHeartbeats 4000000
def Small (c : CS) : Prop := c.nulls.length ≤ 100000000 ∧ c.data.length ≤ 100000000 ∧ c.ends.length ≤ 100000000 ∧ c.words.length ≤ 100000000 ∧ ∀ t ∈ c.words, t.length ≤ 100000000
theorem below_three (w : World) (o1 o2 o3 : Obj) : Below w.heap.size w (((w.alloc o1).alloc o2).alloc o3) ∧ (((w.alloc o1).alloc o2).alloc o3).heap.size = w.heap.size + 3 ∧
    (((w.alloc o1).alloc o2).alloc o3).heap[w.heap.size]? = some o1 ∧ (((w.alloc o1).alloc o2).alloc o3).heap[w.heap.size + 1]? = some o2 ∧ (((w.alloc o1).alloc o2).alloc o3).heap[w.heap.size + 2]? = some o3 := by
  obtain ⟨h1, h2, h3, h4⟩ := below_two w o1 o2
  refine ⟨h1.alloc (by omega) _, by rw [World.size_alloc, h2], ?_, ?_, ?_⟩
  · exact (Below.heap_alloc _ _ _ (by omega)).trans h3
  · exact (Below.heap_alloc _ _ _ (by omega)).trans h4
  · have := World.alloc_heap_new ((w.alloc o1).alloc o2) o3
    rwa [h2] at this
end Go.Proofs.Ytmhjjhaipcgbiaa
