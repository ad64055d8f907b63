/- Texts of this claim, one behind the other: Lay4, Append, Join. -/
import Derived.Test.YtmhjjhaipcgbiaaGreatZooP29
import Derived.Test.YtmhjjhaipcgbiaaGreatZooP30
import Derived.Test.YtmhjjhaipcgbiaaGreatZooP23
import Derived.Test.YtmhjjhaipcgbiaaGreatZooP19
import Derived.Test.YtmhjjhaipcgbiaaGreatZooP22

namespace Go.Proofs.YtmhjjhaipcgbiaaGreat
open Go.RowKit
set_option linter.unusedVariables false
set_option linter.unusedSimpArgs false
set_option maxRecDepth 100000
set_option maxHeartbeats 1000000
structure LX (w wr : World) (k s : Int) (n : Nat) (c : CS) (nv dv ev wv : Value) (vals : List Value) : Prop where
  bt : wr.heap[w.heap.size]? = some (.cells #[.int .i64 k, .int .i64 s] 23 (0, 0))
  br : wr.heap[w.heap.size + 1]? = some (.cells #[.int .i64 0, .int .i64 0, .int .i64 0, .int .i64 0, .slice none 0 0, .slice none 0 0, .slice none 0 0, .slice none 0 0] 63 (0, 0))
  bc : wr.heap[w.heap.size + 1 + 1]? = some (.cells #[.int .i64 k, .int .i64 s, .int .i64 (n : Int), .int .i64 0, .slice none 0 0, dv, ev, .slice none 0 0] 63 (0, 0))
  words : W17 wr w.heap.size (w.heap.size + 1 + 1 + 1) c.words wv vals
  nulls : Own wr w.heap.size 4 1 nv c.nulls.length (c.nulls.map .bool)
  data : Own wr w.heap.size 5 1 dv c.data.length (c.data.map (.int .u8))
  ends : Own wr w.heap.size 3 1 ev c.ends.length (c.ends.map (.int .i64))
  apart : ∀ v ∈ vals, ∀ b, v.ownBlock = some b → dv.ownBlock ≠ some b
  bel : Below w.heap.size w wr
variable {w wr : World} {k s : Int} {n : Nat} {c : CS} {nv dv ev wv : Value} {vals : List Value}
theorem LX.ty (h : LX w wr k s n c nv dv ev wv vals) {v : Value} {E base : Nat} {m : Nat} {xs : List Value} (ho : Own wr base E 1 v m xs) {F : TypeId} (hE : F ≠ E) : ∀ b, v.ownBlock = some b → b < wr.heap.size → ∀ cs, wr.heap[b]? ≠ some (.cells cs F (0, 0)) := by
  intro b e _ cs hc
  obtain ⟨cur, hg⟩ := own_blk ho e
  rw [hg] at hc
  cases hc
  exact hE rfl
theorem LX.word_lt (h : LX w wr k s n c nv dv ev wv vals) : ∀ v ∈ vals, ∀ b, v.ownBlock = some b → b < wr.heap.size ∧ ∃ cur, wr.heap[b]? = some (.cells cur 5 (0, 0)) := by
  intro v hv b e
  obtain ⟨i, hi, rfl⟩ := List.mem_iff_getElem.1 hv
  have hl := h.words.len
  obtain ⟨a, cap, q1, q2⟩ := h.words.each i _ (by omega) (List.getElem?_eq_getElem (by omega))
  rw [List.getElem?_eq_getElem hi] at q1
  rw [Option.some.inj q1] at e
  exact ⟨(q2.lt b e).2, own_blk q2 e⟩
theorem LX.below {w2 : World} (h : LX w wr k s n c nv dv ev wv vals) (hb : Below wr.heap.size wr w2) : LX w w2 k s n c nv dv ev wv vals :=
  ⟨(hb.block _ (lt_of_blk h.bt)).trans h.bt, (hb.block _ (lt_of_blk h.br)).trans h.br, (hb.block _ (lt_of_blk h.bc)).trans h.bc, h.words.below hb, h.nulls.below hb, h.data.below hb, h.ends.below hb, h.apart, below_chain h.bel hb⟩
theorem LX.null {w5 : World} {o : Obj} {v5 : Value} {b : Bool} (h : LX w wr k s n c nv dv ev wv vals) (hA : AppP (wr.alloc o) w.heap.size 4 1 nv c.nulls.length (c.nulls.map .bool) 1 [.bool b] v5 w5) :
    LX w w5 k s n ⟨c.nulls ++ [b], c.data, c.ends, c.words⟩ v5 dv ev wv vals := by
  have K : Kept (fun b => nv.ownBlock = some b) wr w5 := (Kept.of_below (below_new wr o)).trans ((Kept.of_grown hA.grown).mono (fun b e _ => e.symm)) (fun _ e _ => e)
  have bx : ∀ {i : Nat} {cs : Array Value} {F : TypeId}, wr.heap[i]? = some (.cells cs F (0, 0)) → F ≠ 4 → w5.heap[i]? = some (.cells cs F (0, 0)) := fun {i cs F} hi hF => (K.block _ (lt_of_blk hi) (fun e => h.ty h.nulls hF i e (lt_of_blk hi) _ hi)).trans hi
  refine ⟨bx h.bt (by decide), bx h.br (by decide), bx h.bc (by decide), h.words.keptT K ?_ ?_, ?_, h.data.keptT K (h.ty h.nulls (by decide)), h.ends.keptT K (h.ty h.nulls (by decide)), h.apart, h.bel.trans (K.to_below h.bel.size (fun b e => (h.nulls.lt b e).1))⟩
  · rintro E (rfl | rfl) <;> exact h.ty h.nulls (by decide)
  · intro j v hj b e e2
    obtain ⟨_, cur, hg⟩ := h.word_lt v (List.mem_of_getElem? hj) b e
    exact h.ty h.nulls (by decide) b e2 (lt_of_blk hg) _ hg
  · have := hA.own
    rw [List.length_append, List.map_append]
    exact this
theorem LX.dat {w5 : World} {v5 : Value} {data' : List Int} (h : LX w wr k s n c nv dv ev wv vals) (K : Kept (fun b => dv.ownBlock = some b) wr w5) (ho : Own w5 w.heap.size 5 1 v5 data'.length (data'.map (.int .u8))) (hb : v5.ownBlock = dv.ownBlock ∨ ∃ b, v5.ownBlock = some b ∧ wr.heap.size ≤ b) :
    LX w (w5.setCell ⟨w.heap.size + 1 + 1, 5, none⟩ v5) k s n ⟨c.nulls, data', c.ends, c.words⟩ nv v5 ev wv vals := by
  have bx : ∀ {i : Nat} {cs : Array Value} {F : TypeId}, wr.heap[i]? = some (.cells cs F (0, 0)) → F ≠ 5 → w5.heap[i]? = some (.cells cs F (0, 0)) := fun {i cs F} hi hF => (K.block _ (lt_of_blk hi) (fun e => h.ty h.data hF i e (lt_of_blk hi) _ hi)).trans hi
  have g := bx h.bc (by decide)
  have K2 : Kept (fun b => dv.ownBlock = some b ∨ b = w.heap.size + 1 + 1) wr (w5.setCell ⟨w.heap.size + 1 + 1, 5, none⟩ v5) := (K.mono (fun b e _ => .inl e)).trans (Kept.setCell w5 ⟨w.heap.size + 1 + 1, 5, none⟩ v5) (fun b e _ => .inr e)
  have ty2 : ∀ {F : TypeId}, F ≠ 5 → F ≠ 63 → ∀ b, (dv.ownBlock = some b ∨ b = w.heap.size + 1 + 1) → b < wr.heap.size → ∀ cs, wr.heap[b]? ≠ some (.cells cs F (0, 0)) := by
    rintro F h1 h2 b (e | rfl) hb cs hc
    · exact h.ty h.data h1 b e hb cs hc
    · rw [h.bc] at hc; cases hc; exact h2 rfl
  refine ⟨?_, ?_, by simpa using heap_setCell_at (k := 5) g v5, h.words.keptT K2 ?_ ?_, h.nulls.keptT K2 (ty2 (by decide) (by decide)), ho.set_other (ho.blk_ne g (by decide)) _, h.ends.keptT K2 (ty2 (by decide) (by decide)), ?_, (h.bel.trans (K.to_below h.bel.size (fun b e => (h.data.lt b e).1))).setCell (by simp; omega) _⟩
  · rw [Below.heap_setCell _ _ _ _ (by simp; omega)]; exact bx h.bt (by decide)
  · rw [Below.heap_setCell _ _ _ _ (by simp)]; exact bx h.br (by decide)
  · rintro E (rfl | rfl) <;> exact ty2 (by decide) (by decide)
  · intro j v hj b e e2
    obtain ⟨_, cur, hg⟩ := h.word_lt v (List.mem_of_getElem? hj) b e
    rcases e2 with e2 | rfl
    · exact h.apart v (List.mem_of_getElem? hj) b e e2
    · rw [h.bc] at hg; cases hg
  · intro v hv b e e2
    rcases hb with h1 | ⟨b', h1, h2⟩
    · exact h.apart v hv b e (h1 ▸ e2)
    · rw [h1] at e2; cases e2
      have := (h.word_lt v hv _ e).1; omega
theorem LX.end_ {w5 : World} {o : Obj} {v5 : Value} {y : Int} (h : LX w wr k s n c nv dv ev wv vals) (hA : AppP (wr.alloc o) w.heap.size 3 1 ev c.ends.length (c.ends.map (.int .i64)) 1 [.int .i64 y] v5 w5) :
    LX w (w5.setCell ⟨w.heap.size + 1 + 1, 6, none⟩ v5) k s n ⟨c.nulls, c.data, c.ends ++ [y], c.words⟩ nv dv v5 wv vals := by
  have K : Kept (fun b => ev.ownBlock = some b) wr w5 := (Kept.of_below (below_new wr o)).trans ((Kept.of_grown hA.grown).mono (fun b e _ => e.symm)) (fun _ e _ => e)
  have bx : ∀ {i : Nat} {cs : Array Value} {F : TypeId}, wr.heap[i]? = some (.cells cs F (0, 0)) → F ≠ 3 → w5.heap[i]? = some (.cells cs F (0, 0)) := fun {i cs F} hi hF => (K.block _ (lt_of_blk hi) (fun e => h.ty h.ends hF i e (lt_of_blk hi) _ hi)).trans hi
  have g := bx h.bc (by decide)
  have K2 : Kept (fun b => ev.ownBlock = some b ∨ b = w.heap.size + 1 + 1) wr (w5.setCell ⟨w.heap.size + 1 + 1, 6, none⟩ v5) := (K.mono (fun b e _ => .inl e)).trans (Kept.setCell w5 ⟨w.heap.size + 1 + 1, 6, none⟩ v5) (fun b e _ => .inr e)
  have ty2 : ∀ {F : TypeId}, F ≠ 3 → F ≠ 63 → ∀ b, (ev.ownBlock = some b ∨ b = w.heap.size + 1 + 1) → b < wr.heap.size → ∀ cs, wr.heap[b]? ≠ some (.cells cs F (0, 0)) := by
    rintro F h1 h2 b (e | rfl) hb cs hc
    · exact h.ty h.ends h1 b e hb cs hc
    · rw [h.bc] at hc; cases hc; exact h2 rfl
  refine ⟨?_, ?_, by simpa using heap_setCell_at (k := 6) g v5, h.words.keptT K2 ?_ ?_, h.nulls.keptT K2 (ty2 (by decide) (by decide)), h.data.keptT K2 (ty2 (by decide) (by decide)), ?_, h.apart, (h.bel.trans (K.to_below h.bel.size (fun b e => (h.ends.lt b e).1))).setCell (by simp; omega) _⟩
  · rw [Below.heap_setCell _ _ _ _ (by simp; omega)]; exact bx h.bt (by decide)
  · rw [Below.heap_setCell _ _ _ _ (by simp)]; exact bx h.br (by decide)
  · rintro E (rfl | rfl) <;> exact ty2 (by decide) (by decide)
  · intro j v hj b e e2
    obtain ⟨_, cur, hg⟩ := h.word_lt v (List.mem_of_getElem? hj) b e
    exact ty2 (by decide) (by decide) b e2 (lt_of_blk hg) _ hg
  · have := hA.own.set_other (a := ⟨w.heap.size + 1 + 1, 6, none⟩) (hA.own.blk_ne g (by decide)) v5
    rw [List.length_append, List.map_append]
    exact this
theorem LX.word {w5 : World} {t : List Int} {wv' : Value} {vals' : List Value} (h : LX w wr k s n c nv dv ev wv vals) (hw : W17 w5 w.heap.size (w.heap.size + 1 + 1 + 1) (addWord c.words t) wv' vals') (K : Kept (fun b => b = w.heap.size + 1 + 1 + 1 ∨ wv.ownBlock = some b) wr w5) (hv : ∀ v ∈ vals', v ∈ vals ∨ ∀ b, v.ownBlock = some b → wr.heap.size ≤ b) :
    LX w w5 k s n ⟨c.nulls, c.data, c.ends, addWord c.words t⟩ nv dv ev wv' vals' := by
  have ty2 : ∀ {F : TypeId}, F ≠ 43 → F ≠ 148 → ∀ b, (b = w.heap.size + 1 + 1 + 1 ∨ wv.ownBlock = some b) → b < wr.heap.size → ∀ cs, wr.heap[b]? ≠ some (.cells cs F (0, 0)) := by
    rintro F h1 h2 b (rfl | e) hb cs hc
    · rw [h.words.blk] at hc; cases hc; exact h2 rfl
    · exact h.ty h.words.row h1 b e hb cs hc
  have bx : ∀ {i : Nat} {cs : Array Value} {F : TypeId}, wr.heap[i]? = some (.cells cs F (0, 0)) → F ≠ 43 → F ≠ 148 → w5.heap[i]? = some (.cells cs F (0, 0)) := fun {i cs F} hi h1 h2 => (K.block _ (lt_of_blk hi) (fun e => ty2 h1 h2 i e (lt_of_blk hi) _ hi)).trans hi
  refine ⟨bx h.bt (by decide) (by decide), bx h.br (by decide) (by decide), bx h.bc (by decide) (by decide), hw, h.nulls.keptT K (ty2 (by decide) (by decide)), h.data.keptT K (ty2 (by decide) (by decide)), h.ends.keptT K (ty2 (by decide) (by decide)), ?_, h.bel.trans (K.to_below h.bel.size (fun b e => by
    rcases e with rfl | e
    · omega
    · exact (h.words.row.lt b e).1))⟩
  intro v hv' b e e2
  rcases hv v hv' with h1 | h1
  · exact h.apart v h1 b e e2
  · have := h1 b e
    have := (h.data.lt b e2).2
    omega
end Go.Proofs.YtmhjjhaipcgbiaaGreat


namespace Go.Proofs.YtmhjjhaipcgbiaaGreat
open Go.RowKit Go.Shelf
set_option linter.unusedVariables false
set_option linter.unusedSimpArgs false
set_option maxRecDepth 100000
set_option maxHeartbeats 4000000
attribute [local go_sem] Oper.semAt_some
def CS.app (k : Int) (cs : CS) (l : List V) : CS := l.foldl (CS.add k) cs
def valsC (c : Col) (n : Nat) : List V := (List.range n).map (valC c)
theorem valsC_snoc (c : Col) (n : Nat) : valsC c (n + 1) = valsC c n ++ [valC c n] := by simp [valsC, List.range_succ]
structure AppI (c : Col) (B D E X : SL) (vals : List Value) (cs : CS) (S : Nat → Prop) (bl Bs b0 : Nat) (w w1 : World) (i : Nat) (W : World) : Prop where
  bs : BS W (fun b => S b ∧ b < w.heap.size ∨ w1.heap.size + 2 ≤ b) bl c.k c.s (CS.app c.k cs (valsC c i))
  kept : Kept (fun b => S b ∧ b < w.heap.size) w W
  b0 : W.heap[b0]? = some (.cells #[.pointer (some ⟨bl, 0, none⟩)] 25 (0, 0))
  bx : W.heap[Bs]? = some (.cells #[.int .i64 c.k, .int .i64 c.s, .int .i64 c.n, .int .i64 c.m, .slice B.a c.bits.length B.c, .slice D.a c.data.length D.c, .slice E.a c.ends.length E.c, .slice X.a c.words.length X.c] 63 (0, 0))
theorem AppI.moved {c : Col} {B D E X : SL} {vals : List Value} {cs : CS} {S : Nat → Prop} {bl Bs b0 : Nat} {w w1 A A' : World} {i : Nat} (hs : w.heap.size ≤ w1.heap.size) (h0 : b0 < w1.heap.size) (h1 : Bs < w1.heap.size)
    (h : AppI c B D E X vals cs S bl Bs b0 w w1 i A) (hk : Kept (fun k => k = w1.heap.size ∨ k = w1.heap.size + 1) A A') : AppI c B D E X vals cs S bl Bs b0 w w1 i A' :=
  ⟨h.bs.kept hk (fun b hb _ e => by omega), h.kept.trans hk (fun b hb hlt => by omega), (hk.block _ (lt_of_blk h.b0) (by omega)).trans h.b0, (hk.block _ (lt_of_blk h.bx) (by omega)).trans h.bx⟩
end Go.Proofs.YtmhjjhaipcgbiaaGreat


namespace Go.Proofs.YtmhjjhaipcgbiaaGreat
open Go.RowKit Go.Shelf
set_option linter.unusedVariables false
set_option linter.unusedSimpArgs false
set_option maxRecDepth 100000
set_option maxHeartbeats 4000000
def Small (c : CS) : Prop := c.nulls.length ≤ 100000000 ∧ c.data.length ≤ 100000000 ∧ c.ends.length ≤ 100000000 ∧ c.words.length ≤ 100000000 ∧ ∀ t ∈ c.words, t.length ≤ 100000000
theorem below_three (w : World) (o1 o2 o3 : Obj) : Below w.heap.size w (((w.alloc o1).alloc o2).alloc o3) ∧ (((w.alloc o1).alloc o2).alloc o3).heap.size = w.heap.size + 3 ∧
    (((w.alloc o1).alloc o2).alloc o3).heap[w.heap.size]? = some o1 ∧ (((w.alloc o1).alloc o2).alloc o3).heap[w.heap.size + 1]? = some o2 ∧ (((w.alloc o1).alloc o2).alloc o3).heap[w.heap.size + 2]? = some o3 := by
  obtain ⟨h1, h2, h3, h4⟩ := below_two w o1 o2
  refine ⟨h1.alloc (by omega) _, by rw [World.size_alloc, h2], ?_, ?_, ?_⟩
  · exact (Below.heap_alloc _ _ _ (by omega)).trans h3
  · exact (Below.heap_alloc _ _ _ (by omega)).trans h4
  · have := World.alloc_heap_new ((w.alloc o1).alloc o2) o3
    rwa [h2] at this
end Go.Proofs.YtmhjjhaipcgbiaaGreat
