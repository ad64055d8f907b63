/- Texts of this claim, one behind the other: Words, AddC, AddT. -/
import Derived.Test.YtmhjjhaipcgbiaaGreatZooP12
import Derived.Test.YtmhjjhaipcgbiaaGreatZooP15
import Derived.Test.YtmhjjhaipcgbiaaGreatZooP13

namespace Go.Proofs.YtmhjjhaipcgbiaaGreat
open Go.RowKit Go.Maps
set_option linter.unusedVariables false
set_option linter.unusedSimpArgs false
set_option maxRecDepth 100000
set_option maxHeartbeats 1000000
def WOwn (w : World) (base i : Nat) (vals : List Value) (ws : List (List Int)) : Prop :=
  ∀ (j : Nat) t, j < i → ws[j]? = some t → ∃ a cap, vals[j]? = some (.slice a t.length cap) ∧ Own w base 5 1 (.slice a t.length cap) t.length (t.map (.int .u8))
def WSep (i : Nat) (vals : List Value) : Prop := ∀ (j j' : Nat) v v', j < j' → j' < i → vals[j]? = some v → vals[j']? = some v' → ∀ b, v.ownBlock = some b → v'.ownBlock ≠ some b
def WordsP (ws : List (List Int)) (w : World) (e : Ending) (w' : World) : Prop :=
  ∃ a c vals, e = .returned (.slice a ws.length c) ∧ Own w' w.heap.size 43 1 (.slice a ws.length c) ws.length vals ∧ vals.length = ws.length ∧ WOwn w' w.heap.size ws.length vals ws ∧ Below w.heap.size w w' ∧ WSep ws.length vals
theorem WOwn.kept {w w' : World} {base i : Nat} {vals : List Value} {ws : List (List Int)} {S : Nat → Prop} (h : WOwn w base i vals ws) (hk : Kept S w w') (hS : ∀ k, base ≤ k → k < w.heap.size → (∃ cs, w.heap[k]? = some (.cells cs 5 (0, 0))) → ¬ S k) : WOwn w' base i vals ws := fun j t hj ht => by
  obtain ⟨a, cap, h1, h2⟩ := h j t hj ht
  exact ⟨a, cap, h1, h2.kept hk (fun k e => hS k (h2.lt k e).1 (h2.lt k e).2 (own_blk h2 e))⟩
end Go.Proofs.YtmhjjhaipcgbiaaGreat


namespace Go.Proofs.YtmhjjhaipcgbiaaGreat
open Go.RowKit
set_option linter.unusedVariables false
set_option linter.unusedSimpArgs false
set_option maxRecDepth 100000
set_option maxHeartbeats 2000000
theorem IsB.kept {w w' : World} {bl lw base : Nat} {k s : Int} {nulls : List Bool} {data ends : List Int} {nv dv ev : Value} {S : Nat → Prop} (h : IsB w bl lw base k s nulls data ends nv dv ev) (hk : Kept S w w') (h1 : ¬ S bl) (h3 : ∀ b, nv.ownBlock = some b ∨ dv.ownBlock = some b ∨ ev.ownBlock = some b → ¬ S b) (hl : ∃ mv : Value × Value, w'.heap[lw]? = some (.cells #[mv.1, mv.2] 212 (0, 0))) : IsB w' bl lw base k s nulls data ends nv dv ev :=
  ⟨(hk.block _ (lt_of_blk h.blk) h1).trans h.blk, hl, h.bbl, h.blw, h.nulls.kept hk (fun b e => h3 b (.inl e)), h.data.kept hk (fun b e => h3 b (.inr (.inl e))), h.ends.kept hk (fun b e => h3 b (.inr (.inr e)))⟩
theorem WL.lst {w : World} {T : Nat → Prop} {lw : Nat} {ws : List (List Int)} (h : WL w T lw ws) : ∃ mv : Value × Value, w.heap[lw]? = some (.cells #[mv.1, mv.2] 212 (0, 0)) := by
  obtain ⟨wv, mb, vals, D, h⟩ := h
  exact ⟨(_, _), h.blk⟩
end Go.Proofs.YtmhjjhaipcgbiaaGreat


namespace Go.Proofs.YtmhjjhaipcgbiaaGreat
open Go.RowKit
set_option linter.unusedVariables false
set_option linter.unusedSimpArgs false
set_option maxRecDepth 100000
set_option maxHeartbeats 8000000
theorem intinfo2 : (Tryz.prog.info? 3).map (fun i => (i.zero, i.size, i.bytes)) = some (some (.int .i64 0), 1, 8) := by kernel_rfl
end Go.Proofs.YtmhjjhaipcgbiaaGreat
