/- Texts of this claim, one behind the other: Close0. -/
import Derived.Test.YtmhjjhaipcgbiaaGreatZemP24

namespace Go.Proofs.YtmhjjhaipcgbiaaGreat
open Go.RowKit
set_option linter.unusedVariables false
set_option linter.unusedSimpArgs false
set_option maxRecDepth 100000
set_option maxHeartbeats 1000000
structure RW (w : World) (E TE : TypeId) (v : Value) (rows : List KRow) (f : Nat → List Value) : Prop where
  rv : Own w 0 TE 1 v rows.length (rows.map KRow.val)
  row : ∀ (i : Nat) r, rows[i]? = some r → Own w 0 E 1 r.val r.xs.length (f i)
  apart : ∀ (i j : Nat) r r', i < j → rows[i]? = some r → rows[j]? = some r' → ∀ b, r.val.ownBlock = some b → r'.val.ownBlock ≠ some b
  small : ∀ (i : Nat) r, rows[i]? = some r → r.xs.length ≤ 100000000
theorem RW.below {w w' : World} {E TE : TypeId} {v : Value} {rows : List KRow} {f : Nat → List Value} (h : RW w E TE v rows f) (hb : Below w.heap.size w w') : RW w' E TE v rows f :=
  ⟨h.rv.below hb, fun i r hi => (h.row i r hi).below hb, h.apart, h.small⟩
def Full (mark : Nat → Value) (rows : List KRow) (f : Nat → List Value) (i k : Nat) : Prop :=
  (∀ m r, m < i → rows[m]? = some r → f m = List.replicate r.xs.length (mark m)) ∧ (f i).take k = List.replicate k (mark i)
theorem Full.step {mark : Nat → Value} {rows : List KRow} {f : Nat → List Value} {i k : Nat} (h : Full mark rows f i k) (hk : k < (f i).length) : Full mark rows (fun m => if m = i then (f i).set k (mark i) else f m) i (k + 1) := by
  refine ⟨fun m r hm hr => ?_, ?_⟩
  · show (if m = i then (f i).set k (mark i) else f m) = _
    rw [if_neg (by omega)]; exact h.1 m r hm hr
  · show List.take (k + 1) (if i = i then (f i).set k (mark i) else f i) = _
    rw [if_pos rfl, List.take_add_one, List.take_set_of_le (Nat.le_refl _), h.2, List.getElem?_set_self hk, List.replicate_succ']
    rfl
theorem Full.next {w : World} {E TE : TypeId} {v : Value} {mark : Nat → Value} {rows : List KRow} {f : Nat → List Value} {i : Nat} {r : KRow} (h : Full mark rows f i r.xs.length) (hw : RW w E TE v rows f) (hi : rows[i]? = some r) : Full mark rows f (i + 1) 0 := by
  refine ⟨fun m r' hm hr => ?_, by simp⟩
  by_cases e : m = i
  · subst e
    rw [hi] at hr; cases hr
    have hl := (hw.row m _ hi).1
    rw [← h.2, List.take_of_length_le (by omega)]
  · exact h.1 m r' (by omega) hr
structure GR (base : Nat) (w : World) (E TE : TypeId) (mark m0 m1 : Nat → Value) (rows : List KRow) (gv : Value) (gs : List Value) : Prop where
  gv : Own w base TE 1 gv gs.length gs
  g : ∀ (i : Nat) r, i < gs.length → rows[i]? = some r → ∃ a c, gs[i]? = some (.slice a (r.xs.length + 2) c) ∧ Own w 0 E 1 (.slice a (r.xs.length + 2) c) (r.xs.length + 2) (List.replicate r.xs.length (mark i) ++ [m0 i, m1 i]) ∧
    ∀ b, (Value.slice a (r.xs.length + 2) c).ownBlock = some b → r.val.ownBlock = some b ∨ base ≤ b
theorem GR.below {base : Nat} {w w' : World} {E TE : TypeId} {mark m0 m1 : Nat → Value} {rows : List KRow} {gv : Value} {gs : List Value} (h : GR base w E TE mark m0 m1 rows gv gs) (hb : Below w.heap.size w w') : GR base w' E TE mark m0 m1 rows gv gs :=
  ⟨h.gv.below hb, fun i r h1 h2 => by
    obtain ⟨a, c, q1, q2, q3⟩ := h.g i r h1 h2
    exact ⟨a, c, q1, q2.below hb, q3⟩⟩
end Go.Proofs.YtmhjjhaipcgbiaaGreat
