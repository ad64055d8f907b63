/- Texts of this claim, one behind the other: Close0. -/
import Derived.Test.YtmhjjhaipcgbiaaGreatZooP41
import Derived.Test.YtmhjjhaipcgbiaaGreatZooP18
import Derived.Test.YtmhjjhaipcgbiaaGreatZooP29
import Derived.Test.YtmhjjhaipcgbiaaGreatZooP24

namespace Go.Proofs.YtmhjjhaipcgbiaaGreat
open Go.RowKit
set_option linter.unusedVariables false
set_option linter.unusedSimpArgs false
set_option maxRecDepth 100000
set_option maxHeartbeats 1000000
structure RW (w : World) (E TE : TypeId) (v : Value) (rows : List KRow) (f : Nat → List Value) : Prop where
  rv : Own w 0 TE 1 v rows.length (rows.map KRow.val)
  row : ∀ (i : Nat) r, rows[i]? = some r → Own w 0 E 1 r.val r.xs.length (f i)
  apart : ∀ (i j : Nat) r r', i < j → rows[i]? = some r → rows[j]? = some r' → ∀ b, r.val.ownBlock = some b → r'.val.ownBlock ≠ some b
  small : ∀ (i : Nat) r, rows[i]? = some r → r.xs.length ≤ 100000000
def RowsB (rows : List KRow) (b : Nat) : Prop := ∃ r ∈ rows, r.val.ownBlock = some b
theorem BR.rw_ {w : World} {E TE : TypeId} {K : IntKind} {v : Value} {rows : List KRow} (h : BR w E TE K v rows) : RW w E TE v rows (fun i => ((rows[i]?.map KRow.xs).getD []).map (.int K)) :=
  ⟨h.rv, fun i r hi => by simp only [hi, Option.map_some, Option.getD_some]; exact h.row i r hi, h.apart, fun i r hi => h.small r (List.mem_of_getElem? hi)⟩
theorem RW.below {w w' : World} {E TE : TypeId} {v : Value} {rows : List KRow} {f : Nat → List Value} (h : RW w E TE v rows f) (hb : Below w.heap.size w w') : RW w' E TE v rows f :=
  ⟨h.rv.below hb, fun i r hi => (h.row i r hi).below hb, h.apart, h.small⟩
theorem RW.ne {w : World} {E TE : TypeId} {v : Value} {rows : List KRow} {f : Nat → List Value} (h : RW w E TE v rows f) {i m : Nat} {r r' : KRow} (hi : rows[i]? = some r) (hm : rows[m]? = some r') (hne : m ≠ i) {b : Nat} (e : r.val.ownBlock = some b) : r'.val.ownBlock ≠ some b := by
  rcases Nat.lt_or_ge m i with hl | hl
  · exact fun e2 => h.apart m i r' r hl hm hi b e2 e
  · exact h.apart i m r r' (by omega) hi hm b e
theorem RW.store {w : World} {E TE : TypeId} {v : Value} {rows : List KRow} {f : Nat → List Value} (h : RW w E TE v rows f) (hne : E ≠ TE) {i g off c : Nat} {xs : List Int} (hi : rows[i]? = some ⟨some ⟨g, off, none⟩, c, xs⟩) (j : Nat) (u : Value) :
    RW (w.setCell ⟨g, off + j, none⟩ u) E TE v rows (fun m => if m = i then (f i).set j u else f m) := by
  have hb : (KRow.val ⟨some ⟨g, off, none⟩, c, xs⟩).ownBlock = some g := rfl
  obtain ⟨cur, hg⟩ := own_blk (h.row i _ hi) hb
  refine ⟨h.rv.set_other (h.rv.blk_ne hg hne) _, fun m r hm => ?_, h.apart, h.small⟩
  by_cases e : m = i
  · subst e
    rw [hi] at hm; cases hm
    rw [if_pos rfl]
    exact (h.row m _ hi).stored j u
  · rw [if_neg e]
    exact (h.row m r hm).set_other (h.ne hi hm e hb) _
def Full (mark : Nat → Value) (rows : List KRow) (f : Nat → List Value) (i k : Nat) : Prop :=
  (∀ m r, m < i → rows[m]? = some r → f m = List.replicate r.xs.length (mark m)) ∧ (f i).take k = List.replicate k (mark i)
theorem Full.start (mark : Nat → Value) (rows : List KRow) (f : Nat → List Value) : Full mark rows f 0 0 := ⟨fun m r h => by omega, by simp⟩
theorem Full.step {mark : Nat → Value} {rows : List KRow} {f : Nat → List Value} {i k : Nat} (h : Full mark rows f i k) (hk : k < (f i).length) : Full mark rows (fun m => if m = i then (f i).set k (mark i) else f m) i (k + 1) := by
  refine ⟨fun m r hm hr => ?_, ?_⟩
  · show (if m = i then (f i).set k (mark i) else f m) = _
    rw [if_neg (by omega)]; exact h.1 m r hm hr
  · show List.take (k + 1) (if i = i then (f i).set k (mark i) else f i) = _
    rw [if_pos rfl, List.take_add_one, List.take_set_of_le (Nat.le_refl _), h.2, List.getElem?_set_self hk, List.replicate_succ']
    rfl
theorem Full.next {w : World} {E TE : TypeId} {v : Value} {mark : Nat → Value} {rows : List KRow} {f : Nat → List Value} {i : Nat} {r : KRow} (h : Full mark rows f i r.xs.length) (hw : RW w E TE v rows f) (hi : rows[i]? = some r) : Full mark rows f (i + 1) 0 := by
  refine ⟨fun m r' hm hr => ?_, by simp⟩
  by_cases e : m = i
  · subst e
    rw [hi] at hr; cases hr
    have hl := (hw.row m _ hi).1
    rw [← h.2, List.take_of_length_le (by omega)]
  · exact h.1 m r' (by omega) hr
structure GR (base : Nat) (w : World) (E TE : TypeId) (mark m0 m1 : Nat → Value) (rows : List KRow) (gv : Value) (gs : List Value) : Prop where
  gv : Own w base TE 1 gv gs.length gs
  g : ∀ (i : Nat) r, i < gs.length → rows[i]? = some r → ∃ a c, gs[i]? = some (.slice a (r.xs.length + 2) c) ∧ Own w 0 E 1 (.slice a (r.xs.length + 2) c) (r.xs.length + 2) (List.replicate r.xs.length (mark i) ++ [m0 i, m1 i]) ∧
    ∀ b, (Value.slice a (r.xs.length + 2) c).ownBlock = some b → r.val.ownBlock = some b ∨ base ≤ b
theorem GR.start {base : Nat} {w : World} {E TE : TypeId} {mark m0 m1 : Nat → Value} {rows : List KRow} : GR base w E TE mark m0 m1 rows (.slice none 0 0) [] := ⟨Own.nil _ _ _ _, fun i r h => by simp at h⟩
theorem GR.below {base : Nat} {w w' : World} {E TE : TypeId} {mark m0 m1 : Nat → Value} {rows : List KRow} {gv : Value} {gs : List Value} (h : GR base w E TE mark m0 m1 rows gv gs) (hb : Below w.heap.size w w') : GR base w' E TE mark m0 m1 rows gv gs :=
  ⟨h.gv.below hb, fun i r h1 h2 => by
    obtain ⟨a, c, q1, q2, q3⟩ := h.g i r h1 h2
    exact ⟨a, c, q1, q2.below hb, q3⟩⟩
theorem grow_gv {base : Nat} {w w1 w2 w3 w4 : World} {E TE : TypeId} {mark m0 m1 : Nat → Value} {rows : List KRow} {gv g1 g2 rv : Value} {n : Nat} {xs ys na nb : List Value} {gs : List Value}
    (hg : GR base w E TE mark m0 m1 rows gv gs) (hbase : base ≤ w.heap.size) (hrb : ∀ b, rv.ownBlock = some b → b < base)
    (hb1 : Below w.heap.size w w1) (hA : AppP w1 0 E 1 rv n xs 1 na g1 w2) (hb2 : Below w2.heap.size w2 w3) (hB : AppP w3 0 E 1 g1 (n + 1) ys 1 nb g2 w4) : Own w4 base TE 1 gv gs.length gs := by
  have K1 : Kept (fun b => rv.ownBlock = some b) w w2 := (Kept.of_below hb1).trans ((Kept.of_grown hA.grown).mono (fun b e _ => e.symm)) (fun _ e _ => e)
  have K2 : Kept (fun b => g1.ownBlock = some b) w2 w4 := (Kept.of_below hb2).trans ((Kept.of_grown hB.grown).mono (fun b e _ => e.symm)) (fun _ e _ => e)
  have sw1 : w.heap.size ≤ w1.heap.size := hb1.size
  refine (hg.gv.kept K1 (fun b e e2 => by have := (hg.gv.lt b e).1; have := hrb b e2; omega)).kept K2 (fun b e e2 => ?_)
  rcases hA.blk with h | ⟨b', h, h2⟩
  · have := (hg.gv.lt b e).1; have := hrb b (h ▸ e2); omega
  · rw [h] at e2; cases e2
    have := (hg.gv.lt b e).2; omega
theorem grow_step {base : Nat} {w w1 w2 w3 w4 w5 w6 : World} {E TE : TypeId} {mark m0 m1 : Nat → Value} {rows : List KRow} {v gv gv' g1 g2 : Value} {gs : List Value} {f : Nat → List Value} {r : KRow} (hw : RW w E TE v rows f) (hf : ∀ m r, rows[m]? = some r → f m = List.replicate r.xs.length (mark m))
    (hg : GR base w E TE mark m0 m1 rows gv gs) (hi : rows[gs.length]? = some r) (hbase : base ≤ w.heap.size) (hrb : ∀ b, RowsB rows b → b < base) (hvb : ∀ b, v.ownBlock = some b → b < base) (hne : E ≠ TE)
    (hb1 : Below w.heap.size w w1) (hA : AppP w1 0 E 1 r.val r.xs.length (f gs.length) 1 [m0 gs.length] g1 w2)
    (hb2 : Below w2.heap.size w2 w3) (hB : AppP w3 0 E 1 g1 (r.xs.length + 1) (f gs.length ++ [m0 gs.length]) 1 [m1 gs.length] g2 w4)
    (hb3 : Below w4.heap.size w4 w5) (hC : AppP w5 base TE 1 gv gs.length gs 1 [g2] gv' w6) :
    RW w6 E TE v rows f ∧ GR base w6 E TE mark m0 m1 rows gv' (gs ++ [g2]) ∧ Kept (fun b => RowsB rows b ∨ base ≤ b) w w6 := by
  have hrm : r ∈ rows := List.mem_of_getElem? hi
  have K1 : Kept (fun b => r.val.ownBlock = some b) w w2 := (Kept.of_below hb1).trans ((Kept.of_grown hA.grown).mono (fun b e _ => e.symm)) (fun _ e _ => e)
  have K2 : Kept (fun b => g1.ownBlock = some b) w2 w4 := (Kept.of_below hb2).trans ((Kept.of_grown hB.grown).mono (fun b e _ => e.symm)) (fun _ e _ => e)
  have K3 : Kept (fun b => gv.ownBlock = some b) w4 w6 := (Kept.of_below hb3).trans ((Kept.of_grown hC.grown).mono (fun b e _ => e.symm)) (fun _ e _ => e)
  have s1 : w.heap.size ≤ w2.heap.size := K1.size
  have s2 : w2.heap.size ≤ w4.heap.size := K2.size
  have sw1 : w.heap.size ≤ w1.heap.size := hb1.size
  have sw3 : w2.heap.size ≤ w3.heap.size := hb2.size
  have g1b : ∀ b, g1.ownBlock = some b → r.val.ownBlock = some b ∨ w.heap.size ≤ b := fun b e => by
    rcases hA.blk with h | ⟨b', h, h2⟩
    · exact .inl (h ▸ e)
    · rw [h] at e; cases e; exact .inr (by omega)
  have gvb : ∀ b, gv.ownBlock = some b → base ≤ b := fun b e => (hg.gv.lt b e).1
  have rlt : ∀ b, r.val.ownBlock = some b → b < base := fun b e => hrb b ⟨r, hrm, e⟩
  have K : Kept (fun b => RowsB rows b ∨ base ≤ b) w w6 := by
    refine Kept.trans (S := fun b => RowsB rows b ∨ base ≤ b) (Kept.trans (S := fun b => RowsB rows b ∨ base ≤ b) (K1.mono (fun b e _ => .inl ⟨r, hrm, e⟩)) K2 (fun b e _ => ?_)) K3 (fun b e _ => .inr (gvb b e))
    rcases g1b b e with h | h
    · exact .inl ⟨r, hrm, h⟩
    · exact .inr (by omega)
  -- a row of type E is none of the list's
  have keep3 : ∀ {a : Value} {n : Nat} {xs : List Value}, Own w4 0 E 1 a n xs → Own w6 0 E 1 a n xs := fun {a n xs} h => h.kept K3 (fun b e e2 => by
    have h5 : Own w4 base TE 1 gv gs.length gs := (hg.gv.kept K1 (fun b e e2 => by have := gvb b e; have := rlt b e2; omega)).kept K2 (fun b e e2 => by
      rcases g1b b e2 with h | h
      · have := gvb b e; have := rlt b h; omega
      · have := (hg.gv.lt b e).2; omega)
    obtain ⟨cur, q⟩ := own_blk h e
    exact h5.blk_ne q hne e2)
  refine ⟨⟨hw.rv.kept K (fun b e h => ?_), fun m x hm => ?_, hw.apart, hw.small⟩, ⟨?_, fun j x hj hx => ?_⟩, K⟩
  · rcases h with ⟨x, hx, e2⟩ | h
    · obtain ⟨m, hm, rfl⟩ := List.mem_iff_getElem.1 hx
      obtain ⟨cur, q⟩ := own_blk (hw.row m _ (List.getElem?_eq_getElem hm)) e2
      exact hw.rv.blk_ne q hne e
    · have := hvb b e; omega
  · apply keep3
    by_cases e : m = gs.length
    · subst e
      rw [hi] at hm; cases hm
      rcases hA.same with ⟨a, c, e1, e2⟩ | ⟨b, e1, h1⟩
      · have h4 := hB.old
        rw [e2] at h4
        rw [e1]
        exact own_front0 h4 (by simpa using (hw.row _ _ hi).1)
      · refine hA.old.kept K2 (fun b2 e2 e3 => ?_)
        rw [e1] at e3; cases e3
        have := rlt b e2
        omega
    · refine ((hw.row m x hm).kept K1 (fun b e1 e2 => hw.ne hi hm e e2 e1)).kept K2 (fun b e1 e2 => ?_)
      rcases g1b b e2 with h | h
      · exact hw.ne hi hm e h e1
      · have := hrb b ⟨x, List.mem_of_getElem? hm, e1⟩; omega
  · rw [List.length_append]; exact hC.own
  · by_cases e : j < gs.length
    · obtain ⟨a, c, q1, q2, q3⟩ := hg.g j x e hx
      refine ⟨a, c, by rw [List.getElem?_append_left e]; exact q1, keep3 ((q2.kept K1 (fun b e1 e2 => ?_)).kept K2 (fun b e1 e2 => ?_)), q3⟩
      · rcases q3 b e1 with h | h
        · exact hw.ne hi hx (by omega) e2 h
        · have := rlt b e2; omega
      · rcases g1b b e2 with h | h
        · rcases q3 b e1 with h3 | h3
          · exact hw.ne hi hx (by omega) h h3
          · have := rlt b h; omega
        · have := (q2.lt b e1).2; omega
    · have hj2 : j = gs.length := by simp at hj; omega
      subst hj2
      rw [hi] at hx; cases hx
      obtain ⟨a, c, e2⟩ := hB.own.form
      have hO := hB.own
      subst e2
      refine ⟨a, c, by rw [List.getElem?_append_right (Nat.le_refl _)]; simp, keep3 ?_, fun b e => ?_⟩
      · rw [hf _ _ hi] at hO
        simpa [List.append_assoc] using hO
      · rcases hB.blk with h | ⟨b', h, h2⟩
        · rcases g1b b (h ▸ e) with h | h
          · exact .inl h
          · exact .inr (by omega)
        · have e' : some b' = some b := h.symm.trans e
          cases e'; exact .inr (by omega)
end Go.Proofs.YtmhjjhaipcgbiaaGreat
