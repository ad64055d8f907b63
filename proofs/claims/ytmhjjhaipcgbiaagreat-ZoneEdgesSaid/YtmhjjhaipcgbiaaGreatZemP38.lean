/- Texts of this claim, one behind the other: Zel, Zml, Zmg. -/
import Derived.Test.YtmhjjhaipcgbiaaGreatZemP36
import Derived.Test.YtmhjjhaipcgbiaaGreatZemP37

namespace Go.Proofs.YtmhjjhaipcgbiaaGreat
open Go.RowKit
set_option linter.unusedVariables false
set_option linter.unusedSimpArgs false
theorem cb_swap : ∀ (x y : List UInt8), Lib.compareBytes y x = - Lib.compareBytes x y
  | [], [] => by simp [Lib.compareBytes]
  | [], _ :: _ => by simp [Lib.compareBytes]
  | _ :: _, [] => by simp [Lib.compareBytes]
  | a :: x, b :: y => by
    simp only [Lib.compareBytes]
    by_cases hab : a < b
    · have h2 : ¬ b < a := UInt8.lt_asymm hab
      simp [hab, h2]
    · by_cases hba : b < a
      · simp [hab, hba]
      · simp only [hab, hba, if_false]; exact cb_swap x y
theorem cb_trans : ∀ (x y z : List UInt8), Lib.compareBytes x y ≤ 0 → Lib.compareBytes y z ≤ 0 → Lib.compareBytes x z ≤ 0
  | [], _, [] => by simp [Lib.compareBytes]
  | [], _, _ :: _ => by simp [Lib.compareBytes]
  | _ :: _, [], _ => by simp [Lib.compareBytes]
  | _ :: _, _ :: _, [] => by simp [Lib.compareBytes]
  | a :: x, b :: y, c :: z => by
    have ih := cb_trans x y z
    simp only [Lib.compareBytes]
    by_cases hab : a < b
    · by_cases hbc : b < c
      · have := UInt8.lt_trans hab hbc
        simp [this]
      · by_cases hcb : c < b
        · simp [hab, hbc, hcb]
        · have he : b = c := UInt8.le_antisymm (UInt8.not_lt.1 hcb) (UInt8.not_lt.1 hbc)
          subst he
          simp [hab]
    · by_cases hba : b < a
      · simp [hab, hba]
      · have he : a = b := UInt8.le_antisymm (UInt8.not_lt.1 hba) (UInt8.not_lt.1 hab)
        subst he
        simp only [hab, if_false]
        by_cases hac : a < c
        · simp [hac]
        · by_cases hca : c < a
          · simp [hac, hca]
          · simp only [hac, hca, if_false]; exact ih
theorem cmpS_swap (x y : Int) : cmpS y x = - cmpS x y := by
  unfold cmpS; split <;> split <;> (try split) <;> omega
theorem cmpS_trans {x y z : Int} (h1 : cmpS x y ≤ 0) (h2 : cmpS y z ≤ 0) : cmpS x z ≤ 0 := by
  unfold cmpS at *
  repeat' split at h1
  all_goals repeat' split at h2
  all_goals repeat' split
  all_goals omega
theorem cmpV_swap (k : Int) (a b : V) : cmpV k b a = - cmpV k a b := by
  unfold cmpV; split
  · exact cb_swap _ _
  · exact cmpS_swap _ _
theorem cmpV_trans {k : Int} {a b c : V} (h1 : cmpV k a b ≤ 0) (h2 : cmpV k b c ≤ 0) : cmpV k a c ≤ 0 := by
  unfold cmpV at *; split at h1
  · rename_i hw; rw [if_pos hw] at *; exact cb_trans _ _ _ h1 h2
  · rename_i hw; rw [if_neg hw] at *; exact cmpS_trans h1 h2
theorem cmpV_lt {k : Int} {a b c : V} (h1 : cmpV k a b ≤ 0) (h2 : cmpV k b c < 0) : cmpV k a c < 0 := by
  rcases Int.lt_or_le (cmpV k a c) 0 with h | h
  · exact h
  · have h3 : cmpV k c a ≤ 0 := by rw [cmpV_swap k a c]; omega
    have := cmpV_trans h3 h1
    rw [cmpV_swap k b c] at this
    omega
theorem cmpV_lt' {k : Int} {a b c : V} (h1 : cmpV k a b < 0) (h2 : cmpV k b c ≤ 0) : cmpV k a c < 0 := by
  rcases Int.lt_or_le (cmpV k a c) 0 with h | h
  · exact h
  · have h3 : cmpV k c a ≤ 0 := by rw [cmpV_swap k a c]; omega
    have := cmpV_trans h2 h3
    rw [cmpV_swap k a b] at this
    omega
theorem cmpV_self (k : Int) (a : V) : cmpV k a a = 0 := by
  have := cmpV_swap k a a; omega
theorem cmpV_bt (k : Int) (a : V) {b c : V} (h1 : b.bits = c.bits) (h2 : b.text = c.text) : cmpV k a b = cmpV k a c := by unfold cmpV; rw [h1, h2]
def plainB (k : Int) (v : V) : Bool := !v.null && !oddB k v.bits
def nNull (l : List V) : Nat := (l.filter (fun v => v.null)).length
def nOdd (k : Int) (l : List V) : Nat := (l.filter (fun v => !v.null && oddB k v.bits)).length
def edgeAt (k : Int) (x : V) (l : List V) : Nat → Int
  | 0 => -1
  | i + 1 => if (plainB k (l.getD i ⟨true, 0, []⟩) && decide (cmpV k (l.getD i ⟨true, 0, []⟩) x = 0)) && decide (edgeAt k x l i < 0) then i else edgeAt k x l i
theorem edgeAt_at {k : Int} {x : V} {l : List V} {m : Nat} (h1 : plainB k (l.getD m ⟨true, 0, []⟩) = true) (h2 : cmpV k (l.getD m ⟨true, 0, []⟩) x = 0) (h3 : ∀ j, j < m → plainB k (l.getD j ⟨true, 0, []⟩) = true → cmpV k (l.getD j ⟨true, 0, []⟩) x ≠ 0) : ∀ n, edgeAt k x l n = if n ≤ m then -1 else (m : Int)
  | 0 => by simp [edgeAt]
  | n + 1 => by
    have ih := edgeAt_at h1 h2 h3 n
    rw [edgeAt]
    rcases Nat.lt_trichotomy n m with hlt | heq | hgt
    · rw [if_pos (by omega : n ≤ m)] at ih
      rw [if_pos (by omega : n + 1 ≤ m), ih, if_neg]
      intro h
      simp only [Bool.and_eq_true, decide_eq_true_eq] at h
      exact h3 n hlt h.1.1 h.1.2
    · subst heq
      rw [if_pos (Nat.le_refl _)] at ih
      rw [if_neg (by omega : ¬ n + 1 ≤ n), ih, if_pos]
      simp only [Bool.and_eq_true, decide_eq_true_eq]
      exact ⟨⟨h1, h2⟩, by omega⟩
    · rw [if_neg (by omega : ¬ n ≤ m)] at ih
      rw [if_neg (by omega : ¬ n + 1 ≤ m), ih, if_neg]
      intro h
      simp only [Bool.and_eq_true, decide_eq_true_eq] at h
      omega
structure Edge (k : Int) (l : List V) (z : Zn) : Prop where
  nulls : z.nulls = nNull l
  odd : z.odd = nOdd k l
  has : z.has = decide (nNull l + nOdd k l < l.length)
  le : nNull l + nOdd k l ≤ l.length
  none : z.has = false → z.least = 0 ∧ z.most = 0 ∧ z.first = [] ∧ z.last = [] ∧ ∀ j, plainB k (l.getD j ⟨true, 0, []⟩) = false
  low : ∀ v ∈ l, plainB k v = true → 0 ≤ cmpV k v (zLow z) ∧ cmpV k v (zHigh z) ≤ 0
  least : z.has = true → ∃ m, m < l.length ∧ plainB k (l.getD m ⟨true, 0, []⟩) = true ∧ z.least = (l.getD m ⟨true, 0, []⟩).bits ∧ z.first = (l.getD m ⟨true, 0, []⟩).text ∧ ∀ j, j < m → plainB k (l.getD j ⟨true, 0, []⟩) = true → cmpV k (l.getD j ⟨true, 0, []⟩) (zLow z) ≠ 0
  most : z.has = true → ∃ m, m < l.length ∧ plainB k (l.getD m ⟨true, 0, []⟩) = true ∧ z.most = (l.getD m ⟨true, 0, []⟩).bits ∧ z.last = (l.getD m ⟨true, 0, []⟩).text ∧ ∀ j, j < m → plainB k (l.getD j ⟨true, 0, []⟩) = true → cmpV k (l.getD j ⟨true, 0, []⟩) (zHigh z) ≠ 0
theorem getD_app {l : List V} {v d : V} {j : Nat} (h : j < l.length) : (l ++ [v]).getD j d = l.getD j d := by
  simp [List.getD_eq_getElem?_getD, List.getElem?_append_left h]
theorem getD_last {l : List V} {v d : V} : (l ++ [v]).getD l.length d = v := by
  simp [List.getD_eq_getElem?_getD]
theorem getD_out {l : List V} {d : V} {j : Nat} (h : l.length ≤ j) : l.getD j d = d := by
  simp [List.getD_eq_getElem?_getD, List.getElem?_eq_none h]
theorem nNull_snoc (l : List V) (v : V) : nNull (l ++ [v]) = nNull l + if v.null then 1 else 0 := by
  unfold nNull; rw [List.filter_append, List.length_append]; simp only [List.filter_cons, List.filter_nil]; split <;> simp
theorem nOdd_snoc (k : Int) (l : List V) (v : V) : nOdd k (l ++ [v]) = nOdd k l + if !v.null && oddB k v.bits then 1 else 0 := by
  unfold nOdd; rw [List.filter_append, List.length_append]; simp only [List.filter_cons, List.filter_nil]; split <;> simp
theorem edge_same {k : Int} {l : List V} {z z' : Zn} {v : V} (h : Edge k l z) (hp : plainB k v = false) (h0 : z'.has = z.has) (h1 : z'.least = z.least) (h2 : z'.most = z.most) (h3 : z'.first = z.first) (h4 : z'.last = z.last) (hn : z'.nulls = nNull (l ++ [v])) (ho : z'.odd = nOdd k (l ++ [v])) (hs : nNull (l ++ [v]) + nOdd k (l ++ [v]) = nNull l + nOdd k l + 1) : Edge k (l ++ [v]) z' := by
  have el : zLow z' = zLow z := by unfold zLow; rw [h1, h3]
  have eh : zHigh z' = zHigh z := by unfold zHigh; rw [h2, h4]
  have hle := h.le
  refine ⟨hn, ho, ?_, ?_, ?_, ?_, ?_, ?_⟩
  · rw [h0, h.has, hs]; simp
  · rw [hs]; simp; omega
  · intro e
    obtain ⟨q1, q2, q3, q4, q5⟩ := h.none (h0 ▸ e)
    refine ⟨h1.trans q1, h2.trans q2, h3.trans q3, h4.trans q4, fun j => ?_⟩
    rcases Nat.lt_trichotomy j l.length with hj | hj | hj
    · rw [getD_app hj]; exact q5 j
    · subst hj; rw [getD_last]; exact hp
    · rw [getD_out (by simp; omega)]; rfl
  · intro u hu hpu
    rw [el, eh]
    rcases List.mem_append.1 hu with hu | hu
    · exact h.low u hu hpu
    · rw [List.mem_singleton.1 hu] at hpu; rw [hp] at hpu; cases hpu
  · intro e
    obtain ⟨m, q1, q2, q3, q4, q5⟩ := h.least (h0 ▸ e)
    refine ⟨m, by simp; omega, ?_, ?_, ?_, ?_⟩
    · rw [getD_app q1]; exact q2
    · rw [getD_app q1, h1]; exact q3
    · rw [getD_app q1, h3]; exact q4
    · intro j hj; rw [getD_app (by omega), el]; exact q5 j hj
  · intro e
    obtain ⟨m, q1, q2, q3, q4, q5⟩ := h.most (h0 ▸ e)
    refine ⟨m, by simp; omega, ?_, ?_, ?_, ?_⟩
    · rw [getD_app q1]; exact q2
    · rw [getD_app q1, h2]; exact q3
    · rw [getD_app q1, h4]; exact q4
    · intro j hj; rw [getD_app (by omega), eh]; exact q5 j hj
theorem mem_getD {k : Int} {l : List V} {j : Nat} (h : plainB k (l.getD j ⟨true, 0, []⟩) = true) : l.getD j ⟨true, 0, []⟩ ∈ l := by
  rcases Nat.lt_or_ge j l.length with hj | hj
  · rw [List.getD_eq_getElem?_getD, List.getElem?_eq_getElem hj]; exact List.getElem_mem hj
  · rw [getD_out hj] at h; cases h
theorem edge_with {k : Int} {l : List V} {z : Zn} {v : V} (h : Edge k l z) (hp : plainB k v = true) : Edge k (l ++ [v]) (zWith k z v) := by
  have hnn : nNull (l ++ [v]) = nNull l := by
    rw [nNull_snoc]; unfold plainB at hp; cases hv : v.null <;> simp_all
  have hno : nOdd k (l ++ [v]) = nOdd k l := by
    rw [nOdd_snoc]; unfold plainB at hp; cases hv : v.null <;> cases ho : oddB k v.bits <;> simp_all
  have hle := h.le
  have lowv : zLow (zWith k z v) = if zLo k z v then ⟨false, v.bits, v.text⟩ else zLow z := by unfold zLow zWith; dsimp only; split <;> rfl
  have highv : zHigh (zWith k z v) = if zHi k z v then ⟨false, v.bits, v.text⟩ else zHigh z := by unfold zHigh zWith; dsimp only; split <;> rfl
  have cv : ∀ u : V, cmpV k u ⟨false, v.bits, v.text⟩ = cmpV k u v := fun u => cmpV_bt k u rfl rfl
  have hev : z.has = false → ∀ u ∈ l, plainB k u = false := fun e u hu => by
    obtain ⟨i, hi, rfl⟩ := List.mem_iff_getElem.1 hu
    have := (h.none e).2.2.2.2 i
    rwa [List.getD_eq_getElem?_getD, List.getElem?_eq_getElem hi] at this
  have lof : zLo k z v = false → z.has = true ∧ 0 ≤ cmpV k v (zLow z) := fun e => by
    unfold zLo at e; simp only [Bool.or_eq_false_iff, Bool.not_eq_false', decide_eq_false_iff_not] at e; exact ⟨e.1, by omega⟩
  have hif : zHi k z v = false → z.has = true ∧ cmpV k v (zHigh z) ≤ 0 := fun e => by
    unfold zHi at e; simp only [Bool.or_eq_false_iff, Bool.not_eq_false', decide_eq_false_iff_not] at e; exact ⟨e.1, by omega⟩
  have lot : zLo k z v = true → z.has = true → cmpV k v (zLow z) < 0 := fun e e2 => by
    unfold zLo at e; rw [e2] at e; simpa using e
  have hit : zHi k z v = true → z.has = true → 0 < cmpV k v (zHigh z) := fun e e2 => by
    unfold zHi at e; rw [e2] at e; simpa using e
  refine ⟨by rw [hnn]; exact h.nulls, by rw [hno]; exact h.odd, ?_, ?_, ?_, ?_, ?_, ?_⟩
  · rw [hnn, hno]; simp only [List.length_append, List.length_cons, List.length_nil]
    symm; rw [show (zWith k z v).has = true from rfl]; exact decide_eq_true (by omega)
  · rw [hnn, hno]; simp; omega
  · intro e; cases (show true = false from e)
  · intro u hu hpu
    rw [lowv, highv]
    rcases List.mem_append.1 hu with hu | hu
    · have hh : z.has = true := by
        cases e : z.has with
        | true => rfl
        | false => rw [hev e u hu] at hpu; cases hpu
      obtain ⟨q1, q2⟩ := h.low u hu hpu
      constructor
      · split
        · rename_i e
          rw [cv]
          have h1 := lot e hh
          have h2 : cmpV k (zLow z) u ≤ 0 := by rw [cmpV_swap k u]; omega
          have := cmpV_lt' h1 h2
          rw [cmpV_swap k v u]; omega
        · exact q1
      · split
        · rename_i e
          rw [cv]
          have h1 := hit e hh
          have h2 : cmpV k (zHigh z) v < 0 := by rw [cmpV_swap k v]; omega
          have := cmpV_lt q2 h2
          omega
        · exact q2
    · rw [List.mem_singleton.1 hu]
      constructor
      · split
        · rw [cv, cmpV_self]; exact Int.le_refl _
        · rename_i e; exact (lof (by simpa using e)).2
      · split
        · rw [cv, cmpV_self]; exact Int.le_refl _
        · rename_i e; exact (hif (by simpa using e)).2
  · intro _
    rw [lowv]
    cases e : zLo k z v with
    | true =>
      refine ⟨l.length, by simp, by rw [getD_last]; exact hp, by rw [getD_last]; unfold zWith; simp [e], by rw [getD_last]; unfold zWith; simp [e], fun j hj hpj => ?_⟩
      rw [getD_app hj] at hpj ⊢
      rw [if_pos rfl, cv]
      have hm := mem_getD hpj
      have hh : z.has = true := by
        cases e2 : z.has with
        | true => rfl
        | false => rw [hev e2 _ hm] at hpj; cases hpj
      have h1 := lot e hh
      have h2 : cmpV k (zLow z) (l.getD j ⟨true, 0, []⟩) ≤ 0 := by rw [cmpV_swap k (l.getD j ⟨true, 0, []⟩)]; have := (h.low _ hm hpj).1; omega
      have := cmpV_lt' h1 h2
      rw [cmpV_swap k v]; omega
    | false =>
      obtain ⟨m, q1, q2, q3, q4, q5⟩ := h.least (lof e).1
      refine ⟨m, by simp; omega, ?_, ?_, ?_, ?_⟩
      · rw [getD_app q1]; exact q2
      · rw [getD_app q1]; unfold zWith; simpa [e] using q3
      · rw [getD_app q1]; unfold zWith; simpa [e] using q4
      · intro j hj; rw [getD_app (by omega)]; simpa using q5 j hj
  · intro _
    rw [highv]
    cases e : zHi k z v with
    | true =>
      refine ⟨l.length, by simp, by rw [getD_last]; exact hp, by rw [getD_last]; unfold zWith; simp [e], by rw [getD_last]; unfold zWith; simp [e], fun j hj hpj => ?_⟩
      rw [getD_app hj] at hpj ⊢
      rw [if_pos rfl, cv]
      have hm := mem_getD hpj
      have hh : z.has = true := by
        cases e2 : z.has with
        | true => rfl
        | false => rw [hev e2 _ hm] at hpj; cases hpj
      have h1 := hit e hh
      have h2 : cmpV k (zHigh z) v < 0 := by rw [cmpV_swap k v]; omega
      have := cmpV_lt (h.low _ hm hpj).2 h2
      omega
    | false =>
      obtain ⟨m, q1, q2, q3, q4, q5⟩ := h.most (hif e).1
      refine ⟨m, by simp; omega, ?_, ?_, ?_, ?_⟩
      · rw [getD_app q1]; exact q2
      · rw [getD_app q1]; unfold zWith; simpa [e] using q3
      · rw [getD_app q1]; unfold zWith; simpa [e] using q4
      · intro j hj; rw [getD_app (by omega)]; simpa using q5 j hj
theorem edge_step {k : Int} {l : List V} {z : Zn} (v : V) (h : Edge k l z) : Edge k (l ++ [v]) (zStep k z v) := by
  unfold zStep
  cases hn : v.null with
  | true =>
    simp only [if_true]
    refine edge_same h (by unfold plainB; rw [hn]; rfl) rfl rfl rfl rfl rfl ?_ ?_ ?_
    · rw [nNull_snoc, hn]; simp [h.nulls]
    · rw [nOdd_snoc, hn]; simp [h.odd]
    · rw [nNull_snoc, nOdd_snoc, hn]; simp; omega
  | false =>
    simp only [Bool.false_eq_true, if_false]
    cases ho : oddB k v.bits with
    | true =>
      simp only [if_true]
      refine edge_same h (by unfold plainB; rw [hn, ho]; rfl) rfl rfl rfl rfl rfl ?_ ?_ ?_
      · rw [nNull_snoc, hn]; simp [h.nulls]
      · rw [nOdd_snoc, hn, ho]; simp [h.odd]
      · rw [nNull_snoc, nOdd_snoc, hn, ho]; simp; omega
    | false =>
      simp only [Bool.false_eq_true, if_false]
      exact edge_with h (by unfold plainB; rw [hn, ho]; rfl)
theorem edge_fold (k : Int) (n : Nat) (l : List V) : Edge k l (zFold k n l) := by
  induction l using snoc_ind with
  | h0 => exact ⟨rfl, rfl, rfl, Nat.le_refl _, fun _ => ⟨rfl, rfl, rfl, rfl, fun j => rfl⟩, by simp, fun e => (by cases (show false = true from e)), fun e => (by cases (show false = true from e))⟩
  | h1 l v ih => rw [zFold_snoc]; exact edge_step v ih
end Go.Proofs.YtmhjjhaipcgbiaaGreat


namespace Go.Proofs.YtmhjjhaipcgbiaaGreat
open Go.RowKit
set_option linter.unusedVariables false
set_option linter.unusedSimpArgs false
def pkLo {α : Type} (r : α → α → Int) (x y : α) : α := if r y x < 0 then y else x
def pkHi {α : Type} (r : α → α → Int) (x y : α) : α := if 0 < r y x then y else x
structure Ord0 {α : Type} (r : α → α → Int) : Prop where
  swap : ∀ a b, r b a = - r a b
  trans : ∀ {a b c}, r a b ≤ 0 → r b c ≤ 0 → r a c ≤ 0
theorem Ord0.lt {α : Type} {r : α → α → Int} (h : Ord0 r) {a b c : α} (h1 : r a b ≤ 0) (h2 : r b c < 0) : r a c < 0 := by
  rcases Int.lt_or_le (r a c) 0 with h3 | h3
  · exact h3
  · have h4 : r c a ≤ 0 := by rw [h.swap a c]; omega
    have := h.trans h4 h1
    rw [h.swap b c] at this; omega
theorem Ord0.lt' {α : Type} {r : α → α → Int} (h : Ord0 r) {a b c : α} (h1 : r a b < 0) (h2 : r b c ≤ 0) : r a c < 0 := by
  rcases Int.lt_or_le (r a c) 0 with h3 | h3
  · exact h3
  · have h4 : r c a ≤ 0 := by rw [h.swap a c]; omega
    have := h.trans h2 h4
    rw [h.swap a b] at this; omega
theorem Ord0.flip {α : Type} {r : α → α → Int} (h : Ord0 r) : Ord0 (fun a b => r b a) := ⟨fun a b => h.swap b a, fun h1 h2 => h.trans h2 h1⟩
theorem pkLo_assoc {α : Type} {r : α → α → Int} (h : Ord0 r) (x y z : α) : pkLo r (pkLo r x y) z = pkLo r x (pkLo r y z) := by
  unfold pkLo
  by_cases h1 : r y x < 0
  · rw [if_pos h1]
    by_cases h2 : r z y < 0
    · rw [if_pos h2, if_pos (h.lt' h2 (by omega))]
    · rw [if_neg h2, if_pos h1]
  · rw [if_neg h1]
    by_cases h2 : r z y < 0
    · rw [if_pos h2]
    · rw [if_neg h2, if_neg h1]
      rw [if_neg]
      intro h3
      have h4 : r y z ≤ 0 := by rw [h.swap z y]; omega
      have := h.lt h4 h3
      omega
theorem pkHi_assoc {α : Type} {r : α → α → Int} (h : Ord0 r) (x y z : α) : pkHi r (pkHi r x y) z = pkHi r x (pkHi r y z) := by
  have e : ∀ a b, pkHi r a b = pkLo (fun a b => r b a) a b := fun a b => by
    unfold pkHi pkLo
    have : 0 < r b a ↔ r a b < 0 := by rw [h.swap a b]; omega
    simp only [this]
  simp only [e]
  exact pkLo_assoc h.flip x y z
theorem ord_I (k : Int) : Ord0 (fun a b : Nat => ordI k a b) :=
  ⟨fun a b => by unfold ordI; split; rfl; exact cmpS_swap _ _, fun {a b c} h1 h2 => by
    unfold ordI at *; split at h1
    · rename_i hw; rw [if_pos hw]; exact Int.le_refl _
    · rename_i hw; rw [if_neg hw] at *; exact cmpS_trans h1 h2⟩
theorem ord_T : Ord0 cmpT := ⟨fun a b => cb_swap _ _, fun h1 h2 => cb_trans _ _ _ h1 h2⟩
theorem join_both {k : Int} {a b : Zn} (ha : a.has = true) (hb : b.has = true) : zJoin k a b = ⟨a.n + b.n, a.nulls + b.nulls, a.odd + b.odd, true, pkLo (fun a b : Nat => ordI k a b) a.least b.least, pkHi (fun a b : Nat => ordI k a b) a.most b.most, pkLo cmpT a.first b.first, pkHi cmpT a.last b.last⟩ := by
  unfold zJoin zMid pickU pkLo pkHi; simp [ha, hb]
theorem join_left {k : Int} {a b : Zn} (ha : a.has = true) (hb : b.has = false) : zJoin k a b = ⟨a.n + b.n, a.nulls + b.nulls, a.odd + b.odd, true, a.least, a.most, a.first, a.last⟩ := by
  unfold zJoin zMid; simp [ha, hb]
theorem join_right {k : Int} {a b : Zn} (ha : a.has = false) : zJoin k a b = ⟨a.n + b.n, a.nulls + b.nulls, a.odd + b.odd, b.has, b.least, b.most, b.first, b.last⟩ := by
  unfold zJoin zMid; simp [ha]
theorem join_has (k : Int) (a b : Zn) : (zJoin k a b).has = (a.has || b.has) := by
  cases ha : a.has with
  | false => rw [join_right ha]; rfl
  | true => cases hb : b.has with
    | true => rw [join_both ha hb]; rfl
    | false => rw [join_left ha hb]; rfl
theorem zn_add {a1 a2 b1 b2 c1 c2 : Nat} {h : Bool} {l m : Nat} {f g : List Int} (ha : a1 = a2) (hb : b1 = b2) (hc : c1 = c2) : (⟨a1, b1, c1, h, l, m, f, g⟩ : Zn) = ⟨a2, b2, c2, h, l, m, f, g⟩ := by subst ha hb hc; rfl
theorem join_assoc (k : Int) (a b c : Zn) : zJoin k (zJoin k a b) c = zJoin k a (zJoin k b c) := by
  cases ha : a.has with
  | false =>
    have e : (zJoin k a b).has = b.has := by rw [join_has, ha]; rfl
    cases hb : b.has with
    | false => 
      rw [join_right (b := c) (e.trans hb), join_right ha, join_right ha, join_right hb]
      exact zn_add (Nat.add_assoc _ _ _) (Nat.add_assoc _ _ _) (Nat.add_assoc _ _ _)
    | true =>
      cases hc : c.has with
      | true =>
        rw [join_both (e.trans hb) hc, join_right ha, join_right ha, join_both hb hc]
        exact zn_add (Nat.add_assoc _ _ _) (Nat.add_assoc _ _ _) (Nat.add_assoc _ _ _)
      | false =>
        rw [join_left (e.trans hb) hc, join_right ha, join_right ha, join_left hb hc]
        exact zn_add (Nat.add_assoc _ _ _) (Nat.add_assoc _ _ _) (Nat.add_assoc _ _ _)
  | true =>
    have e : (zJoin k a b).has = true := by rw [join_has, ha]; rfl
    cases hb : b.has with
    | false =>
      have e2 : (zJoin k b c).has = c.has := by rw [join_has, hb]; rfl
      cases hc : c.has with
      | true =>
        rw [join_both e hc, join_both ha (e2.trans hc), join_left ha hb, join_right hb]
        exact zn_add (Nat.add_assoc _ _ _) (Nat.add_assoc _ _ _) (Nat.add_assoc _ _ _)
      | false =>
        rw [join_left e hc, join_left ha (e2.trans hc), join_left ha hb, join_right hb]
        exact zn_add (Nat.add_assoc _ _ _) (Nat.add_assoc _ _ _) (Nat.add_assoc _ _ _)
    | true =>
      have e2 : (zJoin k b c).has = true := by rw [join_has, hb]; rfl
      cases hc : c.has with
      | true =>
        rw [join_both e hc, join_both ha e2, join_both ha hb, join_both hb hc]
        refine zn_ext (Nat.add_assoc _ _ _) (Nat.add_assoc _ _ _) (Nat.add_assoc _ _ _) rfl ?_ ?_ ?_ ?_
        · exact pkLo_assoc (ord_I k) _ _ _
        · exact pkHi_assoc (ord_I k) _ _ _
        · exact pkLo_assoc ord_T _ _ _
        · exact pkHi_assoc ord_T _ _ _
      | false =>
        rw [join_left e hc, join_both ha e2, join_both ha hb, join_left hb hc]
        exact zn_add (Nat.add_assoc _ _ _) (Nat.add_assoc _ _ _) (Nat.add_assoc _ _ _)
theorem join_withN (m : Nat) (q : Int) (a b : Zn) : zJoin q a (b.withN m) = (zJoin q a b).withN (a.n + m) := by
  unfold Zn.withN zJoin zMid
  cases ha : a.has <;> cases hb : b.has <;> simp [ha, hb]
theorem join_empty {k : Int} {a : Zn} (ha : ZE a) (m : Nat) : zJoin k a ⟨m, 0, 0, false, 0, 0, [], []⟩ = a.withN (a.n + m) := by
  cases h : a.has with
  | true => rw [join_left h rfl]; unfold Zn.withN; simp [h]
  | false =>
    obtain ⟨h1, h2, h3, h4⟩ := ha h
    rw [join_right h]; unfold Zn.withN; simp [h, h1, h2, h3, h4]
theorem fold_app {k s : Int} (n m : Nat) (l1 l2 : List V) (h : ∀ v ∈ l1 ++ l2, vOK k s v ∧ v.text.length ≤ 100000000) : zJoin k (zFold k n l1) (zFold k m l2) = zFold k (n + m) (l1 ++ l2) := by
  have h1 : ∀ v ∈ l1, vOK k s v ∧ v.text.length ≤ 100000000 := fun v hv => h v (List.mem_append_left _ hv)
  have h2 : ∀ v ∈ l2, vOK k s v ∧ v.text.length ≤ 100000000 := fun v hv => h v (List.mem_append_right _ hv)
  have hn1 := (zinv (k := k) (s := s) (n := n) l1 h1).nn
  clear h
  induction l2 using snoc_ind with
  | h0 =>
    rw [List.append_nil, show zFold k m [] = ⟨m, 0, 0, false, 0, 0, [], []⟩ from rfl, join_empty (ze_fold _ _ _), hn1, zFold_n k (n + m) n l1]
  | h1 l v ih =>
    have hl : ∀ v ∈ l, vOK k s v ∧ v.text.length ≤ 100000000 := fun u hu => h2 u (List.mem_append_left _ hu)
    have hv := h2 v (by simp)
    have ih := ih hl
    have i1 := zinv (k := k) (s := s) (n := m) l hl
    have i2 := zinv (k := k) (s := s) (n := n + m) (l1 ++ l) (fun u hu => (List.mem_append.1 hu).elim (h1 u) (hl u))
    have e1 := join_step k (zFold k m l) v i1.ok (ze_fold _ _ _) (fun a b => plain_of hv.1 a b)
    have e2 := join_step k (zFold k (n + m) (l1 ++ l)) v i2.ok (ze_fold _ _ _) (fun a b => plain_of hv.1 a b)
    rw [← List.append_assoc, zFold_snoc, zFold_snoc]
    have e3 : zStep k (zFold k m l) v = (zJoin k (zFold k m l) (zOne k v)).withN m := by
      rw [e1]; unfold Zn.withN; dsimp only
      have : (zStep k (zFold k m l) v).n = m := by rw [← zFold_snoc]; exact (zinv (k := k) (s := s) (n := m) (l ++ [v]) h2).nn
      cases hz : zStep k (zFold k m l) v; rw [hz] at this; simp at this; subst this; rfl
    have e4 : zStep k (zFold k (n + m) (l1 ++ l)) v = (zJoin k (zFold k (n + m) (l1 ++ l)) (zOne k v)).withN (n + m) := by
      rw [e2]; unfold Zn.withN; dsimp only
      have : (zStep k (zFold k (n + m) (l1 ++ l)) v).n = n + m := by rw [← zFold_snoc]; exact (zinv (k := k) (s := s) (n := n + m) (l1 ++ l ++ [v]) (fun u hu => by
        rcases List.mem_append.1 hu with hu | hu
        · exact (List.mem_append.1 hu).elim (h1 u) (hl u)
        · rw [List.mem_singleton.1 hu]; exact hv)).nn
      cases hz : zStep k (zFold k (n + m) (l1 ++ l)) v; rw [hz] at this; simp at this; subst this; rfl
    rw [e3, e4, join_withN, ← join_assoc, ih, hn1]
theorem zoneC_built {k s : Int} (ho : okType k s = true) {l : List V} (hf : Few l ∧ ∀ v ∈ l, vOK k s v) : zoneC (colOf k s l) = zFold k l.length l := by
  have hF := built_facts ho hf.1 hf.2
  have hn : (colOf k s l).n.toNat = l.length := by have := hF.n; unfold colOf; omega
  unfold zoneC
  rw [hn, valsC_built hF hf.2 _ (Nat.le_refl _), List.take_length]
  rfl
theorem mod_built {k s : Int} (ho : okType k s = true) {l : List V} (hf : Few l ∧ ∀ v ∈ l, vOK k s v) : Mod19 (colOf k s l) := by
  have hF := built_facts ho hf.1 hf.2
  have hn : (colOf k s l).n = (l.length : Int) := hF.n
  refine ⟨fun _ => by have := hf.1.1; omega, fun i hi => ?_⟩
  have hi' : i < l.length := by omega
  rw [show valC (colOf k s l) i = l[i] from valC_built hF hf.2 i hi']
  exact hf.1.2 _ (List.getElem_mem hi')
end Go.Proofs.YtmhjjhaipcgbiaaGreat


namespace Go.Proofs.YtmhjjhaipcgbiaaGreat
open Go.RowKit
set_option linter.unusedVariables false
set_option linter.unusedSimpArgs false
set_option maxRecDepth 100000
set_option maxHeartbeats 1000000
attribute [local go_sem] Oper.semAt_some
def MergeP (k s : Int) (z : Zn) (w : World) (e : Ending) (w' : World) : Prop := ∃ F' L' : SL, e = .returned (.tuple #[zV k s z F' L', .int .i64 0]) ∧ ZOwn z F' L' w.heap.size w' ∧ Below w.heap.size w w'
theorem zmerge_yes (k s : Int) (ho : okType k s = true) (a b : Zn) (hza : ZOB k a) (hzb : ZOB k b) (hs : a.n + b.n ≤ 1000000 ∧ a.nulls + b.nulls ≤ 1000000 ∧ a.odd + b.odd ≤ 1000000) (hf : (zJoin k a b).first.length ≤ 100000000 ∧ (zJoin k a b).last.length ≤ 100000000) (F L F2 L2 : SL) (w : World) (hF : RdT w a.first F) (hL : RdT w a.last L) (hF2 : RdT w b.first F2) (hL2 : RdT w b.last L2) :
    Calls Tryz.prog 69 #[zV k s a F L, zV k s b F2 L2] w (MergeP k s (zJoin k a b) w) := by
  have hk16 : 1 ≤ k ∧ k ≤ 16 := by unfold okType at ho; simp at ho; omega
  obtain ⟨t1, t2, t3, t4, t5⟩ := below_three' w (.cells #[.int .i64 k, .int .i64 s, .int .i64 (a.n : Int), .int .i64 (a.nulls : Int), .int .i64 (a.odd : Int), .bool a.has, .int .u64 (a.least : Int), .int .u64 (a.most : Int), .slice F.a a.first.length F.c, .slice L.a a.last.length L.c] 79 (0, 0)) (.cells #[.int .i64 k, .int .i64 s, .int .i64 (b.n : Int), .int .i64 (b.nulls : Int), .int .i64 (b.odd : Int), .bool b.has, .int .u64 (b.least : Int), .int .u64 (b.most : Int), .slice F2.a b.first.length F2.c, .slice L2.a b.last.length L2.c] 79 (0, 0)) (.cells #[.int .i64 0, .int .i64 0, .int .i64 0, .int .i64 0, .int .i64 0, .bool false, .int .u64 0, .int .u64 0, .slice none 0 0, .slice none 0 0] 79 (0, 0))
  have hq : ∀ W', (((w.alloc (.cells #[.int .i64 k, .int .i64 s, .int .i64 (a.n : Int), .int .i64 (a.nulls : Int), .int .i64 (a.odd : Int), .bool a.has, .int .u64 (a.least : Int), .int .u64 (a.most : Int), .slice F.a a.first.length F.c, .slice L.a a.last.length L.c] 79)).alloc (.cells #[.int .i64 k, .int .i64 s, .int .i64 (b.n : Int), .int .i64 (b.nulls : Int), .int .i64 (b.odd : Int), .bool b.has, .int .u64 (b.least : Int), .int .u64 (b.most : Int), .slice F2.a b.first.length F2.c, .slice L2.a b.last.length L2.c] 79)).alloc (.cells #[.int .i64 0, .int .i64 0, .int .i64 0, .int .i64 0, .int .i64 0, .bool false, .int .u64 0, .int .u64 0, .slice none 0 0, .slice none 0 0] 79)) = W' → Below w.heap.size w W' ∧ W'.heap.size = w.heap.size + 3 ∧ W'.heap[w.heap.size]? = some (.cells #[.int .i64 k, .int .i64 s, .int .i64 (a.n : Int), .int .i64 (a.nulls : Int), .int .i64 (a.odd : Int), .bool a.has, .int .u64 (a.least : Int), .int .u64 (a.most : Int), .slice F.a a.first.length F.c, .slice L.a a.last.length L.c] 79 (0, 0)) ∧ W'.heap[w.heap.size + 1]? = some (.cells #[.int .i64 k, .int .i64 s, .int .i64 (b.n : Int), .int .i64 (b.nulls : Int), .int .i64 (b.odd : Int), .bool b.has, .int .u64 (b.least : Int), .int .u64 (b.most : Int), .slice F2.a b.first.length F2.c, .slice L2.a b.last.length L2.c] 79 (0, 0)) ∧ W'.heap[w.heap.size + 1 + 1]? = some (.cells #[.int .i64 0, .int .i64 0, .int .i64 0, .int .i64 0, .int .i64 0, .bool false, .int .u64 0, .int .u64 0, .slice none 0 0, .slice none 0 0] 79 (0, 0)) := fun W' e => by rw [← e]; exact ⟨t1, t2, t3, t4, t5⟩
  clear t1 t2 t3 t4 t5
  have HCT := Aside.mk (fun w2 => by have := checkType_any k s w2; rw [ho] at this; exact this)
  have HJ := Aside.mk (fun w2 (hb : Below w.heap.size w w2) => join_any k s hk16 a b hza hzb hs F L F2 L2 w2 (hF.below hb) (hL.below hb) (hF2.below hb) (hL2.below hb))
  have HRD := Aside.mk (And.intro hF (And.intro hL (And.intro hF2 hL2)))
  obtain ⟨z, hz⟩ : ∃ z, zJoin k a b = z := ⟨_, rfl⟩
  rw [hz] at hf HJ
  rw [hz]
  have HFW := Aside.mk hf
  dsimp only [zV] at *
  clear hF hL hF2 hL2 hf hza hzb hs ho hk16 hz
  go_enter Tryz.func69, Tryz.ntmps69
  go_upto_region 1 with fail
  generalize (((w.alloc (.cells #[.int .i64 k, .int .i64 s, .int .i64 (a.n : Int), .int .i64 (a.nulls : Int), .int .i64 (a.odd : Int), .bool a.has, .int .u64 (a.least : Int), .int .u64 (a.most : Int), .slice F.a a.first.length F.c, .slice L.a a.last.length L.c] 79)).alloc (.cells #[.int .i64 k, .int .i64 s, .int .i64 (b.n : Int), .int .i64 (b.nulls : Int), .int .i64 (b.odd : Int), .bool b.has, .int .u64 (b.least : Int), .int .u64 (b.most : Int), .slice F2.a b.first.length F2.c, .slice L2.a b.last.length L2.c] 79)).alloc (.cells #[.int .i64 0, .int .i64 0, .int .i64 0, .int .i64 0, .int .i64 0, .bool false, .int .u64 0, .int .u64 0, .slice none 0 0, .slice none 0 0] 79)) = w1 at *
  obtain ⟨t1, t2, t3, t4, t5⟩ := hq w1 rfl
  have B1 := Aside.mk t1
  have S1 := Aside.mk t2
  have T1 := Aside.mk (And.intro t3 (And.intro t4 t5))
  clear hq t1 t2 t3 t4 t5
  obtain ⟨a0, a1, a2, a3, a4, a5, a6, a7, a8, a9⟩ := box10 T1.out.1
  obtain ⟨b0, b1, b2, b3, b4, b5, b6, b7, b8, b9⟩ := box10 T1.out.2.1
  go_upto_region 3 with (go_at_call 70; refine (HCT.out _).mono ?_; rintro e w2 ⟨rfl, hb⟩; clear a0 a1 a2 a3 a4 a5 a6 a7 a8 a9 b0 b1 b2 b3 b4 b5 b6 b7 b8 b9; have T2 := Aside.mk (And.intro ((hb.block _ (lt_of_blk T1.out.1)).trans T1.out.1) (And.intro ((hb.block _ (lt_of_blk T1.out.2.1)).trans T1.out.2.1) ((hb.block _ (lt_of_blk T1.out.2.2)).trans T1.out.2.2))); have B2_ := Aside.mk (below_chain B1.out hb); clear hb)
  obtain ⟨a0, a1, a2, a3, a4, a5, a6, a7, a8, a9⟩ := box10 T2.out.1
  obtain ⟨b0, b1, b2, b3, b4, b5, b6, b7, b8, b9⟩ := box10 T2.out.2.1
  go_upto_region 4 with (go_at_call 101; refine (HJ.out _ B2_.out).mono ?_; rintro e W1 ⟨F, L, rfl, hf1, hl1, hb⟩; clear a0 a1 a2 a3 a4 a5 a6 a7 a8 a9 b0 b1 b2 b3 b4 b5 b6 b7 b8 b9; have HJF := Aside.mk (And.intro hf1 hl1); have TR := Aside.mk ((hb.block _ (lt_of_blk T2.out.2.2)).trans T2.out.2.2); have B3 := Aside.mk (below_chain B2_.out hb); clear hb hf1 hl1)
  have hzb := heap_alloc_new W1 (.cells #[.int .i64 k, .int .i64 s, .int .i64 (z.n : Int), .int .i64 (z.nulls : Int), .int .i64 (z.odd : Int), .bool z.has, .int .u64 (z.least : Int), .int .u64 (z.most : Int), .slice F.a z.first.length F.c, .slice L.a z.last.length L.c] 79)
  have hbw := below_new W1 (.cells #[.int .i64 k, .int .i64 s, .int .i64 (z.n : Int), .int .i64 (z.nulls : Int), .int .i64 (z.odd : Int), .bool z.has, .int .u64 (z.least : Int), .int .u64 (z.most : Int), .slice F.a z.first.length F.c, .slice L.a z.last.length L.c] 79)
  have hsz : (W1.alloc (.cells #[.int .i64 k, .int .i64 s, .int .i64 (z.n : Int), .int .i64 (z.nulls : Int), .int .i64 (z.odd : Int), .bool z.has, .int .u64 (z.least : Int), .int .u64 (z.most : Int), .slice F.a z.first.length F.c, .slice L.a z.last.length L.c] 79)).heap.size = W1.heap.size + 1 := by simp
  generalize W1.alloc (.cells #[.int .i64 k, .int .i64 s, .int .i64 (z.n : Int), .int .i64 (z.nulls : Int), .int .i64 (z.odd : Int), .bool z.has, .int .u64 (z.least : Int), .int .u64 (z.most : Int), .slice F.a z.first.length F.c, .slice L.a z.last.length L.c] 79) = W at *
  have HZB := Aside.mk hzb
  have B4 := Aside.mk (below_chain B3.out hbw)
  have HTR := Aside.mk ((hbw.block _ (lt_of_blk TR.out)).trans TR.out)
  have HFL := Aside.mk (And.intro (HJF.out.1 W (HRD.out.1.below B4.out) (HRD.out.2.2.1.below B4.out)) (HJF.out.2 W (HRD.out.2.1.below B4.out) (HRD.out.2.2.2.below B4.out)))
  have HLT := Aside.mk (show w.heap.size + 1 + 1 < W1.heap.size ∧ W.heap.size = W1.heap.size + 1 from ⟨lt_of_blk TR.out, hsz⟩)
  obtain ⟨z0, z1, z2, z3, z4, z5, z6, z7, z8, z9⟩ := box10 hzb
  have zf := fun k => frozen_blk (k := k) hzb
  have zl := lt_of_blk hzb
  clear hzb hbw hsz B1 S1 T1 T2 HJ HCT HJF
  refine wp_regionO (fun U : World => U.cell? ⟨W1.heap.size, 9, none⟩ = some (.slice L.a z.last.length L.c)) 9 10 (by kernel_rfl) rfl ?_
  have hS : (fun U : World => U.cell? ⟨W1.heap.size, 9, none⟩ = some (.slice L.a z.last.length L.c)) W.drew := z9
  refine wpE_take (k := 0) (o := ⟨some 22, _, _, _, _, _⟩) (v := ?_) rfl (by kernel_rfl) (by kernel_rfl) (by kernel_rfl) (by kernel_rfl) (fun _ _ _ h => absurd h.1 (by simp)) (Or.inl ⟨by rfl, ?_⟩) (by assumption) ?_
  rotate_left
  · (intro w hSw; (try dsimp only at hSw); go_simp; (try with_reducible rfl))
  (try simp only [Act.put, List.setIfInBounds_toArray, List.set_cons_zero, List.set_cons_succ])
  refine wpE_take (k := 3) (o := ⟨some 25, _, _, _, _, _⟩) (v := ?_) rfl (by kernel_rfl) (by kernel_rfl) (by kernel_rfl) (by kernel_rfl) (fun _ _ _ h => absurd h.1 (by simp)) (Or.inl ⟨by rfl, ?_⟩) (by assumption) ?_
  rotate_left
  · (intro w hSw; (try dsimp only at hSw); go_simp; (try with_reducible rfl))
  (try simp only [Act.put, List.setIfInBounds_toArray, List.set_cons_zero, List.set_cons_succ])
  refine wpE_take (k := 4) (o := ⟨some 26, _, _, _, _, _⟩) (v := ?_) rfl (by kernel_rfl) (by kernel_rfl) (by kernel_rfl) (by kernel_rfl) (fun _ _ _ h => absurd h.1 (by simp)) (Or.inl ⟨by rfl, ?_⟩) (by assumption) ?_
  rotate_left
  · (intro w hSw; (try dsimp only at hSw); go_simp; (try with_reducible rfl))
  (try simp only [Act.put, List.setIfInBounds_toArray, List.set_cons_zero, List.set_cons_succ])
  refine wpE_one (k := 1) (o := ⟨some 23, _, _, _, _, _⟩) rfl (by kernel_rfl) (fun K hK => ?_)
  go_simp
  refine hK.out _ _ (hS) (fun hS => ?_)
  clear hK K
  try simp only [Act.put, List.setIfInBounds_toArray, List.set_cons_zero, List.set_cons_succ]
  refine wpE_one (k := 2) (o := ⟨some 24, _, _, _, _, _⟩) rfl (by kernel_rfl) (fun K hK => ?_)
  refine step_call (P := Tryz.prog) W.drew (by rfl) 102 [.tmp 23] _ (by rfl) [.slice F.a z.first.length F.c] (by rfl) (fun _ _ => rfl) (bclone_any z.first F HFW.out.1 W.drew (HFL.out.1.below (below_drewN W _ 1))) ?_
  rintro e wd ⟨A1, k1, rfl, ho1, hb1⟩
  refine ⟨_, rfl, ?_⟩
  have B1 := Aside.mk (undrew hb1)
  have HT1 := Aside.mk (show Own wd W.heap.size 5 1 (.slice A1 z.first.length k1) z.first.length (z.first.map (.int .u8)) from ho1)
  have HZd := Aside.mk ((B1.out.block _ (lt_of_blk HZB.out)).trans HZB.out)
  clear hb1 ho1 z0 z1 z2 z3 z4 z5 z6 z7 z8 z9 zf zl
  obtain ⟨z0, z1, z2, z3, z4, z5, z6, z7, z8, z9⟩ := box10 HZd.out
  refine hK.out _ _ (z9) (fun hS => ?_)
  clear hK K
  try simp only [Act.put, List.setIfInBounds_toArray, List.set_cons_zero, List.set_cons_succ]
  refine wpE_take (k := 6) (o := ⟨some 28, _, _, _, _, _⟩) (v := ?_) rfl (by kernel_rfl) (by kernel_rfl) (by kernel_rfl) (by kernel_rfl) (fun _ _ _ h => absurd h.1 (by simp)) (Or.inl ⟨by rfl, ?_⟩) (by assumption) ?_
  rotate_left
  · (intro w hSw; (try dsimp only at hSw); go_simp; (try with_reducible rfl))
  (try simp only [Act.put, List.setIfInBounds_toArray, List.set_cons_zero, List.set_cons_succ])
  refine wpE_one (k := 5) (o := ⟨some 27, _, _, _, _, _⟩) rfl (by kernel_rfl) (fun K hK => ?_)
  refine step_call (P := Tryz.prog) wd (by rfl) 102 [.tmp 26] _ (by rfl) [.slice L.a z.last.length L.c] (by rfl) (fun _ _ => rfl) (bclone_any z.last L HFW.out.2 wd (HFL.out.2.below B1.out)) ?_
  rintro e we ⟨A2, k2, rfl, ho2, hb2⟩
  refine ⟨_, rfl, ?_⟩
  have B2 := Aside.mk (below_chain B1.out hb2)
  have HT2 := Aside.mk (show ZOwn z ⟨A1, k1⟩ ⟨A2, k2⟩ W.heap.size we from ⟨HT1.out.below hb2, ho2.mono B1.out.size, fun k e1 e2 => by have := (HT1.out.lt k e1).2; have := (ho2.lt k e2).1; omega⟩)
  clear HT1
  have HZe := Aside.mk ((hb2.block _ (lt_of_blk HZd.out)).trans HZd.out)
  clear hb2 ho2 z0 z1 z2 z3 z4 z5 z6 z7 z8 z9
  obtain ⟨z0, z1, z2, z3, z4, z5, z6, z7, z8, z9⟩ := box10 HZe.out
  have zf := fun k => frozen_blk (k := k) HZe.out
  have zl := lt_of_blk HZe.out
  refine hK.out _ _ (z9) (fun hS => ?_)
  clear hK K
  try simp only [Act.put, List.setIfInBounds_toArray, List.set_cons_zero, List.set_cons_succ]
  refine wpE_one (k := 7) (o := ⟨none, _, _, _, _, _⟩) rfl (by kernel_rfl) (fun K hK => ?_)
  go_simp
  refine hK.out _ _ ((by obtain ⟨x0, x1, x2, x3, x4, x5, x6, x7, x8, x9⟩ := box10 (set10_8 HZe.out (.slice A1 z.first.length k1)); exact x9)) (fun hS => ?_)
  clear hK K
  try simp only [Act.put, List.setIfInBounds_toArray, List.set_cons_zero, List.set_cons_succ]
  refine wpE_take (k := 8) (o := ⟨some 29, _, _, _, _, _⟩) (v := ?_) rfl (by kernel_rfl) (by kernel_rfl) (by kernel_rfl) (by kernel_rfl) (fun _ _ _ h => absurd h.1 (by simp)) (Or.inl ⟨by rfl, ?_⟩) (by assumption) ?_
  rotate_left
  · (intro w hSw; (try dsimp only at hSw); go_simp; (try with_reducible rfl))
  (try simp only [Act.put, List.setIfInBounds_toArray, List.set_cons_zero, List.set_cons_succ])
  refine wpE_last (k := 9) (o := ⟨none, _, _, _, _, _⟩) rfl (by kernel_rfl) (by kernel_rfl) rfl (fun K hK => ?_)
  go_simp
  refine hK.out _ _ ?_
  clear hK K
  refine ⟨rfl, ?_⟩
  clear hS z0 z1 z2 z3 z4 z5 z6 z7 z8 z9 zf zl
  have hre := (B2.out.block _ (lt_of_blk HTR.out)).trans HTR.out
  have hlt := HLT.out
  have hne : w.heap.size + 1 + 1 ≠ W1.heap.size := by omega
  have hK2 := kept89 we W1.heap.size (.slice A1 z.first.length k1) (.slice A2 z.last.length k2)
  have hzf := set10_89 HZe.out (.slice A1 z.first.length k1) (.slice A2 z.last.length k2)
  have hrf := (hK2.block _ (lt_of_blk hre) hne).trans hre
  have ht2 := HT2.out.kept hK2 (fun k e => by omega)
  have hbw := below_chain B4.out B2.out
  have hbf := hbw.trans (hK2.to_below hbw.size (fun k e => by omega))
  have hs4 := B4.out.size
  generalize (we.setCell ⟨W1.heap.size, 8, none⟩ (.slice A1 z.first.length k1)).setCell ⟨W1.heap.size, 9, none⟩ (.slice A2 z.last.length k2) = wf at *
  have HT := Aside.mk ht2
  have HBF := Aside.mk hbf
  have HRF := Aside.mk hrf
  clear hK2 ht2 hbf hre hbw hlt
  obtain ⟨z0, z1, z2, z3, z4, z5, z6, z7, z8, z9⟩ := box10 hzf
  obtain ⟨r0, r1, r2, r3, r4, r5, r6, r7, r8, r9⟩ := box10 hrf
  have rf := fun k => frozen_blk (k := k) hrf
  have rl := lt_of_blk hrf
  clear hzf hrf
  go_wp2_with fail
  have K10 := kept10 wf (w.heap.size + 1 + 1) (.int .i64 k) (.int .i64 s) (.int .i64 (z.n : Int)) (.int .i64 (z.nulls : Int)) (.int .i64 (z.odd : Int)) (.bool z.has) (.int .u64 (z.least : Int)) (.int .u64 (z.most : Int)) (.slice A1 z.first.length k1) (.slice A2 z.last.length k2)
  have hlt := HLT.out
  have hbg := HBF.out.trans (K10.to_below HBF.out.size (fun k e => by omega))
  have ht := HT.out.kept K10 (fun k e => by omega)
  have hrg := set10 HRF.out (.int .i64 k) (.int .i64 s) (.int .i64 (z.n : Int)) (.int .i64 (z.nulls : Int)) (.int .i64 (z.odd : Int)) (.bool z.has) (.int .u64 (z.least : Int)) (.int .u64 (z.most : Int)) (.slice A1 z.first.length k1) (.slice A2 z.last.length k2)
  generalize (((((((((wf.setCell ⟨w.heap.size + 1 + 1, 0, none⟩ (.int .i64 k)).setCell ⟨w.heap.size + 1 + 1, 1, none⟩ (.int .i64 s)).setCell ⟨w.heap.size + 1 + 1, 2, none⟩ (.int .i64 (z.n : Int))).setCell ⟨w.heap.size + 1 + 1, 3, none⟩ (.int .i64 (z.nulls : Int))).setCell ⟨w.heap.size + 1 + 1, 4, none⟩ (.int .i64 (z.odd : Int))).setCell ⟨w.heap.size + 1 + 1, 5, none⟩ (.bool z.has)).setCell ⟨w.heap.size + 1 + 1, 6, none⟩ (.int .u64 (z.least : Int))).setCell ⟨w.heap.size + 1 + 1, 7, none⟩ (.int .u64 (z.most : Int))).setCell ⟨w.heap.size + 1 + 1, 8, none⟩ (.slice A1 z.first.length k1)).setCell ⟨w.heap.size + 1 + 1, 9, none⟩ (.slice A2 z.last.length k2) = wg at *
  clear r0 r1 r2 r3 r4 r5 r6 r7 r8 r9 z0 z1 z2 z3 z4 z5 z6 z7 z8 z9 rf rl K10
  obtain ⟨p0, p1, p2, p3, p4, p5, p6, p7, p8, p9⟩ := box10 hrg
  refine bodyPost_ret (v := .tuple #[.agg #[.int .i64 k, .int .i64 s, .int .i64 (z.n : Int), .int .i64 (z.nulls : Int), .int .i64 (z.odd : Int), .bool z.has, .int .u64 (z.least : Int), .int .u64 (z.most : Int), .slice A1 z.first.length k1, .slice A2 z.last.length k2], .int .i64 0]) ?_ rfl ?_
  · simp [results, Tryz.results69, go_sem, p0, p1, p2, p3, p4, p5, p6, p7, p8, p9]
  · exact ⟨⟨A1, k1⟩, ⟨A2, k2⟩, rfl, ht.mono hs4, hbg⟩
theorem zmerge_no (k s k2 s2 : Int) (hne : k ≠ k2 ∨ s ≠ s2) (a b : Zn) (F L F2 L2 : SL) (w : World) :
    Calls Tryz.prog 69 #[zV k s a F L, zV k2 s2 b F2 L2] w (fun e w' => e = .returned (.tuple #[.agg #[.int .i64 0, .int .i64 0, .int .i64 0, .int .i64 0, .int .i64 0, .bool false, .int .u64 0, .int .u64 0, .slice none 0 0, .slice none 0 0], .int .i64 190]) ∧ Below w.heap.size w w') := by
  obtain ⟨t1, t2, t3, t4, t5⟩ := below_three' w (.cells #[.int .i64 k, .int .i64 s, .int .i64 (a.n : Int), .int .i64 (a.nulls : Int), .int .i64 (a.odd : Int), .bool a.has, .int .u64 (a.least : Int), .int .u64 (a.most : Int), .slice F.a a.first.length F.c, .slice L.a a.last.length L.c] 79 (0, 0)) (.cells #[.int .i64 k2, .int .i64 s2, .int .i64 (b.n : Int), .int .i64 (b.nulls : Int), .int .i64 (b.odd : Int), .bool b.has, .int .u64 (b.least : Int), .int .u64 (b.most : Int), .slice F2.a b.first.length F2.c, .slice L2.a b.last.length L2.c] 79 (0, 0)) (.cells #[.int .i64 0, .int .i64 0, .int .i64 0, .int .i64 0, .int .i64 0, .bool false, .int .u64 0, .int .u64 0, .slice none 0 0, .slice none 0 0] 79 (0, 0))
  have hq : ∀ W', (((w.alloc (.cells #[.int .i64 k, .int .i64 s, .int .i64 (a.n : Int), .int .i64 (a.nulls : Int), .int .i64 (a.odd : Int), .bool a.has, .int .u64 (a.least : Int), .int .u64 (a.most : Int), .slice F.a a.first.length F.c, .slice L.a a.last.length L.c] 79)).alloc (.cells #[.int .i64 k2, .int .i64 s2, .int .i64 (b.n : Int), .int .i64 (b.nulls : Int), .int .i64 (b.odd : Int), .bool b.has, .int .u64 (b.least : Int), .int .u64 (b.most : Int), .slice F2.a b.first.length F2.c, .slice L2.a b.last.length L2.c] 79)).alloc (.cells #[.int .i64 0, .int .i64 0, .int .i64 0, .int .i64 0, .int .i64 0, .bool false, .int .u64 0, .int .u64 0, .slice none 0 0, .slice none 0 0] 79)) = W' → Below w.heap.size w W' ∧ W'.heap.size = w.heap.size + 3 ∧ W'.heap[w.heap.size]? = some (.cells #[.int .i64 k, .int .i64 s, .int .i64 (a.n : Int), .int .i64 (a.nulls : Int), .int .i64 (a.odd : Int), .bool a.has, .int .u64 (a.least : Int), .int .u64 (a.most : Int), .slice F.a a.first.length F.c, .slice L.a a.last.length L.c] 79 (0, 0)) ∧ W'.heap[w.heap.size + 1]? = some (.cells #[.int .i64 k2, .int .i64 s2, .int .i64 (b.n : Int), .int .i64 (b.nulls : Int), .int .i64 (b.odd : Int), .bool b.has, .int .u64 (b.least : Int), .int .u64 (b.most : Int), .slice F2.a b.first.length F2.c, .slice L2.a b.last.length L2.c] 79 (0, 0)) ∧ W'.heap[w.heap.size + 1 + 1]? = some (.cells #[.int .i64 0, .int .i64 0, .int .i64 0, .int .i64 0, .int .i64 0, .bool false, .int .u64 0, .int .u64 0, .slice none 0 0, .slice none 0 0] 79 (0, 0)) := fun W' e => by rw [← e]; exact ⟨t1, t2, t3, t4, t5⟩
  clear t1 t2 t3 t4 t5
  dsimp only [zV] at *
  go_enter Tryz.func69, Tryz.ntmps69
  go_upto_region 1 with fail
  generalize (((w.alloc (.cells #[.int .i64 k, .int .i64 s, .int .i64 (a.n : Int), .int .i64 (a.nulls : Int), .int .i64 (a.odd : Int), .bool a.has, .int .u64 (a.least : Int), .int .u64 (a.most : Int), .slice F.a a.first.length F.c, .slice L.a a.last.length L.c] 79)).alloc (.cells #[.int .i64 k2, .int .i64 s2, .int .i64 (b.n : Int), .int .i64 (b.nulls : Int), .int .i64 (b.odd : Int), .bool b.has, .int .u64 (b.least : Int), .int .u64 (b.most : Int), .slice F2.a b.first.length F2.c, .slice L2.a b.last.length L2.c] 79)).alloc (.cells #[.int .i64 0, .int .i64 0, .int .i64 0, .int .i64 0, .int .i64 0, .bool false, .int .u64 0, .int .u64 0, .slice none 0 0, .slice none 0 0] 79)) = w1 at *
  obtain ⟨t1, t2, t3, t4, t5⟩ := hq w1 rfl
  have B1 := Aside.mk t1
  have T1 := Aside.mk t5
  obtain ⟨a0, a1, a2, a3, a4, a5, a6, a7, a8, a9⟩ := box10 t3
  obtain ⟨b0, b1, b2, b3, b4, b5, b6, b7, b8, b9⟩ := box10 t4
  obtain ⟨r0, r1, r2, r3, r4, r5, r6, r7, r8, r9⟩ := box10 t5
  have rf := fun k => frozen_blk (k := k) t5
  have rl := lt_of_blk t5
  have K10 := kept10 w1 (w.heap.size + 1 + 1) (.int .i64 0) (.int .i64 0) (.int .i64 0) (.int .i64 0) (.int .i64 0) (.bool false) (.int .u64 0) (.int .u64 0) (.slice none 0 0) (.slice none 0 0)
  have hbg := B1.out.trans (K10.to_below B1.out.size (fun k e => by omega))
  have hrg := set10 t5 (.int .i64 0) (.int .i64 0) (.int .i64 0) (.int .i64 0) (.int .i64 0) (.bool false) (.int .u64 0) (.int .u64 0) (.slice none 0 0) (.slice none 0 0)
  obtain ⟨p0, p1, p2, p3, p4, p5, p6, p7, p8, p9⟩ := box10 hrg
  have HP := Aside.mk (And.intro p0 (And.intro p1 (And.intro p2 (And.intro p3 (And.intro p4 (And.intro p5 (And.intro p6 (And.intro p7 (And.intro p8 p9)))))))))
  have HBG := Aside.mk hbg
  clear hq t1 t2 t3 t4 t5 K10 hbg hrg p0 p1 p2 p3 p4 p5 p6 p7 p8 p9 T1 B1
  by_cases hk : k = k2
  · subst hk
    have hs : s ≠ s2 := hne.resolve_left (fun h => h rfl)
    clear hne
    go_wp2_with fail
    obtain ⟨p0, p1, p2, p3, p4, p5, p6, p7, p8, p9⟩ := HP.out
    refine bodyPost_ret (v := .tuple #[.agg #[.int .i64 0, .int .i64 0, .int .i64 0, .int .i64 0, .int .i64 0, .bool false, .int .u64 0, .int .u64 0, .slice none 0 0, .slice none 0 0], .int .i64 190]) ?_ rfl ⟨rfl, HBG.out⟩
    simp [results, Tryz.results69, go_sem, p0, p1, p2, p3, p4, p5, p6, p7, p8, p9]
  · clear hne
    go_wp2_with fail
    obtain ⟨p0, p1, p2, p3, p4, p5, p6, p7, p8, p9⟩ := HP.out
    refine bodyPost_ret (v := .tuple #[.agg #[.int .i64 0, .int .i64 0, .int .i64 0, .int .i64 0, .int .i64 0, .bool false, .int .u64 0, .int .u64 0, .slice none 0 0, .slice none 0 0], .int .i64 190]) ?_ rfl ⟨rfl, HBG.out⟩
    simp [results, Tryz.results69, go_sem, p0, p1, p2, p3, p4, p5, p6, p7, p8, p9]
end Go.Proofs.YtmhjjhaipcgbiaaGreat
