/- Texts of this claim, one behind the other: MaskOf, MofLaw, Add. -/
import Derived.Test.YtmhjjhaipcgbiaaBakP7
import Derived.Test.YtmhjjhaipcgbiaaBakP5
import Derived.Laws.BitsAllLaws
import Derived.Test.YtmhjjhaipcgbiaaBakP6

namespace Go.Proofs.Ytmhjjhaipcgbiaa
open Go.RowKit
set_option linter.unusedVariables false
set_option linter.unusedSimpArgs false
set_option maxRecDepth 100000
set_option maxHeartbeats 1000000
def mofR : List Bool → List Int
  | [] => []
  | b :: r => mput (mofR r) r.length b
def mof (l : List Bool) : List Int := mofR l.reverse
theorem mof_snoc (l : List Bool) (b : Bool) : mof (l ++ [b]) = mput (mof l) l.length b := by simp [mof, mofR]
theorem mofR_len (l : List Bool) : (mofR l).length = (l.length + 7) / 8 := by
  induction l with
  | nil => rfl
  | cons b r ih =>
    rw [mofR, mput_len _ _ _ ih, List.length_cons]
    omega
theorem mof_len (l : List Bool) : (mof l).length = (l.length + 7) / 8 := by rw [mof, mofR_len, List.length_reverse]
def MofP (l : List Bool) (w : World) (e : Ending) (w' : World) : Prop :=
  ∃ v', e = .returned (.agg #[.int .i64 (l.length : Int), v']) ∧ Own w' w.heap.size 5 1 v' (mof l).length ((mof l).map (.int .u8)) ∧ Below w.heap.size w w'
end Go.Proofs.Ytmhjjhaipcgbiaa


namespace Go.Proofs.Ytmhjjhaipcgbiaa
open Go.RowKit
set_option linter.unusedVariables false
set_option linter.unusedSimpArgs false
set_option maxRecDepth 100000
set_option maxHeartbeats 1000000
def nullB (bs : List Int) (i : Nat) : Bool := ((bs.getD (i / 8) 0).toNat).testBit (i % 8)
theorem getD_byte {bs : List Int} (h : IsBytes bs) (i : Nat) : 0 ≤ bs.getD i 0 ∧ bs.getD i 0 < 256 := by
  rw [List.getD_eq_getElem?_getD]
  rcases Nat.lt_or_ge i bs.length with hl | hl
  · rw [List.getElem?_eq_getElem hl]; exact h _ (List.getElem_mem _)
  · rw [List.getElem?_eq_none hl]; decide
theorem morb_nat (x : Int) (h0 : 0 ≤ x) (h1 : x < 256) (k : Nat) (hk : k < 8) : morb x k = ((x.toNat ||| 2 ^ k : Nat) : Int) ∧ (x.toNat ||| 2 ^ k) < 256 := by
  have h2 : 2 ^ k < 256 := Nat.pow_lt_pow_right (a := 2) (by decide) (n := 8) hk
  obtain ⟨n, rfl⟩ := Int.eq_ofNat_of_zero_le h0
  have e : ((2 : Int) ^ k % 256) = ((2 ^ k : Nat) : Int) := by
    have : ((2 : Int) ^ k) = ((2 ^ k : Nat) : Int) := by simp
    rw [this]
    generalize 2 ^ k = z at *
    omega
  refine ⟨?_, Nat.or_lt_two_pow (n := 8) (by simp; omega) h2⟩
  unfold morb
  rw [e]
  exact u8_or_nat n (2 ^ k) (by omega) h2
theorem isBytes_append {a b : List Int} (ha : IsBytes a) (hb : IsBytes b) : IsBytes (a ++ b) := fun x hx => (List.mem_append.1 hx).elim (ha x) (hb x)
theorem isBytes_nil : IsBytes [] := fun x hx => by cases hx
theorem isBytes_set {a : List Int} (ha : IsBytes a) (i : Nat) {x : Int} (h0 : 0 ≤ x) (h1 : x < 256) : IsBytes (a.set i x) := fun y hy => by
  rcases List.mem_or_eq_of_mem_set hy with h | rfl
  · exact ha y h
  · exact ⟨h0, h1⟩
theorem mrow_bytes {bs : List Int} (h : IsBytes bs) (n : Nat) : IsBytes (mrow bs n) := by
  unfold mrow
  split
  · exact isBytes_append h (fun x hx => by simp at hx; subst hx; decide)
  · exact h
theorem mrow_bit (bs : List Int) (n i : Nat) : nullB (mrow bs n) i = nullB bs i := by
  unfold mrow
  split
  · unfold nullB
    congr 2
    simp only [List.getD_eq_getElem?_getD]
    rcases Nat.lt_or_ge (i / 8) bs.length with hl | hl
    · rw [List.getElem?_append_left hl]
    · rw [List.getElem?_append_right hl, List.getElem?_eq_none hl]
      rcases Nat.eq_zero_or_pos (i / 8 - bs.length) with e | e
      · rw [e]; rfl
      · rw [List.getElem?_eq_none (by simp; omega)]
  · rfl
theorem mput_law {bs : List Int} {n : Nat} (hb : IsBytes bs) (hl : bs.length = (n + 7) / 8) (bit : Bool) (h0 : nullB bs n = false) :
    IsBytes (mput bs n bit) ∧ ∀ i, nullB (mput bs n bit) i = if i = n then bit else nullB bs i := by
  have hr := mrow_bytes hb n
  have hg := getD_byte hr (n / 8)
  obtain ⟨e, hlt⟩ := morb_nat _ hg.1 hg.2 (n % 8) (Nat.mod_lt _ (by decide))
  unfold mput
  cases bit with
  | false =>
    simp only [Bool.false_eq_true, if_false]
    refine ⟨hr, fun i => ?_⟩
    rw [mrow_bit]
    split
    · rename_i e2; subst e2; exact h0
    · rfl
  | true =>
    simp only [if_true]
    rw [e]
    refine ⟨isBytes_set hr _ (by omega) (by omega), fun i => ?_⟩
    have hlr : n / 8 < (mrow bs n).length := by rw [mrow_len bs n hl]; omega
    rw [← mrow_bit bs n i]
    unfold nullB
    simp only [List.getD_eq_getElem?_getD, List.getElem?_set]
    by_cases e8 : n / 8 = i / 8
    · rw [if_pos e8, if_pos (by omega)]
      simp only [Option.getD_some, Int.toNat_natCast, Nat.testBit_or, Nat.testBit_two_pow]
      by_cases e2 : i = n
      · subst e2; simp
      · rw [if_neg e2]
        have : ¬ (n % 8 = i % 8) := by omega
        simp only [this, decide_false, Bool.or_false]
        rw [e8]
    · rw [if_neg e8, if_neg (by rintro rfl; exact e8 rfl)]
theorem mofR_law : ∀ l : List Bool, IsBytes (mofR l) ∧ ∀ i, nullB (mofR l) i = (l.reverse[i]?).getD false
  | [] => ⟨isBytes_nil, fun i => by simp [mofR, nullB]⟩
  | b :: r => by
    obtain ⟨h1, h2⟩ := mofR_law r
    have h0 : nullB (mofR r) r.length = false := by rw [h2]; rw [List.getElem?_eq_none (by simp)]; rfl
    obtain ⟨h3, h4⟩ := mput_law h1 (mofR_len r) b h0
    refine ⟨h3, fun i => ?_⟩
    rw [mofR, h4, List.reverse_cons]
    split
    · rename_i e; subst e
      rw [List.getElem?_append_right (by simp)]; simp
    · rename_i e
      rw [h2]
      rcases Nat.lt_or_ge i r.length with hl | hl
      · rw [List.getElem?_append_left (by simpa using hl)]
      · rw [List.getElem?_append_right (by simpa using hl), List.getElem?_eq_none (by simpa using hl), List.getElem?_eq_none (by simp; omega)]
theorem mof_bytes (l : List Bool) : IsBytes (mof l) := (mofR_law _).1
theorem mof_bit (l : List Bool) (i : Nat) : nullB (mof l) i = (l[i]?).getD false := by
  have := (mofR_law l.reverse).2 i
  rw [List.reverse_reverse] at this
  exact this
def maskOK (m : Int) (bs : List Int) : Bool :=
  decide (0 ≤ m ∧ m ≤ 8 * (bs.length : Int) ∧ 8 * ((bs.length : Int) - 1) < m ∧ (0 < m % 8 → (bs.getD (bs.length - 1) 0).toNat / 2 ^ (m % 8).toNat = 0))
theorem mof_ok (l : List Bool) : maskOK (l.length : Int) (mof l) = true := by
  unfold maskOK
  rw [decide_eq_true_eq]
  have hl := mof_len l
  refine ⟨by omega, by omega, by omega, fun h => ?_⟩
  have e : ((l.length : Int) % 8).toNat = l.length % 8 := by omega
  rw [e, hl]
  refine Nat.div_eq_of_lt (Nat.lt_pow_two_of_testBit _ fun i hi => ?_)
  rcases Nat.lt_or_ge i 8 with h8 | h8
  · have := mof_bit l (((l.length + 7) / 8 - 1) * 8 + i)
    rw [List.getElem?_eq_none (by omega)] at this
    unfold nullB at this
    rw [show (((l.length + 7) / 8 - 1) * 8 + i) / 8 = (l.length + 7) / 8 - 1 by omega, show (((l.length + 7) / 8 - 1) * 8 + i) % 8 = i by omega] at this
    exact this
  · refine Nat.testBit_lt_two_pow (Nat.lt_of_lt_of_le ?_ (Nat.pow_le_pow_right (by decide) h8))
    have := getD_byte (mof_bytes l) ((l.length + 7) / 8 - 1)
    omega
end Go.Proofs.Ytmhjjhaipcgbiaa


namespace Go.Proofs.Ytmhjjhaipcgbiaa
open Go.RowKit
set_option linter.unusedVariables false
set_option linter.unusedSimpArgs false
set_option maxRecDepth 100000
set_option maxHeartbeats 1000000
theorem of_fixed (k s : Int) (h1 : (k == 15) = false) (h2 : (k == 16) = false) (w : World) : Calls Try.prog 57 #[.agg #[.int .i64 k, .int .i64 s]] w fun e w' => e = .returned (.iface 128 (.agg #[.int .i64 (widthOf k)])) ∧ w' = w.alloc (.cells #[.int .i64 k, .int .i64 s] 23) := by
  go_enter Try.func57, Try.ntmps57
  go_wp2_with (go_at_call 12; refine (width_any _ _).mono ?_; rintro e w1 ⟨rfl, rfl⟩)
  go_ret
  exact ⟨rfl, rfl⟩
def lows (X n : Nat) : List Int := (List.range n).map fun i => ((X / 256 ^ i % 256 : Nat) : Int)
theorem len_lows (X n : Nat) : (lows X n).length = n := by simp [lows]
end Go.Proofs.Ytmhjjhaipcgbiaa
