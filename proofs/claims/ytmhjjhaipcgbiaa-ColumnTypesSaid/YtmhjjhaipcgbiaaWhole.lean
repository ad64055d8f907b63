/- whole.Fits and the document's answer to it. -/
import Derived.Test.YtmhjjhaipcgbiaaTypes
namespace Go.Proofs.Ytmhjjhaipcgbiaa
open Go.RowKit
set_option linter.unusedVariables false
set_option linter.unusedSimpArgs false
set_option maxRecDepth 100000
set_option maxHeartbeats 2000000

/-- How many bits a kind's integers have. -/
def wbits (k : Int) : Int := if k = 1 ∨ k = 5 then 8 else if k = 2 ∨ k = 6 then 16 else if k = 3 ∨ k = 7 then 32 else if k = 4 ∨ k = 8 then 64 else 0
/-- The greatest bits of so many. -/
def maxOf (b : Int) : Int := if b = 8 then 255 else if b = 16 then 65535 else if b = 32 then 4294967295 else 18446744073709551615
def isWhole (k : Int) : Bool := decide (1 ≤ k ∧ k ≤ 8)

theorem whole_kinds {k : Int} (h : 1 ≤ k ∧ k ≤ 8) : k = 1 ∨ k = 2 ∨ k = 3 ∨ k = 4 ∨ k = 5 ∨ k = 6 ∨ k = 7 ∨ k = 8 := by omega

theorem wwidth_yes (k : Int) (w : World) (h : 1 ≤ k ∧ k ≤ 8) : Calls Try.prog 95 #[.int .i64 k] w fun e w' => e = .returned (.tuple #[.int .i64 (wbits k), .bool (decide (k ≤ 4)), .bool true]) ∧ Below w.heap.size w w' := by
  rcases whole_kinds h with rfl | rfl | rfl | rfl | rfl | rfl | rfl | rfl
  all_goals
    clear h
    go_enter Try.func95, Try.ntmps95
    go_wp2
    go_ret3
    exact ⟨rfl, (by repeat (first | exact Below.refl _ _ | assumption | (refine Below.drew ?_) | (refine Below.trans ?_ (below_drewN _ _ _)) | (refine Below.alloc ?_ (by first | omega | (simp; done) | (simp; omega)) _) | (refine Below.setCell ?_ (by first | omega | (simp; done) | (simp; omega)) _)))⟩

theorem wwidth_no (k : Int) (w : World) (h : k < 1 ∨ 8 < k) : Calls Try.prog 95 #[.int .i64 k] w fun e w' => e = .returned (.tuple #[.int .i64 0, .bool false, .bool false]) ∧ Below w.heap.size w w' := by
  rcases h with h | h
  · have h1 : decide (1 ≤ k) = false := by simp; omega
    have h2 : decide (5 ≤ k) = false := by simp; omega
    go_enter Try.func95, Try.ntmps95
    go_wp2
    go_ret3
    exact ⟨rfl, (by repeat (first | exact Below.refl _ _ | assumption | (refine Below.drew ?_) | (refine Below.trans ?_ (below_drewN _ _ _)) | (refine Below.alloc ?_ (by first | omega | (simp; done) | (simp; omega)) _) | (refine Below.setCell ?_ (by first | omega | (simp; done) | (simp; omega)) _)))⟩
  · have h1 : decide (k ≤ 4) = false := by simp; omega
    have h2 : decide (k ≤ 8) = false := by simp; omega
    go_enter Try.func95, Try.ntmps95
    go_wp2
    go_ret3
    exact ⟨rfl, (by repeat (first | exact Below.refl _ _ | assumption | (refine Below.drew ?_) | (refine Below.trans ?_ (below_drewN _ _ _)) | (refine Below.alloc ?_ (by first | omega | (simp; done) | (simp; omega)) _) | (refine Below.setCell ?_ (by first | omega | (simp; done) | (simp; omega)) _)))⟩

theorem wmost_any (b : Int) (w : World) (hb : b = 8 ∨ b = 16 ∨ b = 32 ∨ b = 64) : Calls Try.prog 96 #[.int .i64 b, .bool false, .bool false] w fun e w' => e = .returned (.int .u64 (maxOf b)) ∧ w = w' := by
  rcases hb with rfl | rfl | rfl | rfl
  all_goals
    go_enter Try.func96, Try.ntmps96
    go_wp2
    go_ret
    exact ⟨rfl, rfl⟩

theorem wholeFits_yes (k b : Int) (w : World) (h : 1 ≤ k ∧ k ≤ 8) : Calls Try.prog 44 #[.int .i64 k, .int .u64 b] w fun e w' => e = .returned (.bool (decide (b ≤ maxOf (wbits k)))) ∧ Below w.heap.size w w' := by
  have hk : wbits k = 8 ∨ wbits k = 16 ∨ wbits k = 32 ∨ wbits k = 64 := by unfold wbits; rcases whole_kinds h with rfl | rfl | rfl | rfl | rfl | rfl | rfl | rfl <;> simp
  go_enter Try.func44, Try.ntmps44
  go_wp2_with (go_at_call 95; refine (wwidth_yes k _ h).mono ?_; rintro e w1 ⟨rfl, hb1⟩)
  refine (wmost_any _ _ hk).mono ?_
  rintro e w2 ⟨rfl, rfl⟩
  go_wp2_with fail
  go_ret
  exact ⟨rfl, hb1⟩

theorem wholeFits_no (k b : Int) (w : World) (h : k < 1 ∨ 8 < k) : Calls Try.prog 44 #[.int .i64 k, .int .u64 b] w fun e w' => e = .returned (.bool false) ∧ Below w.heap.size w w' := by
  go_enter Try.func44, Try.ntmps44
  go_wp2_with (go_at_call 95; refine (wwidth_no k _ h).mono ?_; rintro e w1 ⟨rfl, hb1⟩)
  go_ret
  exact ⟨rfl, hb1⟩

theorem r5width_any (k : Int) (w : World) : Calls Try.prog 38 #[.int .i64 k] w fun e w' => e = .returned (.int .i64 (wbits k)) ∧ w = w' := by
  by_cases h : 1 ≤ k ∧ k ≤ 8
  · rcases whole_kinds h with rfl | rfl | rfl | rfl | rfl | rfl | rfl | rfl
    all_goals
      clear h
      go_enter Try.func38, Try.ntmps38
      go_wp2
      go_ret
      exact ⟨rfl, rfl⟩
  · have h0 : Aside (wbits k = 0) := ⟨by unfold wbits; rw [if_neg (by omega), if_neg (by omega), if_neg (by omega), if_neg (by omega)]⟩
    have h' : k < 1 ∨ 8 < k := by omega
    clear h
    rcases h' with h | h
    all_goals
      go_enter Try.func38, Try.ntmps38
      go_wp2
      go_ret
      exact ⟨by rw [h0.out]; rfl, rfl⟩

theorem r5cut_any (k b : Int) (h0 : 0 ≤ b) (h1 : b ≤ 18446744073709551615) (w : World) (h : 1 ≤ k ∧ k ≤ 8) : Calls Try.prog 100 #[.int .i64 k, .int .u64 b] w fun e w' => e = .returned (.int .u64 (b % (maxOf (wbits k) + 1))) ∧ Below w.heap.size w w' := by
  rcases whole_kinds h with rfl | rfl | rfl | rfl | rfl | rfl | rfl | rfl
  all_goals
    clear h
    go_enter Try.func100, Try.ntmps100
    go_wp2_with (go_at_call 38; refine (r5width_any _ _).mono ?_; simp (config := { decide := true }) only [wbits, ite_true, ite_false]; rintro e w1 ⟨rfl, rfl⟩)
    go_ret
    exact ⟨by first | rfl | (rw [show maxOf (wbits _) + 1 = 18446744073709551616 from rfl, Int.emod_eq_of_lt h0 (by omega)]; rfl), Below.refl _ _⟩

theorem r5fits_yes (k b : Int) (h0 : 0 ≤ b) (h1 : b ≤ 18446744073709551615) (w : World) (h : 1 ≤ k ∧ k ≤ 8) : Calls Try.prog 51 #[.int .i64 k, .int .u64 b] w fun e w' => e = .returned (.bool (decide (b ≤ maxOf (wbits k)))) ∧ Below w.heap.size w w' := by
  have hw : 0 < wbits k := by unfold wbits; rcases whole_kinds h with rfl | rfl | rfl | rfl | rfl | rfl | rfl | rfl <;> simp
  have hm : 0 ≤ maxOf (wbits k) := by unfold maxOf; split <;> (try split) <;> (try split) <;> decide
  have HM : Aside (decide (b ≤ maxOf (wbits k)) = (b % (maxOf (wbits k) + 1) == b)) := ⟨by
    by_cases hle : b ≤ maxOf (wbits k)
    · rw [Int.emod_eq_of_lt h0 (by omega)]; simp [hle]
    · have := Int.emod_lt_of_pos b (show 0 < maxOf (wbits k) + 1 by omega)
      have hne : b % (maxOf (wbits k) + 1) ≠ b := by omega
      simp [hle, hne]⟩
  clear hm
  go_enter Try.func51, Try.ntmps51
  go_wp2_with (go_at_call 38; refine (r5width_any _ _).mono ?_; rintro e w1 ⟨rfl, rfl⟩)
  refine (r5cut_any _ _ h0 h1 _ h).mono ?_
  rintro e w2 ⟨rfl, hb2⟩
  go_wp2_with fail
  go_ret
  exact ⟨by rw [HM.out]; rfl, hb2⟩
theorem r5fits_no (k b : Int) (w : World) (h : k < 1 ∨ 8 < k) : Calls Try.prog 51 #[.int .i64 k, .int .u64 b] w fun e w' => e = .returned (.bool false) ∧ w = w' := by
  have h0 : wbits k = 0 := by unfold wbits; rw [if_neg (by omega), if_neg (by omega), if_neg (by omega), if_neg (by omega)]
  go_enter Try.func51, Try.ntmps51
  go_wp2_with (go_at_call 38; refine (r5width_any _ _).mono ?_; rintro e w1 ⟨rfl, rfl⟩)
  go_ret
  exact ⟨rfl, rfl⟩
end Go.Proofs.Ytmhjjhaipcgbiaa
