/- The document's CheckType, Width, Worded; Within, Kind. -/
import Derived.Test.YtmhjjhaipcgbiaaFits2
namespace Go.Proofs.Ytmhjjhaipcgbiaa
open Go.RowKit
set_option linter.unusedVariables false
set_option linter.unusedSimpArgs false
set_option maxRecDepth 100000
set_option maxHeartbeats 1000000

def wordedB (k : Int) : Bool := k == 15 || k == 16
theorem worded_any (k s : Int) (w : World) : Calls Try.prog 45 #[.agg #[.int .i64 k, .int .i64 s]] w (FitsP (wordedB k) w) := by
  by_cases h1 : k = 15
  · subst h1
    have hb := Aside.mk (below_new w (.cells #[.int .i64 15, .int .i64 s] 23))
    go_enter Try.func45, Try.ntmps45
    go_wp2
    go_ret
    exact ⟨rfl, hb.out⟩
  · have h2 : (k == 15) = false := by simpa using h1
    have HW : Aside (wordedB k = (k == 16)) := ⟨by simp [wordedB, h2]⟩
    have hb := Aside.mk (below_new w (.cells #[.int .i64 k, .int .i64 s] 23))
    clear h1
    go_enter Try.func45, Try.ntmps45
    go_wp2
    go_ret
    exact ⟨by rw [HW.out]; rfl, hb.out⟩

theorem r18check_yes (k s : Int) (w : World) (h : okType k s = true) :
    Calls Try.prog 11 #[.agg #[.int .i64 k, .int .i64 s]] w fun e w' => e = .returned (.int .i64 0) ∧ Below w.heap.size w w' := by
  unfold okType at h
  simp only [decide_eq_true_eq] at h
  obtain ⟨h1, h2, h3, h4, h5⟩ := h
  have hb := Aside.mk (below_new w (.cells #[.int .i64 k, .int .i64 s] 23))
  rcases h5 with h5 | h5
  · subst h5
    go_enter Try.func11, Try.ntmps11
    go_wp2
    go_ret
    exact ⟨rfl, hb.out⟩
  · subst h5
    by_cases h6 : k = 12
    · subst h6
      go_enter Try.func11, Try.ntmps11
      go_wp2
      go_ret
      exact ⟨rfl, hb.out⟩
    · have h7 : (k != 12) = true := by simpa using h6
      clear h6
      go_enter Try.func11, Try.ntmps11
      go_wp2
      go_ret
      exact ⟨rfl, hb.out⟩

theorem r18check_no (k s : Int) (w : World) (h : okType k s = false) :
    Calls Try.prog 11 #[.agg #[.int .i64 k, .int .i64 s]] w fun e w' => e = .returned (.int .i64 170) ∧ Below w.heap.size w w' := by
  unfold okType at h
  simp only [decide_eq_false_iff_not] at h
  have hb := Aside.mk (below_new w (.cells #[.int .i64 k, .int .i64 s] 23))
  have go : k < 1 ∨ (1 ≤ k ∧ 16 < k) ∨ (1 ≤ k ∧ k ≤ 16 ∧ s < 0) ∨ (1 ≤ k ∧ k ≤ 16 ∧ 0 ≤ s ∧ 18 < s) ∨ (1 ≤ k ∧ k ≤ 16 ∧ 0 < s ∧ s ≤ 18 ∧ k ≠ 12) := by omega
  clear h
  rcases go with h | ⟨h1, h⟩ | ⟨h1, h2, h⟩ | ⟨h1, h2, h0, h⟩ | ⟨h1, h2, h, h3, h4⟩
  · go_enter Try.func11, Try.ntmps11
    go_wp2
    go_ret
    exact ⟨rfl, hb.out⟩
  · go_enter Try.func11, Try.ntmps11
    go_wp2
    go_ret
    exact ⟨rfl, hb.out⟩
  · go_enter Try.func11, Try.ntmps11
    go_wp2
    go_ret
    exact ⟨rfl, hb.out⟩
  · go_enter Try.func11, Try.ntmps11
    go_wp2
    go_ret
    exact ⟨rfl, hb.out⟩
  · have h7 : (k != 12) = true := by simpa using h4
    have h8 : (s != 0) = true := by simp; omega
    have h9 : ¬ s < 0 := by omega
    clear h4
    go_enter Try.func11, Try.ntmps11
    go_wp2
    go_ret
    exact ⟨rfl, hb.out⟩

theorem r18check_any (k s : Int) (w : World) :
    Calls Try.prog 11 #[.agg #[.int .i64 k, .int .i64 s]] w fun e w' => e = .returned (.int .i64 (if okType k s then 0 else 170)) ∧ Below w.heap.size w w' := by
  cases h : okType k s
  · exact r18check_no k s w h
  · exact r18check_yes k s w h

theorem r18width_any (k : Int) (w : World) : Calls Try.prog 13 #[.int .i64 k] w fun e w' => e = .returned (.int .i64 (widthOf k)) ∧ w = w' := by
  by_cases h : 1 ≤ k ∧ k ≤ 16
  · obtain ⟨h1, h2⟩ := h
    have hk : k = 1 ∨ k = 2 ∨ k = 3 ∨ k = 4 ∨ k = 5 ∨ k = 6 ∨ k = 7 ∨ k = 8 ∨ k = 9 ∨ k = 10 ∨ k = 11 ∨ k = 12 ∨ k = 13 ∨ k = 14 ∨ k = 15 ∨ k = 16 := by omega
    clear h1 h2
    rcases hk with rfl | rfl | rfl | rfl | rfl | rfl | rfl | rfl | rfl | rfl | rfl | rfl | rfl | rfl | rfl | rfl
    all_goals
      go_enter Try.func13, Try.ntmps13
      go_wp2_with (go_at_call 38; refine (r5width_any _ _).mono ?_; rintro e w1 ⟨rfl, rfl⟩; simp only [wbits, reduceCtorEq, Int.reduceEq, or_self, or_true, true_or, or_false, false_or, if_true, if_false, ↓reduceIte])
      go_ret
      exact ⟨rfl, rfl⟩
  · have hw : Aside (widthOf k = 0) := ⟨by unfold widthOf; rw [if_neg (by omega), if_neg (by omega), if_neg (by omega), if_neg (by omega)]⟩
    have hw5 : wbits k = 0 := by unfold wbits; rw [if_neg (by omega), if_neg (by omega), if_neg (by omega), if_neg (by omega)]
    have hw5 := Aside.mk hw5
    have h' : k < 1 ∨ 16 < k := by omega
    clear h
    rcases h' with h | h
    all_goals
      go_enter Try.func13, Try.ntmps13
      go_wp2_with (go_at_call 38; refine (r5width_any _ _).mono ?_; rintro e w1 ⟨rfl, rfl⟩; simp only [hw5.out])
      go_ret
      exact ⟨by rw [hw.out]; rfl, rfl⟩

end Go.Proofs.Ytmhjjhaipcgbiaa
