/- Kind: the type that a number leads to. -/
import Derived.Test.YtmhjjhaipcgbiaaKind
namespace Go.Proofs.Ytmhjjhaipcgbiaa
open Go.RowKit
set_option linter.unusedVariables false
set_option linter.unusedSimpArgs false
set_option maxRecDepth 100000
set_option maxHeartbeats 200000

theorem within_1 (n : Int) (w : World) : Calls Try.prog 21 #[.int .i64 n, .int .i64 1, .int .i64 16] w fun e w' => e = .returned (.int .i64 (withinI n 1 16)) ∧ w = w' := within_any n 1 16 (by omega) (by omega) (by omega) w
theorem within_0 (n : Int) (w : World) : Calls Try.prog 21 #[.int .i64 n, .int .i64 0, .int .i64 18] w fun e w' => e = .returned (.int .i64 (withinI n 0 18)) ∧ w = w' := within_any n 0 18 (by omega) (by omega) (by omega) w
/-- The type that a number leads to. -/
def kindI (n : Int) : Int := withinI n 1 16
def scaleI (n : Int) : Int := if kindI n = 12 then withinI (n / 16) 0 18 else 0
theorem kind_any (n : Int) (w : World) : Calls Try.prog 8 #[.int .i64 n] w fun e w' => e = .returned (.agg #[.int .i64 (kindI n), .int .i64 (scaleI n)]) ∧ Below w.heap.size w w' := by
  by_cases h : kindI n = 12
  · have hk : withinI n 1 16 = 12 := h
    have hs : Aside (scaleI n = withinI (n / 16) 0 18) := ⟨by unfold scaleI; rw [if_pos h]⟩
    have hk := Aside.mk hk
    clear h
    go_enter Try.func8, Try.ntmps8
    go_wp2_with (fail)
    refine (within_1 _ _).mono ?_
    rintro e w1 ⟨rfl, rfl⟩
    rw [hk.out]
    go_wp2_with (fail)
    refine (within_0 _ _).mono ?_
    rintro e w1 ⟨rfl, rfl⟩
    go_wp2_with (fail)
    refine bodyPost_ret (v := .agg #[.int .i64 12, .int .i64 (withinI (n / 16) 0 18)]) (by simp [results, Try.results8, go_sem]) rfl ⟨?_, (by repeat (first | exact Below.refl _ _ | assumption | (refine Below.drew ?_) | (refine Below.trans ?_ (below_drewN _ _ _)) | (refine Below.alloc ?_ (by first | omega | (simp; done) | (simp; omega)) _) | (refine Below.setCell ?_ (by first | omega | (simp; done) | (simp; omega)) _)))⟩
    rw [hs.out, kindI, hk.out]
  · have hk : (withinI n 1 16 == 12) = false := by simpa [kindI] using h
    have hs : Aside (scaleI n = 0) := ⟨by unfold scaleI; rw [if_neg h]⟩
    have hu : Aside (kindI n = withinI n 1 16) := ⟨rfl⟩
    clear h
    go_enter Try.func8, Try.ntmps8
    go_wp2_with (fail)
    refine (within_1 _ _).mono ?_
    rintro e w1 ⟨rfl, rfl⟩
    go_wp2_with (fail)
    refine bodyPost_ret (v := .agg #[.int .i64 (withinI n 1 16), .int .i64 0]) (by simp [results, Try.results8, go_sem]) rfl ⟨?_, (by repeat (first | exact Below.refl _ _ | assumption | (refine Below.drew ?_) | (refine Below.trans ?_ (below_drewN _ _ _)) | (refine Below.alloc ?_ (by first | omega | (simp; done) | (simp; omega)) _) | (refine Below.setCell ?_ (by first | omega | (simp; done) | (simp; omega)) _)))⟩
    rw [hs.out, hu.out]
theorem kind_ok (n : Int) : okType (kindI n) (scaleI n) = true := by
  unfold okType scaleI kindI withinI
  simp only [decide_eq_true_eq]
  split <;> omega
end Go.Proofs.Ytmhjjhaipcgbiaa
