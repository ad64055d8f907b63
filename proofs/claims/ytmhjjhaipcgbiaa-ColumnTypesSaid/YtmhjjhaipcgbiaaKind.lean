/- Within, Kind. -/
import Derived.Test.YtmhjjhaipcgbiaaRef18
namespace Go.Proofs.Ytmhjjhaipcgbiaa
open Go.RowKit
set_option linter.unusedVariables false
set_option linter.unusedSimpArgs false
set_option maxRecDepth 100000
set_option maxHeartbeats 1000000

theorem tm_neg (n m : Int) (hm : 0 < m) (h : n.tmod m < 0) : n % m = n.tmod m + m ∧ -m < n.tmod m := by
  rw [Int.tmod_eq_emod] at *
  have := Int.emod_nonneg n (show m ≠ 0 by omega)
  have := Int.emod_lt_of_pos n hm
  split at h
  · omega
  · rename_i h2
    rw [if_neg h2]
    have : ((m.natAbs : Nat) : Int) = m := Int.natAbs_of_nonneg (by omega)
    have h3 : n % m ≠ 0 := fun e => h2 (.inr (Int.dvd_of_emod_eq_zero e))
    omega
theorem tm_pos (n m : Int) (hm : 0 < m) (h : ¬ n.tmod m < 0) : n % m = n.tmod m ∧ n.tmod m < m := by
  rw [Int.tmod_eq_emod] at *
  have := Int.emod_nonneg n (show m ≠ 0 by omega)
  have := Int.emod_lt_of_pos n hm
  split at h
  · rename_i h2
    rw [if_pos h2]
    omega
  · rename_i h2
    have : ((m.natAbs : Nat) : Int) = m := Int.natAbs_of_nonneg (by omega)
    omega

/-- A number within bounds, out of any. -/
def withinI (n lo hi : Int) : Int := lo + n % (hi - lo + 1)
theorem within_any (n lo hi : Int) (h0 : 0 ≤ lo) (h1 : lo ≤ hi) (h2 : hi ≤ 1000000) (w : World) : Calls Try.prog 21 #[.int .i64 n, .int .i64 lo, .int .i64 hi] w fun e w' => e = .returned (.int .i64 (withinI n lo hi)) ∧ w = w' := by
  have hm1' : 0 < hi - lo + 1 := by omega
  by_cases ht : n.tmod (hi - lo + 1) < 0
  · have hb := tm_neg n _ hm1' ht
    have hb1 : -1000001 < n.tmod (hi - lo + 1) := by omega
    have hb := Aside.mk hb
    go_enter Try.func21, Try.ntmps21
    go_wp2
    go_ret
    refine ⟨ret_int ?_, rfl⟩
    have := hb.out
    unfold withinI
    omega
  · have hb := tm_pos n _ hm1' ht
    have hb1 : n.tmod (hi - lo + 1) < 1000001 := by omega
    have hb := Aside.mk hb
    go_enter Try.func21, Try.ntmps21
    go_wp2
    go_ret
    refine ⟨ret_int ?_, rfl⟩
    have := hb.out
    unfold withinI
    omega

end Go.Proofs.Ytmhjjhaipcgbiaa
