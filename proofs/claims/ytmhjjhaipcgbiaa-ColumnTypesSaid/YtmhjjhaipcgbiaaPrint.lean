/- PrintDay, PrintMoment. -/
import Derived.Test.YtmhjjhaipcgbiaaPad2
namespace Go.Proofs.Ytmhjjhaipcgbiaa
open Go.RowKit
set_option linter.unusedVariables false
set_option linter.unusedSimpArgs false
set_option maxRecDepth 100000
set_option maxHeartbeats 400000

theorem date_at (n : Int) (h0 : -719528 ≤ n) (h1 : n ≤ 2932896) (w : World) : Calls Try.prog 92 #[.int .i64 n] w (DateP (n + 719528) w) := by
  have := date_any (n + 719528) (by omega) (by omega) w
  rwa [show n + 719528 - 719528 = n by omega] at this

def DateB (w : World) (e : Ending) (w' : World) : Prop := ∃ y m d : Nat, e = .returned (.tuple #[.int .i64 y, .int .i64 m, .int .i64 d]) ∧ y < 10000 ∧ m < 100 ∧ d < 100 ∧ Below w.heap.size w w'
theorem date_b (n : Int) (h0 : -719528 ≤ n) (h1 : n ≤ 2932896) (w : World) : Calls Try.prog 92 #[.int .i64 n] w (DateB w) := by
  refine (date_at n h0 h1 w).mono ?_
  rintro e w' ⟨y, m, d, rfl, ⟨hy0, hy1, j, rfl, hj, hd1, hd2, _⟩, hb⟩
  have := mlens_pos y j hj
  refine ⟨y.toNat, j + 1, d.toNat, ?_, by omega, by omega, by omega, hb⟩
  rw [Int.toNat_of_nonneg hy0, Int.toNat_of_nonneg (by omega)]
  rfl

/-- A text or an error. -/
def PrintP (ok : Bool) (err : Int) (w : World) (e : Ending) (w' : World) : Prop := ∃ a n c xs, e = .returned (.tuple #[.slice a n c, .int .i64 (if ok then 0 else err)]) ∧ Own w' w.heap.size 5 1 (.slice a n c) n xs ∧ n ≤ 60 ∧ Below w.heap.size w w'

theorem printDay_any (b : Int) (h0 : 0 ≤ b) (h1 : b ≤ 18446744073709551615) (w : World) : Calls Try.prog 42 #[.int .u64 b] w (PrintP (dayOK b) 131 w) := by
  by_cases h1 : -719528 ≤ wrap64 b
  · have c1 : (decide (wrap64 b < -719528)) = false := by simp; omega
    by_cases h2 : wrap64 b ≤ 2932896
    · have hd : Aside (dayOK b = true) := ⟨by unfold dayOK asInt; simp [h1, h2]⟩
      have c2 : (decide (2932896 < wrap64 b)) = false := by simp; omega
      have H12 := Aside.mk (And.intro h1 h2)
      clear h1 h2
      go_enter Try.func42, Try.ntmps42
      go_wp2_with (first | (go_at_call 92; refine (date_b (wrap64 b) H12.out.1 H12.out.2 _).mono ?_; rintro e w1 ⟨y, m, d, rfl, hy, hm, hdd, hb1⟩; have B1 := Aside.mk hb1; clear hb1) | (go_at_call 93; refine (pad3 y m d hy hm hdd _ _ _ (heap_alloc_new w1 _)).mono ?_; rintro e w2 ⟨a2, n2, c2', xs, rfl, ho2, hn2, hb2⟩; have O2 := Aside.mk ho2; have B2 := Aside.mk hb2; clear ho2 hb2))
      go_ret2
      have hs := B1.out.size
      refine ⟨a2, n2, c2', xs, by rw [hd.out]; rfl, O2.out.mono (by simp; omega), by omega, (B1.out.alloc hs _).trans (B2.out.mono (by simp; omega))⟩
    · have hd : Aside (dayOK b = false) := ⟨by unfold dayOK asInt; simp [h2]⟩
      have c2 : (decide (2932896 < wrap64 b)) = true := by simp; omega
      clear h1 h2
      go_enter Try.func42, Try.ntmps42
      go_wp2
      go_ret2
      exact ⟨none, 0, 0, [], by rw [hd.out]; rfl, Own.nil _ _ _ _, by omega, Below.refl _ _⟩
  · have c1 : (decide (wrap64 b < -719528)) = true := by simp; omega
    have hd : Aside (dayOK b = false) := ⟨by unfold dayOK asInt; simp [h1]⟩
    clear h1
    go_enter Try.func42, Try.ntmps42
    go_wp2
    go_ret2
    exact ⟨none, 0, 0, [], by rw [hd.out]; rfl, Own.nil _ _ _ _, by omega, Below.refl _ _⟩
end Go.Proofs.Ytmhjjhaipcgbiaa
