/- The document's answer on floats' bits: mintageref03. -/
import Derived.Test.YtmhjjhaipcgbiaaTypes
namespace Go.Proofs.Ytmhjjhaipcgbiaa
open Go.RowKit
set_option linter.unusedVariables false
set_option linter.unusedSimpArgs false
set_option maxRecDepth 100000
set_option maxHeartbeats 2000000

theorem r3shape_32 (w : World) : Calls Try.prog 98 #[.int .i64 9] w fun e w' => e = .returned (.tuple #[.int .i64 23, .int .i64 8, .bool true]) ∧ w = w' := by
  go_enter Try.func98, Try.ntmps98
  go_wp2
  go_ret3
  exact ⟨rfl, rfl⟩
theorem r3shape_64 (w : World) : Calls Try.prog 98 #[.int .i64 10] w fun e w' => e = .returned (.tuple #[.int .i64 52, .int .i64 11, .bool true]) ∧ w = w' := by
  go_enter Try.func98, Try.ntmps98
  go_wp2
  go_ret3
  exact ⟨rfl, rfl⟩
theorem r3sign_32 (w : World) : Calls Try.prog 117 #[.int .i64 9] w fun e w' => e = .returned (.int .u64 2147483648) ∧ w = w' := by
  go_enter Try.func117, Try.ntmps117
  go_wp2
  go_ret
  exact ⟨rfl, rfl⟩
theorem r3sign_64 (w : World) : Calls Try.prog 117 #[.int .i64 10] w fun e w' => e = .returned (.int .u64 9223372036854775808) ∧ w = w' := by
  go_enter Try.func117, Try.ntmps117
  go_wp2
  go_ret
  exact ⟨rfl, rfl⟩
theorem r3check_32 (b : Int) (h : b < 4294967296) (w : World) : Calls Try.prog 97 #[.int .i64 9, .int .u64 b] w fun e w' => e = .returned (.int .i64 0) ∧ w = w' := by
  go_enter Try.func97, Try.ntmps97
  go_wp2_with (go_at_call 98; refine (r3shape_32 _).mono ?_; rintro e w1 ⟨rfl, rfl⟩)
  go_ret
  exact ⟨rfl, rfl⟩
theorem r3check_32_no (b : Int) (h : 4294967296 ≤ b) (w : World) : Calls Try.prog 97 #[.int .i64 9, .int .u64 b] w fun e w' => e = .returned (.int .i64 31) ∧ w = w' := by
  go_enter Try.func97, Try.ntmps97
  go_wp2_with (go_at_call 98; refine (r3shape_32 _).mono ?_; rintro e w1 ⟨rfl, rfl⟩)
  go_ret
  exact ⟨rfl, rfl⟩
theorem r3check_64 (b : Int) (w : World) : Calls Try.prog 97 #[.int .i64 10, .int .u64 b] w fun e w' => e = .returned (.int .i64 0) ∧ w = w' := by
  go_enter Try.func97, Try.ntmps97
  go_wp2_with (go_at_call 98; refine (r3shape_64 _).mono ?_; rintro e w1 ⟨rfl, rfl⟩)
  go_ret
  exact ⟨rfl, rfl⟩
def r3cls (x m mx : Int) : Int := if x = mx ∧ m = 0 then 4 else if x = mx then 5 else if 0 < x then 3 else if 0 < m then 2 else 1
theorem r3cls_inf {mx : Int} : r3cls mx 0 mx = 4 := by simp [r3cls]
theorem r3cls_nan {m mx : Int} (h : ¬ m = 0) : r3cls mx m mx = 5 := by simp [r3cls, h]
theorem r3cls_norm {x m mx : Int} (h : ¬ x = mx) (h2 : 0 < x) : r3cls x m mx = 3 := by simp [r3cls, h, h2]
theorem r3cls_small {x m mx : Int} (h : ¬ x = mx) (h2 : ¬ 0 < x) (h3 : 0 < m) : r3cls x m mx = 2 := by simp [r3cls, h, h2, h3]
theorem r3cls_zero {x m mx : Int} (h : ¬ x = mx) (h2 : ¬ 0 < x) (h3 : ¬ 0 < m) : r3cls x m mx = 1 := by simp [r3cls, h, h2, h3]

theorem r3parts_32 (b : Int) (h0 : 0 ≤ b) (h1 : b < 4294967296) (w : World) : Calls Try.prog 99 #[.int .i64 9, .int .u64 b] w fun e w' => e = .returned (.tuple #[.int .i64 (b % 2147483648 / 8388608 % 256), .int .u64 (b % 2147483648 % 8388608)]) ∧ Below w.heap.size w w' := by
  go_enter Try.func99, Try.ntmps99
  go_wp2_with (first | (go_at_call 98; refine (r3shape_32 _).mono ?_; rintro e w1 ⟨rfl, rfl⟩) | (go_at_call 117; refine (r3sign_32 _).mono ?_; rintro e w1 ⟨rfl, rfl⟩))
  go_quiet (fail)
  go_wp2
  go_ret2
  exact ⟨rfl, (by repeat (first | exact Below.refl _ _ | assumption | (refine Below.drew ?_) | (refine Below.trans ?_ (below_drewN _ _ _)) | (refine Below.alloc ?_ (by first | omega | (simp; done) | (simp; omega)) _) | (refine Below.setCell ?_ (by first | omega | (simp; done) | (simp; omega)) _)))⟩

/-- The class by both fields. -/
theorem r3class_32 (b : Int) (h0 : 0 ≤ b) (h1 : b < 4294967296) (w : World) : Calls Try.prog 46 #[.int .i64 9, .int .u64 b] w fun e w' => e = .returned (.tuple #[.int .i64 (r3cls (b % 2147483648 / 8388608 % 256) (b % 2147483648 % 8388608) 255), .int .i64 0]) ∧ Below w.heap.size w w' := by
  go_enter Try.func46, Try.ntmps46
  go_wp2_with (first | (go_at_call 97; refine (r3check_32 _ h1 _).mono ?_; rintro e w1 ⟨rfl, rfl⟩) | (go_at_call 98; refine (r3shape_32 _).mono ?_; rintro e w1 ⟨rfl, rfl⟩))
  refine (r3parts_32 _ h0 h1 _).mono ?_
  rintro e w1 ⟨rfl, hb1⟩
  generalize hx : b % 2147483648 / 8388608 % 256 = x
  generalize hm : b % 2147483648 % 8388608 = m
  have hx0 : 0 ≤ x := by omega
  have hm0 : 0 ≤ m := by omega
  have HX := Aside.mk hx
  have HM := Aside.mk hm
  clear hx hm
  by_cases c1 : x = 255
  · subst c1
    by_cases c2 : m = 0
    · subst c2
      go_wp2_with fail
      go_ret2
      exact ⟨by rw [HX.out, HM.out, r3cls_inf]; rfl, hb1⟩
    · have c3 : (m == 0) = false := by simpa using c2
      have C2 := Aside.mk c2
      clear c2
      go_wp2_with fail
      go_ret2
      exact ⟨by rw [HX.out, HM.out, r3cls_nan C2.out]; rfl, hb1⟩
  · have c2 : (x == 255) = false := by simpa using c1
    have C1 := Aside.mk c1
    clear c1
    by_cases c3 : 0 < x
    · go_wp2_with fail
      go_ret2
      exact ⟨by rw [HX.out, HM.out, r3cls_norm C1.out c3]; rfl, hb1⟩
    · by_cases c4 : 0 < m
      · go_wp2_with fail
        go_ret2
        exact ⟨by rw [HX.out, HM.out, r3cls_small C1.out (by omega) c4]; rfl, hb1⟩
      · go_wp2_with fail
        go_ret2
        exact ⟨by rw [HX.out, HM.out, r3cls_zero C1.out (by omega) (by omega)]; rfl, hb1⟩

theorem r3parts_64 (b : Int) (h0 : 0 ≤ b) (h1 : b ≤ 18446744073709551615) (w : World) : Calls Try.prog 99 #[.int .i64 10, .int .u64 b] w fun e w' => e = .returned (.tuple #[.int .i64 (b % 9223372036854775808 / 4503599627370496 % 2048), .int .u64 (b % 9223372036854775808 % 4503599627370496)]) ∧ Below w.heap.size w w' := by
  go_enter Try.func99, Try.ntmps99
  go_wp2_with (first | (go_at_call 98; refine (r3shape_64 _).mono ?_; rintro e w1 ⟨rfl, rfl⟩) | (go_at_call 117; refine (r3sign_64 _).mono ?_; rintro e w1 ⟨rfl, rfl⟩))
  go_quiet (fail)
  go_wp2
  go_ret2
  exact ⟨rfl, (by repeat (first | exact Below.refl _ _ | assumption | (refine Below.drew ?_) | (refine Below.trans ?_ (below_drewN _ _ _)) | (refine Below.alloc ?_ (by first | omega | (simp; done) | (simp; omega)) _) | (refine Below.setCell ?_ (by first | omega | (simp; done) | (simp; omega)) _)))⟩

/-- The class by both fields. -/
theorem r3class_64 (b : Int) (h0 : 0 ≤ b) (h1 : b ≤ 18446744073709551615) (w : World) : Calls Try.prog 46 #[.int .i64 10, .int .u64 b] w fun e w' => e = .returned (.tuple #[.int .i64 (r3cls (b % 9223372036854775808 / 4503599627370496 % 2048) (b % 9223372036854775808 % 4503599627370496) 2047), .int .i64 0]) ∧ Below w.heap.size w w' := by
  go_enter Try.func46, Try.ntmps46
  go_wp2_with (first | (go_at_call 97; refine (r3check_64 _ _).mono ?_; rintro e w1 ⟨rfl, rfl⟩) | (go_at_call 98; refine (r3shape_64 _).mono ?_; rintro e w1 ⟨rfl, rfl⟩))
  refine (r3parts_64 _ h0 h1 _).mono ?_
  rintro e w1 ⟨rfl, hb1⟩
  generalize hx : b % 9223372036854775808 / 4503599627370496 % 2048 = x
  generalize hm : b % 9223372036854775808 % 4503599627370496 = m
  have hx0 : 0 ≤ x := by omega
  have hm0 : 0 ≤ m := by omega
  have HX := Aside.mk hx
  have HM := Aside.mk hm
  clear hx hm
  by_cases c1 : x = 2047
  · subst c1
    by_cases c2 : m = 0
    · subst c2
      go_wp2_with fail
      go_ret2
      exact ⟨by rw [HX.out, HM.out, r3cls_inf]; rfl, hb1⟩
    · have c3 : (m == 0) = false := by simpa using c2
      have C2 := Aside.mk c2
      clear c2
      go_wp2_with fail
      go_ret2
      exact ⟨by rw [HX.out, HM.out, r3cls_nan C2.out]; rfl, hb1⟩
  · have c2 : (x == 2047) = false := by simpa using c1
    have C1 := Aside.mk c1
    clear c1
    by_cases c3 : 0 < x
    · go_wp2_with fail
      go_ret2
      exact ⟨by rw [HX.out, HM.out, r3cls_norm C1.out c3]; rfl, hb1⟩
    · by_cases c4 : 0 < m
      · go_wp2_with fail
        go_ret2
        exact ⟨by rw [HX.out, HM.out, r3cls_small C1.out (by omega) c4]; rfl, hb1⟩
      · go_wp2_with fail
        go_ret2
        exact ⟨by rw [HX.out, HM.out, r3cls_zero C1.out (by omega) (by omega)]; rfl, hb1⟩

theorem r3class_32_no (b : Int) (h0 : 4294967296 ≤ b) (w : World) : Calls Try.prog 46 #[.int .i64 9, .int .u64 b] w fun e w' => e = .returned (.tuple #[.int .i64 0, .int .i64 31]) ∧ w = w' := by
  go_enter Try.func46, Try.ntmps46
  go_wp2_with (go_at_call 97; refine (r3check_32_no _ h0 _).mono ?_; rintro e w1 ⟨rfl, rfl⟩)
  go_ret2
  exact ⟨rfl, rfl⟩
theorem r3nan_32 (w : World) : Calls Try.prog 47 #[.int .i64 9] w fun e w' => e = .returned (.int .u64 2143289344) ∧ w = w' := by
  go_enter Try.func47, Try.ntmps47
  go_wp2
  go_ret
  exact ⟨rfl, rfl⟩
theorem r3nan_64 (w : World) : Calls Try.prog 47 #[.int .i64 10] w fun e w' => e = .returned (.int .u64 9221120237041090560) ∧ w = w' := by
  go_enter Try.func47, Try.ntmps47
  go_wp2
  go_ret
  exact ⟨rfl, rfl⟩
end Go.Proofs.Ytmhjjhaipcgbiaa
