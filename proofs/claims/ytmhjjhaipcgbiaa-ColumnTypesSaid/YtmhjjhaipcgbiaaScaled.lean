/- scaled.Cmp, and the document's answers on decimal numbers, days and moments. -/
import Derived.Test.YtmhjjhaipcgbiaaTypes
namespace Go.Proofs.Ytmhjjhaipcgbiaa
open Go.RowKit
set_option linter.unusedVariables false
set_option linter.unusedSimpArgs false
set_option maxRecDepth 100000
set_option maxHeartbeats 2000000

/-- The number of some bits. -/
def asInt (b : Int) : Int := wrap64 b
/-- Bits of a decimal number. -/
def decOK (b : Int) : Bool := decide (-999999999999999999 ≤ asInt b ∧ asInt b ≤ 999999999999999999)

/-- The answers, as far as they are told. -/
def SizeP (b : Int) (w : World) (e : Ending) (w' : World) : Prop := ∃ v n, e = .returned (.tuple #[.int .u64 v, .bool n, .bool (decOK b)]) ∧ w = w'
def CmpP (b : Int) (w : World) (e : Ending) (w' : World) : Prop := ∃ v, e = .returned (.tuple #[.int .i64 v, .int .i64 (if decOK b then 0 else 123)]) ∧ w = w'
def R12P (b : Int) (w : World) (e : Ending) (w' : World) : Prop := ∃ v n, e = .returned (.tuple #[.bool (decOK b), .bool n, .int .u64 v]) ∧ w = w'
def WhenP (ok : Bool) (w : World) (e : Ending) (w' : World) : Prop := ∃ v, e = .returned (.tuple #[.int .i64 v, .bool ok]) ∧ w = w'

theorem size_any (b : Int) (h0 : 0 ≤ b) (h1 : b ≤ 18446744073709551615) (w : World) : Calls Try.prog 91 #[.int .u64 b] w (SizeP b w) := by
  by_cases hs : wrap64 b < 0
  · have HD : Aside (decOK b = decide (IntKind.u64.wrap (-b) ≤ 999999999999999999)) := ⟨by
      have hw : IntKind.u64.wrap (-b) = (-b) % 18446744073709551616 := by simp [IntKind.wrap, IntKind.bits, IntKind.signed]
      rw [hw]
      unfold decOK asInt
      unfold wrap64 at hs ⊢
      rw [decide_eq_decide]; omega⟩
    go_enter Try.func91, Try.ntmps91
    go_wp2
    go_ret3
    refine ⟨IntKind.u64.wrap (-b), true, ?_, rfl⟩; rw [HD.out]; rfl
  · have HD : Aside (decOK b = decide (b ≤ 999999999999999999)) := ⟨by
      unfold decOK asInt
      unfold wrap64 at hs ⊢
      rw [decide_eq_decide]; omega⟩
    go_enter Try.func91, Try.ntmps91
    go_wp2
    go_ret3
    refine ⟨b, false, ?_, rfl⟩; rw [HD.out]; rfl

theorem cmp_self (b : Int) (h0 : 0 ≤ b) (h1 : b ≤ 18446744073709551615) (w : World) : Calls Try.prog 41 #[.int .u64 b, .int .u64 b] w (CmpP b w) := by
  have e1 : (b == b) = true := by simp
  cases hd : decOK b
  · have HD := Aside.mk hd
    clear hd
    go_enter Try.func41, Try.ntmps41
    go_wp2_with (go_at_call 91; refine (size_any _ h0 h1 _).mono ?_; unfold SizeP; rw [HD.out]; rintro e w1 ⟨v1, n1, rfl, rfl⟩)
    go_ret2
    refine ⟨0, ?_, rfl⟩; rw [HD.out]; rfl
  · have HD := Aside.mk hd
    clear hd
    go_enter Try.func41, Try.ntmps41
    go_wp2_with (go_at_call 91; refine (size_any _ h0 h1 _).mono ?_; unfold SizeP; rw [HD.out]; rintro e w1 ⟨v1, n1, rfl, rfl⟩)
    go_ret2
    refine ⟨0, ?_, rfl⟩; rw [HD.out]; rfl

theorem r12fits_any (b : Int) (h0 : 0 ≤ b) (h1 : b ≤ 18446744073709551615) (w : World) : Calls Try.prog 48 #[.int .u64 b] w (R12P b w) := by
  have hw : IntKind.u64.wrap (-b) = (-b) % 18446744073709551616 := by simp [IntKind.wrap, IntKind.bits, IntKind.signed]
  by_cases hs : b ≤ 999999999999999999
  · have HD : Aside (decOK b = true) := ⟨by unfold decOK asInt wrap64; simp; omega⟩
    clear hw
    go_enter Try.func48, Try.ntmps48
    go_wp2
    go_ret3
    refine ⟨b, false, ?_, rfl⟩; rw [HD.out]; rfl
  · have HD : Aside (decOK b = decide (IntKind.u64.wrap (-b) ≤ 999999999999999999)) := ⟨by rw [hw]; unfold decOK asInt wrap64; rw [decide_eq_decide]; omega⟩
    clear hw
    go_enter Try.func48, Try.ntmps48
    go_wp2
    all_goals
      go_ret3
      refine ⟨IntKind.u64.wrap (-b), true, ?_, rfl⟩; rw [HD.out]; rfl

/-- Bits of a day, of a moment. -/
def dayOK (b : Int) : Bool := decide (-719528 ≤ asInt b ∧ asInt b ≤ 2932896)
def momOK (b : Int) : Bool := decide (-62167219200000000 ≤ asInt b ∧ asInt b < 253402300800000000)

theorem r13isDay_any (b : Int) (w : World) : Calls Try.prog 49 #[.int .u64 b] w (WhenP (dayOK b) w) := by
  have hd : Aside (dayOK b = (decide (-719528 ≤ wrap64 b) && decide (wrap64 b ≤ 2932896))) := ⟨by unfold dayOK asInt; rw [Bool.decide_and]⟩
  by_cases h1 : -719528 ≤ wrap64 b
  · have H1 := Aside.mk h1
    go_enter Try.func49, Try.ntmps49
    go_wp2
    go_ret2
    refine ⟨wrap64 b, ?_, rfl⟩; rw [hd.out, decide_eq_true H1.out]; rfl
  · have H1 := Aside.mk h1
    have h2 : decide (-719528 ≤ wrap64 b) = false := by simpa using h1
    clear h1
    go_enter Try.func49, Try.ntmps49
    go_wp2
    go_ret2
    refine ⟨wrap64 b, ?_, rfl⟩; rw [hd.out, decide_eq_false (Int.not_le.2 H1.out)]; rfl
theorem r13isMoment_any (b : Int) (w : World) : Calls Try.prog 50 #[.int .u64 b] w (WhenP (momOK b) w) := by
  have hd : Aside (momOK b = (decide (-62167219200000000 ≤ wrap64 b) && decide (wrap64 b < 253402300800000000))) := ⟨by unfold momOK asInt; rw [Bool.decide_and]⟩
  by_cases h1 : -62167219200000000 ≤ wrap64 b
  · have H1 := Aside.mk h1
    go_enter Try.func50, Try.ntmps50
    go_wp2
    go_ret2
    refine ⟨wrap64 b, ?_, rfl⟩; rw [hd.out, decide_eq_true H1.out]; rfl
  · have H1 := Aside.mk h1
    have h2 : decide (-62167219200000000 ≤ wrap64 b) = false := by simpa using h1
    clear h1
    go_enter Try.func50, Try.ntmps50
    go_wp2
    go_ret2
    refine ⟨wrap64 b, ?_, rfl⟩; rw [hd.out, decide_eq_false (Int.not_le.2 H1.out)]; rfl
end Go.Proofs.Ytmhjjhaipcgbiaa
