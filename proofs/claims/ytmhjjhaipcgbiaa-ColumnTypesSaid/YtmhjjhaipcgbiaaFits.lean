/- Fits: the program's and the document's. -/
import Derived.Test.YtmhjjhaipcgbiaaMoment
import Derived.Test.YtmhjjhaipcgbiaaClass
import Derived.Test.YtmhjjhaipcgbiaaWhole
import Derived.Test.YtmhjjhaipcgbiaaRef3
import Derived.Laws.BitsAllLaws
namespace Go.Proofs.Ytmhjjhaipcgbiaa
open Go.RowKit
set_option linter.unusedVariables false
set_option linter.unusedSimpArgs false
set_option maxRecDepth 100000
set_option maxHeartbeats 1000000

theorem strip_nat (n k a : Nat) (hk : k + 1 ≤ n) (ha : a < 2 ^ (k + 1)) : a &&& (2 ^ n - (2 ^ k + 1)) = a % 2 ^ k := by
  apply Nat.eq_of_testBit_eq
  intro i
  have h1 : 2 ^ k < 2 ^ n := Nat.pow_lt_pow_right (by decide) (by omega)
  rw [Nat.testBit_and, Nat.testBit_two_pow_sub_succ h1, Nat.testBit_mod_two_pow, Nat.testBit_two_pow]
  by_cases h : i < k
  · simp [h, show i < n by omega, show ¬ k = i by omega]
  · by_cases h2 : i = k
    · subst h2; simp
    · have : a.testBit i = false := Nat.testBit_lt_two_pow (Nat.lt_of_lt_of_le ha (Nat.pow_le_pow_right (by decide) (by omega)))
      simp [this]

theorem strip_32 (b : Int) (h0 : 0 ≤ b) (h1 : b < 4294967296) : bits .andNot .u64 b 2147483648 = b % 2147483648 := by
  rw [u64_andNot b 2147483648 h0 (by omega) (by decide) (by decide)]
  have := strip_nat 64 31 b.toNat (by decide) (by have : (2:Nat) ^ (31 + 1) = 4294967296 := rfl; omega)
  have e : (18446744073709551615 - (2147483648 : Int).toNat) = 2 ^ 64 - (2 ^ 31 + 1) := by decide
  rw [e, this]
  have e2 : (2 : Nat) ^ 31 = 2147483648 := rfl
  rw [e2]; omega
theorem strip_64 (b : Int) (h0 : 0 ≤ b) (h1 : b ≤ 18446744073709551615) : bits .andNot .u64 b 9223372036854775808 = b % 9223372036854775808 := by
  rw [u64_andNot b 9223372036854775808 h0 (by omega) (by decide) (by decide)]
  have := strip_nat 64 63 b.toNat (by decide) (by have : (2:Nat) ^ (63 + 1) = 18446744073709551616 := rfl; omega)
  have e : (18446744073709551615 - (9223372036854775808 : Int).toNat) = 2 ^ 64 - (2 ^ 63 + 1) := by decide
  rw [e, this]
  have e2 : (2 : Nat) ^ 63 = 9223372036854775808 := rfl
  rw [e2]; omega

/-- Is it no number? -/
def nan32 (b : Int) : Bool := decide (2139095040 < b % 2147483648)
def nan64 (b : Int) : Bool := decide (9218868437227405312 < b % 9223372036854775808)

/-- The answers of Class on floats: what matters is whether it is 5. -/
def ClassP (nan : Bool) (w : World) (e : Ending) (w' : World) : Prop := ∃ c : Int, e = .returned (.tuple #[.int .i64 c, .int .i64 0]) ∧ (c == 5) = nan ∧ Below w.heap.size w w'

theorem cls_32 (b : Int) (h0 : 0 ≤ b) (h1 : b < 4294967296) (w : World) : Calls Try.prog 39 #[.int .i64 9, .int .u64 b] w (ClassP (nan32 b) w) := by
  refine (class_32 b h0 h1 w).mono ?_
  rintro e w' ⟨rfl, hb⟩
  refine ⟨_, rfl, ?_, hb⟩
  rw [strip_32 b h0 h1]
  unfold clsOf nan32
  have : 0 ≤ b % 2147483648 := by omega
  generalize b % 2147483648 = y at *
  by_cases c1 : y = 0
  · simp [c1]
  by_cases c2 : y < 8388608
  · simp [c1, c2]; omega
  by_cases c3 : y < 2139095040
  · simp [c1, c2, c3]; omega
  by_cases c4 : y = 2139095040
  · simp [c4]
  · simp [c1, c2, c3, c4]; omega
theorem cls_64 (b : Int) (h0 : 0 ≤ b) (h1 : b ≤ 18446744073709551615) (w : World) : Calls Try.prog 39 #[.int .i64 10, .int .u64 b] w (ClassP (nan64 b) w) := by
  refine (class_64 b w).mono ?_
  rintro e w' ⟨rfl, hb⟩
  refine ⟨_, rfl, ?_, hb⟩
  rw [strip_64 b h0 h1]
  unfold clsOf nan64
  have : 0 ≤ b % 9223372036854775808 := by omega
  generalize b % 9223372036854775808 = y at *
  by_cases c1 : y = 0
  · simp [c1]
  by_cases c2 : y < 4503599627370496
  · simp [c1, c2]; omega
  by_cases c3 : y < 9218868437227405312
  · simp [c1, c2, c3]; omega
  by_cases c4 : y = 9218868437227405312
  · simp [c4]
  · simp [c1, c2, c3, c4]; omega
theorem r3c_32 (b : Int) (h0 : 0 ≤ b) (h1 : b < 4294967296) (w : World) : Calls Try.prog 46 #[.int .i64 9, .int .u64 b] w (ClassP (nan32 b) w) := by
  refine (r3class_32 b h0 h1 w).mono ?_
  rintro e w' ⟨rfl, hb⟩
  refine ⟨_, rfl, ?_, hb⟩
  unfold r3cls nan32
  have : 0 ≤ b % 2147483648 ∧ b % 2147483648 < 2147483648 := by omega
  generalize b % 2147483648 = y at *
  by_cases c1 : y / 8388608 % 256 = 255 ∧ y % 8388608 = 0
  · rw [if_pos c1]; simp; omega
  rw [if_neg c1]
  by_cases c2 : y / 8388608 % 256 = 255
  · rw [if_pos c2]; simp; omega
  rw [if_neg c2]
  by_cases c3 : 0 < y / 8388608 % 256
  · rw [if_pos c3]; simp; omega
  rw [if_neg c3]
  by_cases c4 : 0 < y % 8388608
  · rw [if_pos c4]; simp; omega
  · rw [if_neg c4]; simp; omega
theorem r3c_64 (b : Int) (h0 : 0 ≤ b) (h1 : b ≤ 18446744073709551615) (w : World) : Calls Try.prog 46 #[.int .i64 10, .int .u64 b] w (ClassP (nan64 b) w) := by
  refine (r3class_64 b h0 h1 w).mono ?_
  rintro e w' ⟨rfl, hb⟩
  refine ⟨_, rfl, ?_, hb⟩
  unfold r3cls nan64
  have : 0 ≤ b % 9223372036854775808 ∧ b % 9223372036854775808 < 9223372036854775808 := by omega
  generalize b % 9223372036854775808 = y at *
  by_cases c1 : y / 4503599627370496 % 2048 = 2047 ∧ y % 4503599627370496 = 0
  · rw [if_pos c1]; simp; omega
  rw [if_neg c1]
  by_cases c2 : y / 4503599627370496 % 2048 = 2047
  · rw [if_pos c2]; simp; omega
  rw [if_neg c2]
  by_cases c3 : 0 < y / 4503599627370496 % 2048
  · rw [if_pos c3]; simp; omega
  rw [if_neg c3]
  by_cases c4 : 0 < y % 4503599627370496
  · rw [if_pos c4]; simp; omega
  · rw [if_neg c4]; simp; omega

/-- Bits of a float. -/
def f32OK (b : Int) : Bool := decide (b < 4294967296) && (!nan32 b || b == 2143289344)
def f64OK (b : Int) : Bool := !nan64 b || b == 9221120237041090560
/-- Bits of a kind, where the type may be. -/
def bitsOK (k b : Int) : Bool :=
  if k = 9 then f32OK b else if k = 10 then f64OK b else if k = 11 then decide (b ≤ 1) else if k = 12 then decOK b else if k = 13 then dayOK b else if k = 14 then momOK b
  else if k = 15 ∨ k = 16 then false else decide (b ≤ maxOf (wbits k))
def fitsB (k s b : Int) : Bool := okType k s && bitsOK k b
end Go.Proofs.Ytmhjjhaipcgbiaa
