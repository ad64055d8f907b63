/- Texts of this claim, one behind the other: Fits, Fits2, Dict0. -/
import Derived.Test.YtmhjjhaipcgbiaaBakP3
import Derived.Test.YtmhjjhaipcgbiaaBakP4
import Derived.Laws.BitsAllLaws
import Derived.Test.YtmhjjhaipcgbiaaBakP1
import Derived.Maps.OwnSet
import Derived.Maps.OwnOps
import Derived.StringKeys
import Derived.Laws.BytesArg

namespace Go.Proofs.Ytmhjjhaipcgbiaa
open Go.RowKit
set_option linter.unusedVariables false
set_option linter.unusedSimpArgs false
set_option maxRecDepth 100000
set_option maxHeartbeats 1000000
theorem strip_nat (n k a : Nat) (hk : k + 1 ≤ n) (ha : a < 2 ^ (k + 1)) : a &&& (2 ^ n - (2 ^ k + 1)) = a % 2 ^ k := by
  apply Nat.eq_of_testBit_eq
  intro i
  have h1 : 2 ^ k < 2 ^ n := Nat.pow_lt_pow_right (by decide) (by omega)
  rw [Nat.testBit_and, Nat.testBit_two_pow_sub_succ h1, Nat.testBit_mod_two_pow, Nat.testBit_two_pow]
  by_cases h : i < k
  · simp [h, show i < n by omega, show ¬ k = i by omega]
  · by_cases h2 : i = k
    · subst h2; simp
    · have : a.testBit i = false := Nat.testBit_lt_two_pow (Nat.lt_of_lt_of_le ha (Nat.pow_le_pow_right (by decide) (by omega)))
      simp [this]
theorem strip_32 (b : Int) (h0 : 0 ≤ b) (h1 : b < 4294967296) : bits .andNot .u64 b 2147483648 = b % 2147483648 := by
  rw [u64_andNot b 2147483648 h0 (by omega) (by decide) (by decide)]
  have := strip_nat 64 31 b.toNat (by decide) (by have : (2:Nat) ^ (31 + 1) = 4294967296 := rfl; omega)
  have e : (18446744073709551615 - (2147483648 : Int).toNat) = 2 ^ 64 - (2 ^ 31 + 1) := by decide
  rw [e, this]
  have e2 : (2 : Nat) ^ 31 = 2147483648 := rfl
  rw [e2]; omega
theorem strip_64 (b : Int) (h0 : 0 ≤ b) (h1 : b ≤ 18446744073709551615) : bits .andNot .u64 b 9223372036854775808 = b % 9223372036854775808 := by
  rw [u64_andNot b 9223372036854775808 h0 (by omega) (by decide) (by decide)]
  have := strip_nat 64 63 b.toNat (by decide) (by have : (2:Nat) ^ (63 + 1) = 18446744073709551616 := rfl; omega)
  have e : (18446744073709551615 - (9223372036854775808 : Int).toNat) = 2 ^ 64 - (2 ^ 63 + 1) := by decide
  rw [e, this]
  have e2 : (2 : Nat) ^ 63 = 9223372036854775808 := rfl
  rw [e2]; omega
def nan32 (b : Int) : Bool := decide (2139095040 < b % 2147483648)
def nan64 (b : Int) : Bool := decide (9218868437227405312 < b % 9223372036854775808)
def ClassP (nan : Bool) (w : World) (e : Ending) (w' : World) : Prop := ∃ c : Int, e = .returned (.tuple #[.int .i64 c, .int .i64 0]) ∧ (c == 5) = nan ∧ Below w.heap.size w w'
theorem cls_32 (b : Int) (h0 : 0 ≤ b) (h1 : b < 4294967296) (w : World) : Calls Try.prog 39 #[.int .i64 9, .int .u64 b] w (ClassP (nan32 b) w) := by
  refine (class_32 b h0 h1 w).mono ?_
  rintro e w' ⟨rfl, hb⟩
  refine ⟨_, rfl, ?_, hb⟩
  rw [strip_32 b h0 h1]
  unfold clsOf nan32
  have : 0 ≤ b % 2147483648 := by omega
  generalize b % 2147483648 = y at *
  by_cases c1 : y = 0
  · simp [c1]
  by_cases c2 : y < 8388608
  · simp [c1, c2]; omega
  by_cases c3 : y < 2139095040
  · simp [c1, c2, c3]; omega
  by_cases c4 : y = 2139095040
  · simp [c4]
  · simp [c1, c2, c3, c4]; omega
theorem cls_64 (b : Int) (h0 : 0 ≤ b) (h1 : b ≤ 18446744073709551615) (w : World) : Calls Try.prog 39 #[.int .i64 10, .int .u64 b] w (ClassP (nan64 b) w) := by
  refine (class_64 b w).mono ?_
  rintro e w' ⟨rfl, hb⟩
  refine ⟨_, rfl, ?_, hb⟩
  rw [strip_64 b h0 h1]
  unfold clsOf nan64
  have : 0 ≤ b % 9223372036854775808 := by omega
  generalize b % 9223372036854775808 = y at *
  by_cases c1 : y = 0
  · simp [c1]
  by_cases c2 : y < 4503599627370496
  · simp [c1, c2]; omega
  by_cases c3 : y < 9218868437227405312
  · simp [c1, c2, c3]; omega
  by_cases c4 : y = 9218868437227405312
  · simp [c4]
  · simp [c1, c2, c3, c4]; omega
theorem r3c_32 (b : Int) (h0 : 0 ≤ b) (h1 : b < 4294967296) (w : World) : Calls Try.prog 46 #[.int .i64 9, .int .u64 b] w (ClassP (nan32 b) w) := by
  refine (r3class_32 b h0 h1 w).mono ?_
  rintro e w' ⟨rfl, hb⟩
  refine ⟨_, rfl, ?_, hb⟩
  unfold r3cls nan32
  have : 0 ≤ b % 2147483648 ∧ b % 2147483648 < 2147483648 := by omega
  generalize b % 2147483648 = y at *
  by_cases c1 : y / 8388608 % 256 = 255 ∧ y % 8388608 = 0
  · rw [if_pos c1]; simp; omega
  rw [if_neg c1]
  by_cases c2 : y / 8388608 % 256 = 255
  · rw [if_pos c2]; simp; omega
  rw [if_neg c2]
  by_cases c3 : 0 < y / 8388608 % 256
  · rw [if_pos c3]; simp; omega
  rw [if_neg c3]
  by_cases c4 : 0 < y % 8388608
  · rw [if_pos c4]; simp; omega
  · rw [if_neg c4]; simp; omega
theorem r3c_64 (b : Int) (h0 : 0 ≤ b) (h1 : b ≤ 18446744073709551615) (w : World) : Calls Try.prog 46 #[.int .i64 10, .int .u64 b] w (ClassP (nan64 b) w) := by
  refine (r3class_64 b h0 h1 w).mono ?_
  rintro e w' ⟨rfl, hb⟩
  refine ⟨_, rfl, ?_, hb⟩
  unfold r3cls nan64
  have : 0 ≤ b % 9223372036854775808 ∧ b % 9223372036854775808 < 9223372036854775808 := by omega
  generalize b % 9223372036854775808 = y at *
  by_cases c1 : y / 4503599627370496 % 2048 = 2047 ∧ y % 4503599627370496 = 0
  · rw [if_pos c1]; simp; omega
  rw [if_neg c1]
  by_cases c2 : y / 4503599627370496 % 2048 = 2047
  · rw [if_pos c2]; simp; omega
  rw [if_neg c2]
  by_cases c3 : 0 < y / 4503599627370496 % 2048
  · rw [if_pos c3]; simp; omega
  rw [if_neg c3]
  by_cases c4 : 0 < y % 4503599627370496
  · rw [if_pos c4]; simp; omega
  · rw [if_neg c4]; simp; omega
def f32OK (b : Int) : Bool := decide (b < 4294967296) && (!nan32 b || b == 2143289344)
def f64OK (b : Int) : Bool := !nan64 b || b == 9221120237041090560
def bitsOK (k b : Int) : Bool :=
  if k = 9 then f32OK b else if k = 10 then f64OK b else if k = 11 then decide (b ≤ 1) else if k = 12 then decOK b else if k = 13 then dayOK b else if k = 14 then momOK b
  else if k = 15 ∨ k = 16 then false else decide (b ≤ maxOf (wbits k))
def fitsB (k s b : Int) : Bool := okType k s && bitsOK k b
end Go.Proofs.Ytmhjjhaipcgbiaa


namespace Go.Proofs.Ytmhjjhaipcgbiaa
open Go.RowKit
set_option linter.unusedVariables false
set_option linter.unusedSimpArgs false
set_option maxRecDepth 100000
set_option maxHeartbeats 1000000
theorem bne_of {a b : Int} (h : (a == b) = false) : (a != b) = true := by simpa [bne] using h
theorem cell_kept {w w1 : World} {cs : Array Value} {T : TypeId} (hb : Below (w.alloc (.cells cs T)).heap.size (w.alloc (.cells cs T)) w1) (j : Nat) : w1.cell? ⟨w.heap.size, j, none⟩ = cs[j]? :=
  (hb.cell (p := ⟨w.heap.size, j, none⟩) (by simp)).trans (cell_blk (heap_alloc_new w _))
theorem frozen_kept {w w1 : World} {cs : Array Value} {T : TypeId} (hb : Below (w.alloc (.cells cs T)).heap.size (w.alloc (.cells cs T)) w1) (j : Nat) : w1.frozen? ⟨w.heap.size, j, none⟩ = false :=
  (hb.frozen (p := ⟨w.heap.size, j, none⟩) (by simp)).trans (frozen_blk (heap_alloc_new w _))
def FitsP (r : Bool) (w : World) (e : Ending) (w' : World) : Prop := e = .returned (.bool r) ∧ Below w.heap.size w w'
theorem fits_no (k s b : Int) (w : World) (h : okType k s = false) : Calls Try.prog 14 #[.agg #[.int .i64 k, .int .i64 s], .int .u64 b] w (FitsP (fitsB k s b) w) := by
  have HOK := Aside.mk h
  have HF : Aside (fitsB k s b = false) := ⟨by simp [fitsB, h]⟩
  clear h
  go_enter Try.func14, Try.ntmps14
  go_wp2_with (go_at_call 10; refine (checkType_no _ _ _ HOK.out).mono ?_; rintro e w1 ⟨rfl, hb1⟩; have hB1 := Aside.mk ((below_new w _).trans (hb1.mono (by simp))))
  go_ret
  exact ⟨by rw [HF.out]; rfl, hB1.out⟩
theorem fits_yes (k s b : Int) (h0 : 0 ≤ b) (h1 : b ≤ 18446744073709551615) (w : World) (h : okType k s = true) : Calls Try.prog 14 #[.agg #[.int .i64 k, .int .i64 s], .int .u64 b] w (FitsP (fitsB k s b) w) := by
  have HOK := Aside.mk h
  have HF : Aside (fitsB k s b = bitsOK k b) := ⟨by simp [fitsB, h]⟩
  have hk : k = 1 ∨ k = 2 ∨ k = 3 ∨ k = 4 ∨ k = 5 ∨ k = 6 ∨ k = 7 ∨ k = 8 ∨ k = 9 ∨ k = 10 ∨ k = 11 ∨ k = 12 ∨ k = 13 ∨ k = 14 ∨ k = 15 ∨ k = 16 := by simp [okType] at h; omega
  clear h
  rcases hk with rfl | rfl | rfl | rfl | rfl | rfl | rfl | rfl | rfl | rfl | rfl | rfl | rfl | rfl | rfl | rfl
  · go_enter Try.func14, Try.ntmps14
    go_wp2_with (first | (go_at_call 10; refine (checkType_yes _ _ _ HOK.out).mono ?_; rintro e w1 ⟨rfl, hb1⟩; obtain ⟨hc, hf⟩ := bcell hb1; have hB1 := Aside.mk ((below_new w _).trans (hb1.mono (by simp))); have hz := hb1.size; simp only [World.size_alloc] at hz) | (go_at_call 44; refine (wholeFits_yes _ _ _ (by omega)).mono ?_; rintro e w2 ⟨rfl, hb2⟩; have hB2 := Aside.mk (hB1.out.trans (hb2.mono hB1.out.size))))
    go_ret
    exact ⟨by rw [HF.out]; rfl, hB2.out⟩
  · go_enter Try.func14, Try.ntmps14
    go_wp2_with (first | (go_at_call 10; refine (checkType_yes _ _ _ HOK.out).mono ?_; rintro e w1 ⟨rfl, hb1⟩; obtain ⟨hc, hf⟩ := bcell hb1; have hB1 := Aside.mk ((below_new w _).trans (hb1.mono (by simp))); have hz := hb1.size; simp only [World.size_alloc] at hz) | (go_at_call 44; refine (wholeFits_yes _ _ _ (by omega)).mono ?_; rintro e w2 ⟨rfl, hb2⟩; have hB2 := Aside.mk (hB1.out.trans (hb2.mono hB1.out.size))))
    go_ret
    exact ⟨by rw [HF.out]; rfl, hB2.out⟩
  · go_enter Try.func14, Try.ntmps14
    go_wp2_with (first | (go_at_call 10; refine (checkType_yes _ _ _ HOK.out).mono ?_; rintro e w1 ⟨rfl, hb1⟩; obtain ⟨hc, hf⟩ := bcell hb1; have hB1 := Aside.mk ((below_new w _).trans (hb1.mono (by simp))); have hz := hb1.size; simp only [World.size_alloc] at hz) | (go_at_call 44; refine (wholeFits_yes _ _ _ (by omega)).mono ?_; rintro e w2 ⟨rfl, hb2⟩; have hB2 := Aside.mk (hB1.out.trans (hb2.mono hB1.out.size))))
    go_ret
    exact ⟨by rw [HF.out]; rfl, hB2.out⟩
  · go_enter Try.func14, Try.ntmps14
    go_wp2_with (first | (go_at_call 10; refine (checkType_yes _ _ _ HOK.out).mono ?_; rintro e w1 ⟨rfl, hb1⟩; obtain ⟨hc, hf⟩ := bcell hb1; have hB1 := Aside.mk ((below_new w _).trans (hb1.mono (by simp))); have hz := hb1.size; simp only [World.size_alloc] at hz) | (go_at_call 44; refine (wholeFits_yes _ _ _ (by omega)).mono ?_; rintro e w2 ⟨rfl, hb2⟩; have hB2 := Aside.mk (hB1.out.trans (hb2.mono hB1.out.size))))
    go_ret
    exact ⟨by rw [HF.out]; rfl, hB2.out⟩
  · go_enter Try.func14, Try.ntmps14
    go_wp2_with (first | (go_at_call 10; refine (checkType_yes _ _ _ HOK.out).mono ?_; rintro e w1 ⟨rfl, hb1⟩; obtain ⟨hc, hf⟩ := bcell hb1; have hB1 := Aside.mk ((below_new w _).trans (hb1.mono (by simp))); have hz := hb1.size; simp only [World.size_alloc] at hz) | (go_at_call 44; refine (wholeFits_yes _ _ _ (by omega)).mono ?_; rintro e w2 ⟨rfl, hb2⟩; have hB2 := Aside.mk (hB1.out.trans (hb2.mono hB1.out.size))))
    go_ret
    exact ⟨by rw [HF.out]; rfl, hB2.out⟩
  · go_enter Try.func14, Try.ntmps14
    go_wp2_with (first | (go_at_call 10; refine (checkType_yes _ _ _ HOK.out).mono ?_; rintro e w1 ⟨rfl, hb1⟩; obtain ⟨hc, hf⟩ := bcell hb1; have hB1 := Aside.mk ((below_new w _).trans (hb1.mono (by simp))); have hz := hb1.size; simp only [World.size_alloc] at hz) | (go_at_call 44; refine (wholeFits_yes _ _ _ (by omega)).mono ?_; rintro e w2 ⟨rfl, hb2⟩; have hB2 := Aside.mk (hB1.out.trans (hb2.mono hB1.out.size))))
    go_ret
    exact ⟨by rw [HF.out]; rfl, hB2.out⟩
  · go_enter Try.func14, Try.ntmps14
    go_wp2_with (first | (go_at_call 10; refine (checkType_yes _ _ _ HOK.out).mono ?_; rintro e w1 ⟨rfl, hb1⟩; obtain ⟨hc, hf⟩ := bcell hb1; have hB1 := Aside.mk ((below_new w _).trans (hb1.mono (by simp))); have hz := hb1.size; simp only [World.size_alloc] at hz) | (go_at_call 44; refine (wholeFits_yes _ _ _ (by omega)).mono ?_; rintro e w2 ⟨rfl, hb2⟩; have hB2 := Aside.mk (hB1.out.trans (hb2.mono hB1.out.size))))
    go_ret
    exact ⟨by rw [HF.out]; rfl, hB2.out⟩
  · go_enter Try.func14, Try.ntmps14
    go_wp2_with (first | (go_at_call 10; refine (checkType_yes _ _ _ HOK.out).mono ?_; rintro e w1 ⟨rfl, hb1⟩; obtain ⟨hc, hf⟩ := bcell hb1; have hB1 := Aside.mk ((below_new w _).trans (hb1.mono (by simp))); have hz := hb1.size; simp only [World.size_alloc] at hz) | (go_at_call 44; refine (wholeFits_yes _ _ _ (by omega)).mono ?_; rintro e w2 ⟨rfl, hb2⟩; have hB2 := Aside.mk (hB1.out.trans (hb2.mono hB1.out.size))))
    go_ret
    exact ⟨by rw [HF.out]; rfl, hB2.out⟩
  · by_cases hlt : b < 4294967296
    case neg =>
      have HL : Aside (bitsOK 9 b = false) := ⟨by simp [bitsOK, f32OK, hlt]⟩
      have hge : 4294967296 ≤ b := by omega
      clear hlt
      go_enter Try.func14, Try.ntmps14
      go_wp2_with (first | (go_at_call 10; refine (checkType_yes _ _ _ HOK.out).mono ?_; rintro e w1 ⟨rfl, hb1⟩; obtain ⟨hc, hf⟩ := bcell hb1; have hB1 := Aside.mk ((below_new w _).trans (hb1.mono (by simp))); have hz := hb1.size; simp only [World.size_alloc] at hz) | (go_at_call 39; refine (class_32_no _ hge _).mono ?_; rintro e w2 ⟨rfl, hb2⟩; have c1 := cell_kept hb1 0; have c2 := (hb2.cell (p := ⟨w.heap.size, 0, none⟩) (by show w.heap.size < _; omega)).trans c1; have f2 := (hb2.frozen (p := ⟨w.heap.size, 0, none⟩) (by show w.heap.size < _; omega)).trans (frozen_kept hb1 0); simp at c1 c2; have hB2 := Aside.mk (hB1.out.trans (hb2.mono hB1.out.size)); have hz2 := hb2.size) | (go_at_call 40; refine (nan_32 _).mono ?_; rintro e w3 ⟨rfl, hb3⟩; have hB3 := Aside.mk (hB2.out.trans (hb3.mono hB2.out.size))))
      go_ret
      exact ⟨by rw [HF.out, HL.out]; rfl, hB3.out⟩
    have HL : Aside (bitsOK 9 b = (!nan32 b || b == 2143289344)) := ⟨by simp [bitsOK, f32OK, hlt]⟩
    cases hn : nan32 b
    all_goals
      cases he : (b == 2143289344)
      all_goals
        rw [hn, he] at HL
        have HN := Aside.mk hn
        clear hn
        go_enter Try.func14, Try.ntmps14
        go_wp2_with (first | (go_at_call 10; refine (checkType_yes _ _ _ HOK.out).mono ?_; rintro e w1 ⟨rfl, hb1⟩; obtain ⟨hc, hf⟩ := bcell hb1; have hB1 := Aside.mk ((below_new w _).trans (hb1.mono (by simp))); have hz := hb1.size; simp only [World.size_alloc] at hz) | (go_at_call 39; refine (cls_32 _ h0 hlt _).mono ?_; rw [HN.out]; rintro e w2 ⟨c, rfl, hc5, hb2⟩; (first | (obtain rfl := eq_of_beq hc5) | (have hc6 : (c != 5) = true := bne_of hc5; have hc7 : ¬ c = 5 := ne_of_beq_false hc5)); have c1 := cell_kept hb1 0; have c2 := (hb2.cell (p := ⟨w.heap.size, 0, none⟩) (by show w.heap.size < _; omega)).trans c1; have f2 := (hb2.frozen (p := ⟨w.heap.size, 0, none⟩) (by show w.heap.size < _; omega)).trans (frozen_kept hb1 0); simp at c1 c2; have hB2 := Aside.mk (hB1.out.trans (hb2.mono hB1.out.size)); have hz2 := hb2.size) | (go_at_call 40; refine (nan_32 _).mono ?_; rintro e w3 ⟨rfl, hb3⟩; have hB3 := Aside.mk (hB2.out.trans (hb3.mono hB2.out.size))))
        go_ret
        exact ⟨by rw [HF.out, HL.out]; rfl, hB3.out⟩
  · have HL : Aside (bitsOK 10 b = (!nan64 b || b == 9221120237041090560)) := ⟨by simp [bitsOK, f64OK]⟩
    cases hn : nan64 b
    all_goals
      cases he : (b == 9221120237041090560)
      all_goals
        rw [hn, he] at HL
        have HN := Aside.mk hn
        clear hn
        go_enter Try.func14, Try.ntmps14
        go_wp2_with (first | (go_at_call 10; refine (checkType_yes _ _ _ HOK.out).mono ?_; rintro e w1 ⟨rfl, hb1⟩; obtain ⟨hc, hf⟩ := bcell hb1; have hB1 := Aside.mk ((below_new w _).trans (hb1.mono (by simp))); have hz := hb1.size; simp only [World.size_alloc] at hz) | (go_at_call 39; refine (cls_64 _ h0 h1 _).mono ?_; rw [HN.out]; rintro e w2 ⟨c, rfl, hc5, hb2⟩; (first | (obtain rfl := eq_of_beq hc5) | (have hc6 : (c != 5) = true := bne_of hc5; have hc7 : ¬ c = 5 := ne_of_beq_false hc5)); have c1 := cell_kept hb1 0; have c2 := (hb2.cell (p := ⟨w.heap.size, 0, none⟩) (by show w.heap.size < _; omega)).trans c1; have f2 := (hb2.frozen (p := ⟨w.heap.size, 0, none⟩) (by show w.heap.size < _; omega)).trans (frozen_kept hb1 0); simp at c1 c2; have hB2 := Aside.mk (hB1.out.trans (hb2.mono hB1.out.size)); have hz2 := hb2.size) | (go_at_call 40; refine (nan_64 _).mono ?_; rintro e w3 ⟨rfl, hb3⟩; have hB3 := Aside.mk (hB2.out.trans (hb3.mono hB2.out.size))))
        go_ret
        exact ⟨by rw [HF.out, HL.out]; rfl, hB3.out⟩
  · go_enter Try.func14, Try.ntmps14
    go_wp2_with (first | (go_at_call 10; refine (checkType_yes _ _ _ HOK.out).mono ?_; rintro e w1 ⟨rfl, hb1⟩; obtain ⟨hc, hf⟩ := bcell hb1; have hB1 := Aside.mk ((below_new w _).trans (hb1.mono (by simp))); have hz := hb1.size; simp only [World.size_alloc] at hz))
    go_ret
    exact ⟨by rw [HF.out]; exact ret_bool (by simp [bitsOK]; omega), hB1.out⟩
  · cases hd : decOK b
    all_goals
      have HD := Aside.mk hd
      clear hd
      go_enter Try.func14, Try.ntmps14
      go_wp2_with (first | (go_at_call 10; refine (checkType_yes _ _ _ HOK.out).mono ?_; rintro e w1 ⟨rfl, hb1⟩; obtain ⟨hc, hf⟩ := bcell hb1; have hB1 := Aside.mk ((below_new w _).trans (hb1.mono (by simp))); have hz := hb1.size; simp only [World.size_alloc] at hz) | (go_at_call 41; refine (cmp_self _ h0 h1 _).mono ?_; unfold CmpP; rw [HD.out]; rintro e w2 ⟨v, rfl, rfl⟩))
      go_ret
      exact ⟨by rw [HF.out]; simp [bitsOK, HD.out], hB1.out⟩
  · cases hd : dayOK b
    all_goals
      have HD := Aside.mk hd
      clear hd
      go_enter Try.func14, Try.ntmps14
      go_wp2_with (first | (go_at_call 10; refine (checkType_yes _ _ _ HOK.out).mono ?_; rintro e w1 ⟨rfl, hb1⟩; obtain ⟨hc, hf⟩ := bcell hb1; have hB1 := Aside.mk ((below_new w _).trans (hb1.mono (by simp))); have hz := hb1.size; simp only [World.size_alloc] at hz) | (go_at_call 42; refine (printDay_any _ h0 h1 _).mono ?_; rw [HD.out]; rintro e w2 ⟨a2, n2, c2, xs, rfl, _, _, hb2⟩; have hB2 := Aside.mk (hB1.out.trans (hb2.mono hB1.out.size))))
      go_ret
      exact ⟨by rw [HF.out]; simp [bitsOK, HD.out], hB2.out⟩
  · cases hd : momOK b
    all_goals
      have HD := Aside.mk hd
      clear hd
      go_enter Try.func14, Try.ntmps14
      go_wp2_with (first | (go_at_call 10; refine (checkType_yes _ _ _ HOK.out).mono ?_; rintro e w1 ⟨rfl, hb1⟩; obtain ⟨hc, hf⟩ := bcell hb1; have hB1 := Aside.mk ((below_new w _).trans (hb1.mono (by simp))); have hz := hb1.size; simp only [World.size_alloc] at hz) | (go_at_call 43; refine (printMoment_any _ h0 h1 _).mono ?_; rw [HD.out]; rintro e w2 ⟨a2, n2, c2, xs, rfl, _, _, hb2⟩; have hB2 := Aside.mk (hB1.out.trans (hb2.mono hB1.out.size))))
      go_ret
      exact ⟨by rw [HF.out]; simp [bitsOK, HD.out], hB2.out⟩
  · go_enter Try.func14, Try.ntmps14
    go_wp2_with (first | (go_at_call 10; refine (checkType_yes _ _ _ HOK.out).mono ?_; rintro e w1 ⟨rfl, hb1⟩; obtain ⟨hc, hf⟩ := bcell hb1; have hB1 := Aside.mk ((below_new w _).trans (hb1.mono (by simp))); have hz := hb1.size; simp only [World.size_alloc] at hz))
    go_ret
    exact ⟨by rw [HF.out]; rfl, hB1.out⟩
  · go_enter Try.func14, Try.ntmps14
    go_wp2_with (first | (go_at_call 10; refine (checkType_yes _ _ _ HOK.out).mono ?_; rintro e w1 ⟨rfl, hb1⟩; obtain ⟨hc, hf⟩ := bcell hb1; have hB1 := Aside.mk ((below_new w _).trans (hb1.mono (by simp))); have hz := hb1.size; simp only [World.size_alloc] at hz))
    go_ret
    exact ⟨by rw [HF.out]; rfl, hB1.out⟩
end Go.Proofs.Ytmhjjhaipcgbiaa


namespace Go.Proofs.Ytmhjjhaipcgbiaa
open Go.RowKit Go.Maps
set_option linter.unusedVariables false
set_option linter.unusedSimpArgs false
set_option maxRecDepth 100000
set_option maxHeartbeats 1000000
def IsBytes (t : List Int) : Prop := ∀ x ∈ t, 0 ≤ x ∧ x < 256
theorem map_byte_inj : ∀ (a b : List Int), IsBytes a → IsBytes b → (a.map fun n => UInt8.ofNat n.toNat) = (b.map fun n => UInt8.ofNat n.toNat) → a = b
  | [], [], _, _, _ => rfl
  | [], _ :: _, _, _, h => by simp at h
  | _ :: _, [], _, _, h => by simp at h
  | x :: a, y :: b, ha, hb, h => by
    simp only [List.map_cons, List.cons.injEq] at h
    have hx := ha x (List.mem_cons_self ..)
    have hy := hb y (List.mem_cons_self ..)
    have e : x.toNat = y.toNat := by
      have := congrArg UInt8.toNat h.1
      simp only [UInt8.toNat_ofNat'] at this
      rw [Nat.mod_eq_of_lt (by omega), Nat.mod_eq_of_lt (by omega)] at this
      exact this
    rw [map_byte_inj a b (fun z hz => ha z (List.mem_cons_of_mem _ hz)) (fun z hz => hb z (List.mem_cons_of_mem _ hz)) h.2]
    congr 1
    omega
def wordKey (t : List Int) : Lit := .string (strOfNums t).data.toList
theorem wordKey_inj {a b : List Int} (ha : IsBytes a) (hb : IsBytes b) (h : wordKey a = wordKey b) : a = b := by
  simp only [wordKey, Lit.string.injEq, strOfNums_data] at h
  exact map_byte_inj a b ha hb h
theorem wordKey_key (t : List Int) (h : t.length ≤ maxLen) : keyOf Try.prog 9 (.string (strOfNums t)) = some (wordKey t) :=
  WideMaps.keyOf_string_mk Try.underlying9 (by rw [strOfNums_size]; exact h)
theorem wordKey_isKey (t : List Int) : WideAt.IsKeyLit (wordKey t) := trivial
def codesOK (D : DataW Unit) (ws : List (List Int)) : Prop :=
  (∀ t, IsBytes t → Maps.has D (wordKey t) = ws.contains t) ∧ ∀ (i : Nat) t, ws[i]? = some t → D.atKey (wordKey t) (.lit (.int .i64 0)) = .lit (.int .i64 (i : Int))
theorem codesOK_nil : codesOK (.map []) [] := ⟨fun t _ => by simp [Maps.has], fun i t h => by simp at h⟩
theorem codesOK_put {D : DataW Unit} {ws : List (List Int)} (h : codesOK D ws) (hm : IsMap D) (hb : ∀ t ∈ ws, IsBytes t) {t : List Int} (ht : IsBytes t) (hn : ws.contains t = false) :
    codesOK (D.put (wordKey t) (.lit (.int .i64 (ws.length : Int)))) (ws ++ [t]) := by
  constructor
  · intro u hu
    by_cases e : u = t
    · subst e
      rw [has_put_same hm (wordKey_isKey _)]
      simp
    · rw [has_put_other (fun e' => e (wordKey_inj hu ht e')), h.1 u hu]
      simp [e]
  · intro i u hi
    rcases Nat.lt_or_ge i ws.length with hl | hl
    · rw [List.getElem?_append_left hl] at hi
      have hu := List.mem_of_getElem? hi
      have e : u ≠ t := by
        rintro rfl
        simp at hn
        exact hn hu
      rw [atKey_put_other (fun e' => e (wordKey_inj (hb u hu) ht e')), h.2 i u hi]
    · rw [List.getElem?_append_right hl] at hi
      have h0 : i - ws.length = 0 := by
        have := (List.getElem?_eq_some_iff.1 hi).1
        simp at this
        omega
      rw [h0] at hi
      simp at hi
      subst hi
      rw [atKey_put_same hm (wordKey_isKey _)]
      congr 2
      omega
def codeOf (ws : List (List Int)) (t : List Int) : Nat := ws.idxOf t
def addWord (ws : List (List Int)) (t : List Int) : List (List Int) := if ws.contains t then ws else ws ++ [t]
theorem addWord_old {ws : List (List Int)} {t : List Int} (h : ws.contains t = true) : addWord ws t = ws := by rw [addWord, if_pos h]
theorem addWord_new {ws : List (List Int)} {t : List Int} (h : ws.contains t = false) : addWord ws t = ws ++ [t] := by rw [addWord, if_neg (by rw [h]; decide)]
theorem codeOf_new {ws : List (List Int)} {t : List Int} (h : ws.contains t = false) : codeOf ws t = ws.length := by
  simp at h
  exact List.idxOf_eq_length h
theorem codeOf_get {ws : List (List Int)} {t : List Int} (h : ws.contains t = true) : ws[codeOf ws t]? = some t := by
  simp at h
  have hl := List.idxOf_lt_length_iff.2 h
  rw [codeOf, List.getElem?_eq_getElem hl]
  simp
theorem codeOf_le (ws : List (List Int)) (t : List Int) : codeOf ws t ≤ ws.length := List.idxOf_le_length
theorem addWord_nodup {ws : List (List Int)} (h : ws.Nodup) (t : List Int) : (addWord ws t).Nodup := by
  unfold addWord
  split
  · exact h
  · rename_i hc
    simp at hc
    rw [List.nodup_append]
    exact ⟨h, by simp, fun a ha b hb => by simp at hb; subst hb; rintro rfl; exact hc ha⟩
theorem addWord_bytes {ws : List (List Int)} (h : ∀ t ∈ ws, IsBytes t) {t : List Int} (ht : IsBytes t) : ∀ u ∈ addWord ws t, IsBytes u := by
  unfold addWord
  split
  · exact h
  · intro u hu
    rcases List.mem_append.1 hu with e | e
    · exact h u e
    · simp at e; subst e; exact ht
theorem addWord_len (ws : List (List Int)) (t : List Int) : (addWord ws t).length ≤ ws.length + 1 := by
  unfold addWord
  split <;> simp
def WRows (w : World) (T : Nat → Prop) (vals : List Value) (ws : List (List Int)) : Prop :=
  vals.length = ws.length ∧ ∀ (i : Nat) t, ws[i]? = some t → ∃ v, vals[i]? = some v ∧ Own w 0 5 1 v t.length (t.map (.int .u8)) ∧ ∀ b, v.ownBlock = some b → T b
structure WLx (w : World) (T : Nat → Prop) (lw : Nat) (ws : List (List Int)) (wv : Value) (mb : Nat) (vals : List Value) (D : DataW Unit) : Prop where
  blk : w.heap[lw]? = some (.cells #[wv, .map (some mb)] 176 (0, 0))
  map : ∃ n, w.ownsMap Try.prog 9 (plainElem Try.prog 3) mb n D ∧ n ≤ ws.length
  codes : codesOK D ws
  row : Own w 0 37 1 wv ws.length vals
  words : WRows w T vals ws
  tl : T lw
  tm : T mb
  tw : ∀ b, wv.ownBlock = some b → T b
  nodup : ws.Nodup
  bytes : ∀ t ∈ ws, IsBytes t
def WL (w : World) (T : Nat → Prop) (lw : Nat) (ws : List (List Int)) : Prop := ∃ wv mb vals D, WLx w T lw ws wv mb vals D
theorem WRows.kept {w w' : World} {S T : Nat → Prop} {vals : List Value} {ws : List (List Int)} (h : WRows w T vals ws) (hk : Kept S w w') (hS : ∀ b, T b → b < w.heap.size → ¬ S b) : WRows w' T vals ws :=
  ⟨h.1, fun i t hi => by
    obtain ⟨v, h1, h2, h3⟩ := h.2 i t hi
    exact ⟨v, h1, h2.kept hk (fun k e => hS k (h3 k e) (h2.lt k e).2), h3⟩⟩
theorem WRows.mono {w : World} {T T' : Nat → Prop} {vals : List Value} {ws : List (List Int)} (h : WRows w T vals ws) (hT : ∀ b, T b → b < w.heap.size → T' b) : WRows w T' vals ws :=
  ⟨h.1, fun i t hi => by
    obtain ⟨v, h1, h2, h3⟩ := h.2 i t hi
    exact ⟨v, h1, h2, fun b e => hT b (h3 b e) (h2.lt b e).2⟩⟩
theorem WLx.kept {w w' : World} {S T : Nat → Prop} {lw : Nat} {ws : List (List Int)} {wv : Value} {mb : Nat} {vals : List Value} {D : DataW Unit} (h : WLx w T lw ws wv mb vals D) (hk : Kept S w w') (hS : ∀ b, T b → b < w.heap.size → ¬ S b) : WLx w' T lw ws wv mb vals D := by
  obtain ⟨n, hm, hn⟩ := h.map
  have hml : mb < w.heap.size := by obtain ⟨es, c, hb, _⟩ := hm; exact lt_of_blk hb
  refine ⟨(hk.block _ (lt_of_blk h.blk) (hS _ h.tl (lt_of_blk h.blk))).trans h.blk, ⟨n, ?_, hn⟩, h.codes, h.row.kept hk (fun k e => hS k (h.tw k e) (h.row.lt k e).2), h.words.kept hk hS, h.tl, h.tm, h.tw, h.nodup, h.bytes⟩
  obtain ⟨es, c, hb, r⟩ := hm
  exact ⟨es, c, (hk.block _ hml (hS _ h.tm hml)).trans hb, r⟩
theorem WLx.mono {w : World} {T T' : Nat → Prop} {lw : Nat} {ws : List (List Int)} {wv : Value} {mb : Nat} {vals : List Value} {D : DataW Unit} (h : WLx w T lw ws wv mb vals D) (hT : ∀ b, T b → b < w.heap.size → T' b) : WLx w T' lw ws wv mb vals D := by
  obtain ⟨n, hm, hn⟩ := h.map
  have hml : mb < w.heap.size := by obtain ⟨es, c, hb, _⟩ := hm; exact lt_of_blk hb
  exact ⟨h.blk, ⟨n, hm, hn⟩, h.codes, h.row, h.words.mono hT, hT _ h.tl (lt_of_blk h.blk), hT _ h.tm hml, fun b e => hT b (h.tw b e) (h.row.lt b e).2, h.nodup, h.bytes⟩
theorem WL.kept {w w' : World} {S T : Nat → Prop} {lw : Nat} {ws : List (List Int)} (h : WL w T lw ws) (hk : Kept S w w') (hS : ∀ b, T b → b < w.heap.size → ¬ S b) : WL w' T lw ws := by
  obtain ⟨wv, mb, vals, D, h⟩ := h
  exact ⟨wv, mb, vals, D, h.kept hk hS⟩
theorem WL.mono {w : World} {T T' : Nat → Prop} {lw : Nat} {ws : List (List Int)} (h : WL w T lw ws) (hT : ∀ b, T b → b < w.heap.size → T' b) : WL w T' lw ws := by
  obtain ⟨wv, mb, vals, D, h⟩ := h
  exact ⟨wv, mb, vals, D, h.mono hT⟩
theorem WL.below {w w' : World} {T : Nat → Prop} {lw : Nat} {ws : List (List Int)} (h : WL w T lw ws) (hb : Below w.heap.size w w') : WL w' T lw ws :=
  h.kept (Kept.of_below (S := fun _ => False) hb) (fun _ _ _ e => e)
theorem WL.nodup {w : World} {T : Nat → Prop} {lw : Nat} {ws : List (List Int)} (h : WL w T lw ws) : ws.Nodup := by
  obtain ⟨wv, mb, vals, D, h⟩ := h
  exact h.nodup
theorem WL.bytes {w : World} {T : Nat → Prop} {lw : Nat} {ws : List (List Int)} (h : WL w T lw ws) : ∀ t ∈ ws, IsBytes t := by
  obtain ⟨wv, mb, vals, D, h⟩ := h
  exact h.bytes
theorem wl_new (w : World) : WL ((w.alloc (.map #[] 0)).alloc (.cells #[.slice none 0 0, .map (some w.heap.size)] 176)) (fun b => w.heap.size ≤ b) (w.heap.size + 1) [] := by
  refine ⟨.slice none 0 0, w.heap.size, [], .map [], ?_, ⟨0, ?_, Nat.le_refl _⟩, codesOK_nil, Own.nil _ _ _ _, ⟨rfl, (fun i t h => by simp at h)⟩, by simp, Nat.le_refl _, (fun b e => by cases e), List.nodup_nil, (fun t h => by cases h)⟩
  · have := heap_alloc_new (w.alloc (.map #[] 0)) (.cells #[.slice none 0 0, .map (some w.heap.size)] 176)
    simpa using this
  · exact (World.ownsMap_made w Try.prog 9 _).alloc _
end Go.Proofs.Ytmhjjhaipcgbiaa
