/- Texts of this claim, one behind the other: Fits, Fits2, Ref18. -/
import Derived.Test.YtmhjjhaipcgbiaaGreatZemP3
import Derived.Test.YtmhjjhaipcgbiaaGreatZemP4
import Derived.Laws.BitsAllLaws

namespace Go.Proofs.YtmhjjhaipcgbiaaGreat
open Go.RowKit
set_option linter.unusedVariables false
set_option linter.unusedSimpArgs false
set_option maxRecDepth 100000
set_option maxHeartbeats 1000000
theorem strip_nat (n k a : Nat) (hk : k + 1 ≤ n) (ha : a < 2 ^ (k + 1)) : a &&& (2 ^ n - (2 ^ k + 1)) = a % 2 ^ k := by
  apply Nat.eq_of_testBit_eq
  intro i
  have h1 : 2 ^ k < 2 ^ n := Nat.pow_lt_pow_right (by decide) (by omega)
  rw [Nat.testBit_and, Nat.testBit_two_pow_sub_succ h1, Nat.testBit_mod_two_pow, Nat.testBit_two_pow]
  by_cases h : i < k
  · simp [h, show i < n by omega, show ¬ k = i by omega]
  · by_cases h2 : i = k
    · subst h2; simp
    · have : a.testBit i = false := Nat.testBit_lt_two_pow (Nat.lt_of_lt_of_le ha (Nat.pow_le_pow_right (by decide) (by omega)))
      simp [this]
theorem strip_32 (b : Int) (h0 : 0 ≤ b) (h1 : b < 4294967296) : bits .andNot .u64 b 2147483648 = b % 2147483648 := by
  rw [u64_andNot b 2147483648 h0 (by omega) (by decide) (by decide)]
  have := strip_nat 64 31 b.toNat (by decide) (by have : (2:Nat) ^ (31 + 1) = 4294967296 := rfl; omega)
  have e : (18446744073709551615 - (2147483648 : Int).toNat) = 2 ^ 64 - (2 ^ 31 + 1) := by decide
  rw [e, this]
  have e2 : (2 : Nat) ^ 31 = 2147483648 := rfl
  rw [e2]; omega
theorem strip_64 (b : Int) (h0 : 0 ≤ b) (h1 : b ≤ 18446744073709551615) : bits .andNot .u64 b 9223372036854775808 = b % 9223372036854775808 := by
  rw [u64_andNot b 9223372036854775808 h0 (by omega) (by decide) (by decide)]
  have := strip_nat 64 63 b.toNat (by decide) (by have : (2:Nat) ^ (63 + 1) = 18446744073709551616 := rfl; omega)
  have e : (18446744073709551615 - (9223372036854775808 : Int).toNat) = 2 ^ 64 - (2 ^ 63 + 1) := by decide
  rw [e, this]
  have e2 : (2 : Nat) ^ 63 = 9223372036854775808 := rfl
  rw [e2]; omega
def nan32 (b : Int) : Bool := decide (2139095040 < b % 2147483648)
def nan64 (b : Int) : Bool := decide (9218868437227405312 < b % 9223372036854775808)
def ClassP (nan : Bool) (w : World) (e : Ending) (w' : World) : Prop := ∃ c : Int, e = .returned (.tuple #[.int .i64 c, .int .i64 0]) ∧ (c == 5) = nan ∧ Below w.heap.size w w'
theorem cls_32 (b : Int) (h0 : 0 ≤ b) (h1 : b < 4294967296) (w : World) : Calls Tryz.prog 136 #[.int .i64 9, .int .u64 b] w (ClassP (nan32 b) w) := by
  refine (class_32 b h0 h1 w).mono ?_
  rintro e w' ⟨rfl, hb⟩
  refine ⟨_, rfl, ?_, hb⟩
  rw [strip_32 b h0 h1]
  unfold clsOf nan32
  have : 0 ≤ b % 2147483648 := by omega
  generalize b % 2147483648 = y at *
  by_cases c1 : y = 0
  · simp [c1]
  by_cases c2 : y < 8388608
  · simp [c1, c2]; omega
  by_cases c3 : y < 2139095040
  · simp [c1, c2, c3]; omega
  by_cases c4 : y = 2139095040
  · simp [c4]
  · simp [c1, c2, c3, c4]; omega
theorem cls_64 (b : Int) (h0 : 0 ≤ b) (h1 : b ≤ 18446744073709551615) (w : World) : Calls Tryz.prog 136 #[.int .i64 10, .int .u64 b] w (ClassP (nan64 b) w) := by
  refine (class_64 b w).mono ?_
  rintro e w' ⟨rfl, hb⟩
  refine ⟨_, rfl, ?_, hb⟩
  rw [strip_64 b h0 h1]
  unfold clsOf nan64
  have : 0 ≤ b % 9223372036854775808 := by omega
  generalize b % 9223372036854775808 = y at *
  by_cases c1 : y = 0
  · simp [c1]
  by_cases c2 : y < 4503599627370496
  · simp [c1, c2]; omega
  by_cases c3 : y < 9218868437227405312
  · simp [c1, c2, c3]; omega
  by_cases c4 : y = 9218868437227405312
  · simp [c4]
  · simp [c1, c2, c3, c4]; omega
theorem r3c_32 (b : Int) (h0 : 0 ≤ b) (h1 : b < 4294967296) (w : World) : Calls Tryz.prog 104 #[.int .i64 9, .int .u64 b] w (ClassP (nan32 b) w) := by
  refine (r3class_32 b h0 h1 w).mono ?_
  rintro e w' ⟨rfl, hb⟩
  refine ⟨_, rfl, ?_, hb⟩
  unfold r3cls nan32
  have : 0 ≤ b % 2147483648 ∧ b % 2147483648 < 2147483648 := by omega
  generalize b % 2147483648 = y at *
  by_cases c1 : y / 8388608 % 256 = 255 ∧ y % 8388608 = 0
  · rw [if_pos c1]; simp; omega
  rw [if_neg c1]
  by_cases c2 : y / 8388608 % 256 = 255
  · rw [if_pos c2]; simp; omega
  rw [if_neg c2]
  by_cases c3 : 0 < y / 8388608 % 256
  · rw [if_pos c3]; simp; omega
  rw [if_neg c3]
  by_cases c4 : 0 < y % 8388608
  · rw [if_pos c4]; simp; omega
  · rw [if_neg c4]; simp; omega
theorem r3c_64 (b : Int) (h0 : 0 ≤ b) (h1 : b ≤ 18446744073709551615) (w : World) : Calls Tryz.prog 104 #[.int .i64 10, .int .u64 b] w (ClassP (nan64 b) w) := by
  refine (r3class_64 b h0 h1 w).mono ?_
  rintro e w' ⟨rfl, hb⟩
  refine ⟨_, rfl, ?_, hb⟩
  unfold r3cls nan64
  have : 0 ≤ b % 9223372036854775808 ∧ b % 9223372036854775808 < 9223372036854775808 := by omega
  generalize b % 9223372036854775808 = y at *
  by_cases c1 : y / 4503599627370496 % 2048 = 2047 ∧ y % 4503599627370496 = 0
  · rw [if_pos c1]; simp; omega
  rw [if_neg c1]
  by_cases c2 : y / 4503599627370496 % 2048 = 2047
  · rw [if_pos c2]; simp; omega
  rw [if_neg c2]
  by_cases c3 : 0 < y / 4503599627370496 % 2048
  · rw [if_pos c3]; simp; omega
  rw [if_neg c3]
  by_cases c4 : 0 < y % 4503599627370496
  · rw [if_pos c4]; simp; omega
  · rw [if_neg c4]; simp; omega
def f32OK (b : Int) : Bool := decide (b < 4294967296) && (!nan32 b || b == 2143289344)
def f64OK (b : Int) : Bool := !nan64 b || b == 9221120237041090560
def bitsOK (k b : Int) : Bool :=
  if k = 9 then f32OK b else if k = 10 then f64OK b else if k = 11 then decide (b ≤ 1) else if k = 12 then decOK b else if k = 13 then dayOK b else if k = 14 then momOK b
  else if k = 15 ∨ k = 16 then false else decide (b ≤ maxOf (wbits k))
def fitsB (k s b : Int) : Bool := okType k s && bitsOK k b
end Go.Proofs.YtmhjjhaipcgbiaaGreat


namespace Go.Proofs.YtmhjjhaipcgbiaaGreat
open Go.RowKit
set_option linter.unusedVariables false
set_option linter.unusedSimpArgs false
set_option maxRecDepth 100000
set_option maxHeartbeats 1000000
theorem bne_of {a b : Int} (h : (a == b) = false) : (a != b) = true := by simpa [bne] using h
theorem cell_kept {w w1 : World} {cs : Array Value} {T : TypeId} (hb : Below (w.alloc (.cells cs T)).heap.size (w.alloc (.cells cs T)) w1) (j : Nat) : w1.cell? ⟨w.heap.size, j, none⟩ = cs[j]? :=
  (hb.cell (p := ⟨w.heap.size, j, none⟩) (by simp)).trans (cell_blk (heap_alloc_new w _))
theorem frozen_kept {w w1 : World} {cs : Array Value} {T : TypeId} (hb : Below (w.alloc (.cells cs T)).heap.size (w.alloc (.cells cs T)) w1) (j : Nat) : w1.frozen? ⟨w.heap.size, j, none⟩ = false :=
  (hb.frozen (p := ⟨w.heap.size, j, none⟩) (by simp)).trans (frozen_blk (heap_alloc_new w _))
def FitsP (r : Bool) (w : World) (e : Ending) (w' : World) : Prop := e = .returned (.bool r) ∧ Below w.heap.size w w'
theorem fits_no (k s b : Int) (w : World) (h : okType k s = false) : Calls Tryz.prog 74 #[.agg #[.int .i64 k, .int .i64 s], .int .u64 b] w (FitsP (fitsB k s b) w) := by
  have HOK := Aside.mk h
  have HF : Aside (fitsB k s b = false) := ⟨by simp [fitsB, h]⟩
  clear h
  go_enter Tryz.func74, Tryz.ntmps74
  go_wp2_with (go_at_call 70; refine (checkType_no _ _ _ HOK.out).mono ?_; rintro e w1 ⟨rfl, hb1⟩; have hB1 := Aside.mk ((below_new w _).trans (hb1.mono (by simp))))
  go_ret
  exact ⟨by rw [HF.out]; rfl, hB1.out⟩
theorem fits_yes (k s b : Int) (h0 : 0 ≤ b) (h1 : b ≤ 18446744073709551615) (w : World) (h : okType k s = true) : Calls Tryz.prog 74 #[.agg #[.int .i64 k, .int .i64 s], .int .u64 b] w (FitsP (fitsB k s b) w) := by
  have HOK := Aside.mk h
  have HF : Aside (fitsB k s b = bitsOK k b) := ⟨by simp [fitsB, h]⟩
  have hk : k = 1 ∨ k = 2 ∨ k = 3 ∨ k = 4 ∨ k = 5 ∨ k = 6 ∨ k = 7 ∨ k = 8 ∨ k = 9 ∨ k = 10 ∨ k = 11 ∨ k = 12 ∨ k = 13 ∨ k = 14 ∨ k = 15 ∨ k = 16 := by simp [okType] at h; omega
  clear h
  rcases hk with rfl | rfl | rfl | rfl | rfl | rfl | rfl | rfl | rfl | rfl | rfl | rfl | rfl | rfl | rfl | rfl
  · go_enter Tryz.func74, Tryz.ntmps74
    go_wp2_with (first | (go_at_call 70; refine (checkType_yes _ _ _ HOK.out).mono ?_; rintro e w1 ⟨rfl, hb1⟩; obtain ⟨hc, hf⟩ := bcell hb1; have hB1 := Aside.mk ((below_new w _).trans (hb1.mono (by simp))); have hz := hb1.size; simp only [World.size_alloc] at hz) | (go_at_call 141; refine (wholeFits_yes _ _ _ (by omega)).mono ?_; rintro e w2 ⟨rfl, hb2⟩; have hB2 := Aside.mk (hB1.out.trans (hb2.mono hB1.out.size))))
    go_ret
    exact ⟨by rw [HF.out]; rfl, hB2.out⟩
  · go_enter Tryz.func74, Tryz.ntmps74
    go_wp2_with (first | (go_at_call 70; refine (checkType_yes _ _ _ HOK.out).mono ?_; rintro e w1 ⟨rfl, hb1⟩; obtain ⟨hc, hf⟩ := bcell hb1; have hB1 := Aside.mk ((below_new w _).trans (hb1.mono (by simp))); have hz := hb1.size; simp only [World.size_alloc] at hz) | (go_at_call 141; refine (wholeFits_yes _ _ _ (by omega)).mono ?_; rintro e w2 ⟨rfl, hb2⟩; have hB2 := Aside.mk (hB1.out.trans (hb2.mono hB1.out.size))))
    go_ret
    exact ⟨by rw [HF.out]; rfl, hB2.out⟩
  · go_enter Tryz.func74, Tryz.ntmps74
    go_wp2_with (first | (go_at_call 70; refine (checkType_yes _ _ _ HOK.out).mono ?_; rintro e w1 ⟨rfl, hb1⟩; obtain ⟨hc, hf⟩ := bcell hb1; have hB1 := Aside.mk ((below_new w _).trans (hb1.mono (by simp))); have hz := hb1.size; simp only [World.size_alloc] at hz) | (go_at_call 141; refine (wholeFits_yes _ _ _ (by omega)).mono ?_; rintro e w2 ⟨rfl, hb2⟩; have hB2 := Aside.mk (hB1.out.trans (hb2.mono hB1.out.size))))
    go_ret
    exact ⟨by rw [HF.out]; rfl, hB2.out⟩
  · go_enter Tryz.func74, Tryz.ntmps74
    go_wp2_with (first | (go_at_call 70; refine (checkType_yes _ _ _ HOK.out).mono ?_; rintro e w1 ⟨rfl, hb1⟩; obtain ⟨hc, hf⟩ := bcell hb1; have hB1 := Aside.mk ((below_new w _).trans (hb1.mono (by simp))); have hz := hb1.size; simp only [World.size_alloc] at hz) | (go_at_call 141; refine (wholeFits_yes _ _ _ (by omega)).mono ?_; rintro e w2 ⟨rfl, hb2⟩; have hB2 := Aside.mk (hB1.out.trans (hb2.mono hB1.out.size))))
    go_ret
    exact ⟨by rw [HF.out]; rfl, hB2.out⟩
  · go_enter Tryz.func74, Tryz.ntmps74
    go_wp2_with (first | (go_at_call 70; refine (checkType_yes _ _ _ HOK.out).mono ?_; rintro e w1 ⟨rfl, hb1⟩; obtain ⟨hc, hf⟩ := bcell hb1; have hB1 := Aside.mk ((below_new w _).trans (hb1.mono (by simp))); have hz := hb1.size; simp only [World.size_alloc] at hz) | (go_at_call 141; refine (wholeFits_yes _ _ _ (by omega)).mono ?_; rintro e w2 ⟨rfl, hb2⟩; have hB2 := Aside.mk (hB1.out.trans (hb2.mono hB1.out.size))))
    go_ret
    exact ⟨by rw [HF.out]; rfl, hB2.out⟩
  · go_enter Tryz.func74, Tryz.ntmps74
    go_wp2_with (first | (go_at_call 70; refine (checkType_yes _ _ _ HOK.out).mono ?_; rintro e w1 ⟨rfl, hb1⟩; obtain ⟨hc, hf⟩ := bcell hb1; have hB1 := Aside.mk ((below_new w _).trans (hb1.mono (by simp))); have hz := hb1.size; simp only [World.size_alloc] at hz) | (go_at_call 141; refine (wholeFits_yes _ _ _ (by omega)).mono ?_; rintro e w2 ⟨rfl, hb2⟩; have hB2 := Aside.mk (hB1.out.trans (hb2.mono hB1.out.size))))
    go_ret
    exact ⟨by rw [HF.out]; rfl, hB2.out⟩
  · go_enter Tryz.func74, Tryz.ntmps74
    go_wp2_with (first | (go_at_call 70; refine (checkType_yes _ _ _ HOK.out).mono ?_; rintro e w1 ⟨rfl, hb1⟩; obtain ⟨hc, hf⟩ := bcell hb1; have hB1 := Aside.mk ((below_new w _).trans (hb1.mono (by simp))); have hz := hb1.size; simp only [World.size_alloc] at hz) | (go_at_call 141; refine (wholeFits_yes _ _ _ (by omega)).mono ?_; rintro e w2 ⟨rfl, hb2⟩; have hB2 := Aside.mk (hB1.out.trans (hb2.mono hB1.out.size))))
    go_ret
    exact ⟨by rw [HF.out]; rfl, hB2.out⟩
  · go_enter Tryz.func74, Tryz.ntmps74
    go_wp2_with (first | (go_at_call 70; refine (checkType_yes _ _ _ HOK.out).mono ?_; rintro e w1 ⟨rfl, hb1⟩; obtain ⟨hc, hf⟩ := bcell hb1; have hB1 := Aside.mk ((below_new w _).trans (hb1.mono (by simp))); have hz := hb1.size; simp only [World.size_alloc] at hz) | (go_at_call 141; refine (wholeFits_yes _ _ _ (by omega)).mono ?_; rintro e w2 ⟨rfl, hb2⟩; have hB2 := Aside.mk (hB1.out.trans (hb2.mono hB1.out.size))))
    go_ret
    exact ⟨by rw [HF.out]; rfl, hB2.out⟩
  · by_cases hlt : b < 4294967296
    case neg =>
      have HL : Aside (bitsOK 9 b = false) := ⟨by simp [bitsOK, f32OK, hlt]⟩
      have hge : 4294967296 ≤ b := by omega
      clear hlt
      go_enter Tryz.func74, Tryz.ntmps74
      go_wp2_with (first | (go_at_call 70; refine (checkType_yes _ _ _ HOK.out).mono ?_; rintro e w1 ⟨rfl, hb1⟩; obtain ⟨hc, hf⟩ := bcell hb1; have hB1 := Aside.mk ((below_new w _).trans (hb1.mono (by simp))); have hz := hb1.size; simp only [World.size_alloc] at hz) | (go_at_call 136; refine (class_32_no _ hge _).mono ?_; rintro e w2 ⟨rfl, hb2⟩; have c1 := cell_kept hb1 0; have c2 := (hb2.cell (p := ⟨w.heap.size, 0, none⟩) (by show w.heap.size < _; omega)).trans c1; have f2 := (hb2.frozen (p := ⟨w.heap.size, 0, none⟩) (by show w.heap.size < _; omega)).trans (frozen_kept hb1 0); simp at c1 c2; have hB2 := Aside.mk (hB1.out.trans (hb2.mono hB1.out.size)); have hz2 := hb2.size) | (go_at_call 137; refine (nan_32 _).mono ?_; rintro e w3 ⟨rfl, hb3⟩; have hB3 := Aside.mk (hB2.out.trans (hb3.mono hB2.out.size))))
      go_ret
      exact ⟨by rw [HF.out, HL.out]; rfl, hB3.out⟩
    have HL : Aside (bitsOK 9 b = (!nan32 b || b == 2143289344)) := ⟨by simp [bitsOK, f32OK, hlt]⟩
    cases hn : nan32 b
    all_goals
      cases he : (b == 2143289344)
      all_goals
        rw [hn, he] at HL
        have HN := Aside.mk hn
        clear hn
        go_enter Tryz.func74, Tryz.ntmps74
        go_wp2_with (first | (go_at_call 70; refine (checkType_yes _ _ _ HOK.out).mono ?_; rintro e w1 ⟨rfl, hb1⟩; obtain ⟨hc, hf⟩ := bcell hb1; have hB1 := Aside.mk ((below_new w _).trans (hb1.mono (by simp))); have hz := hb1.size; simp only [World.size_alloc] at hz) | (go_at_call 136; refine (cls_32 _ h0 hlt _).mono ?_; rw [HN.out]; rintro e w2 ⟨c, rfl, hc5, hb2⟩; (first | (obtain rfl := eq_of_beq hc5) | (have hc6 : (c != 5) = true := bne_of hc5; have hc7 : ¬ c = 5 := ne_of_beq_false hc5)); have c1 := cell_kept hb1 0; have c2 := (hb2.cell (p := ⟨w.heap.size, 0, none⟩) (by show w.heap.size < _; omega)).trans c1; have f2 := (hb2.frozen (p := ⟨w.heap.size, 0, none⟩) (by show w.heap.size < _; omega)).trans (frozen_kept hb1 0); simp at c1 c2; have hB2 := Aside.mk (hB1.out.trans (hb2.mono hB1.out.size)); have hz2 := hb2.size) | (go_at_call 137; refine (nan_32 _).mono ?_; rintro e w3 ⟨rfl, hb3⟩; have hB3 := Aside.mk (hB2.out.trans (hb3.mono hB2.out.size))))
        go_ret
        exact ⟨by rw [HF.out, HL.out]; rfl, hB3.out⟩
  · have HL : Aside (bitsOK 10 b = (!nan64 b || b == 9221120237041090560)) := ⟨by simp [bitsOK, f64OK]⟩
    cases hn : nan64 b
    all_goals
      cases he : (b == 9221120237041090560)
      all_goals
        rw [hn, he] at HL
        have HN := Aside.mk hn
        clear hn
        go_enter Tryz.func74, Tryz.ntmps74
        go_wp2_with (first | (go_at_call 70; refine (checkType_yes _ _ _ HOK.out).mono ?_; rintro e w1 ⟨rfl, hb1⟩; obtain ⟨hc, hf⟩ := bcell hb1; have hB1 := Aside.mk ((below_new w _).trans (hb1.mono (by simp))); have hz := hb1.size; simp only [World.size_alloc] at hz) | (go_at_call 136; refine (cls_64 _ h0 h1 _).mono ?_; rw [HN.out]; rintro e w2 ⟨c, rfl, hc5, hb2⟩; (first | (obtain rfl := eq_of_beq hc5) | (have hc6 : (c != 5) = true := bne_of hc5; have hc7 : ¬ c = 5 := ne_of_beq_false hc5)); have c1 := cell_kept hb1 0; have c2 := (hb2.cell (p := ⟨w.heap.size, 0, none⟩) (by show w.heap.size < _; omega)).trans c1; have f2 := (hb2.frozen (p := ⟨w.heap.size, 0, none⟩) (by show w.heap.size < _; omega)).trans (frozen_kept hb1 0); simp at c1 c2; have hB2 := Aside.mk (hB1.out.trans (hb2.mono hB1.out.size)); have hz2 := hb2.size) | (go_at_call 137; refine (nan_64 _).mono ?_; rintro e w3 ⟨rfl, hb3⟩; have hB3 := Aside.mk (hB2.out.trans (hb3.mono hB2.out.size))))
        go_ret
        exact ⟨by rw [HF.out, HL.out]; rfl, hB3.out⟩
  · go_enter Tryz.func74, Tryz.ntmps74
    go_wp2_with (first | (go_at_call 70; refine (checkType_yes _ _ _ HOK.out).mono ?_; rintro e w1 ⟨rfl, hb1⟩; obtain ⟨hc, hf⟩ := bcell hb1; have hB1 := Aside.mk ((below_new w _).trans (hb1.mono (by simp))); have hz := hb1.size; simp only [World.size_alloc] at hz))
    go_ret
    exact ⟨by rw [HF.out]; exact ret_bool (by simp [bitsOK]; omega), hB1.out⟩
  · cases hd : decOK b
    all_goals
      have HD := Aside.mk hd
      clear hd
      go_enter Tryz.func74, Tryz.ntmps74
      go_wp2_with (first | (go_at_call 70; refine (checkType_yes _ _ _ HOK.out).mono ?_; rintro e w1 ⟨rfl, hb1⟩; obtain ⟨hc, hf⟩ := bcell hb1; have hB1 := Aside.mk ((below_new w _).trans (hb1.mono (by simp))); have hz := hb1.size; simp only [World.size_alloc] at hz) | (go_at_call 138; refine (cmp_self _ h0 h1 _).mono ?_; unfold CmpP; rw [HD.out]; rintro e w2 ⟨v, rfl, rfl⟩))
      go_ret
      exact ⟨by rw [HF.out]; simp [bitsOK, HD.out], hB1.out⟩
  · cases hd : dayOK b
    all_goals
      have HD := Aside.mk hd
      clear hd
      go_enter Tryz.func74, Tryz.ntmps74
      go_wp2_with (first | (go_at_call 70; refine (checkType_yes _ _ _ HOK.out).mono ?_; rintro e w1 ⟨rfl, hb1⟩; obtain ⟨hc, hf⟩ := bcell hb1; have hB1 := Aside.mk ((below_new w _).trans (hb1.mono (by simp))); have hz := hb1.size; simp only [World.size_alloc] at hz) | (go_at_call 139; refine (printDay_any _ h0 h1 _).mono ?_; rw [HD.out]; rintro e w2 ⟨a2, n2, c2, xs, rfl, _, _, hb2⟩; have hB2 := Aside.mk (hB1.out.trans (hb2.mono hB1.out.size))))
      go_ret
      exact ⟨by rw [HF.out]; simp [bitsOK, HD.out], hB2.out⟩
  · cases hd : momOK b
    all_goals
      have HD := Aside.mk hd
      clear hd
      go_enter Tryz.func74, Tryz.ntmps74
      go_wp2_with (first | (go_at_call 70; refine (checkType_yes _ _ _ HOK.out).mono ?_; rintro e w1 ⟨rfl, hb1⟩; obtain ⟨hc, hf⟩ := bcell hb1; have hB1 := Aside.mk ((below_new w _).trans (hb1.mono (by simp))); have hz := hb1.size; simp only [World.size_alloc] at hz) | (go_at_call 140; refine (printMoment_any _ h0 h1 _).mono ?_; rw [HD.out]; rintro e w2 ⟨a2, n2, c2, xs, rfl, _, _, hb2⟩; have hB2 := Aside.mk (hB1.out.trans (hb2.mono hB1.out.size))))
      go_ret
      exact ⟨by rw [HF.out]; simp [bitsOK, HD.out], hB2.out⟩
  · go_enter Tryz.func74, Tryz.ntmps74
    go_wp2_with (first | (go_at_call 70; refine (checkType_yes _ _ _ HOK.out).mono ?_; rintro e w1 ⟨rfl, hb1⟩; obtain ⟨hc, hf⟩ := bcell hb1; have hB1 := Aside.mk ((below_new w _).trans (hb1.mono (by simp))); have hz := hb1.size; simp only [World.size_alloc] at hz))
    go_ret
    exact ⟨by rw [HF.out]; rfl, hB1.out⟩
  · go_enter Tryz.func74, Tryz.ntmps74
    go_wp2_with (first | (go_at_call 70; refine (checkType_yes _ _ _ HOK.out).mono ?_; rintro e w1 ⟨rfl, hb1⟩; obtain ⟨hc, hf⟩ := bcell hb1; have hB1 := Aside.mk ((below_new w _).trans (hb1.mono (by simp))); have hz := hb1.size; simp only [World.size_alloc] at hz))
    go_ret
    exact ⟨by rw [HF.out]; rfl, hB1.out⟩
end Go.Proofs.YtmhjjhaipcgbiaaGreat


namespace Go.Proofs.YtmhjjhaipcgbiaaGreat
open Go.RowKit
set_option linter.unusedVariables false
set_option linter.unusedSimpArgs false
set_option maxRecDepth 100000
set_option maxHeartbeats 1000000
def wordedB (k : Int) : Bool := k == 15 || k == 16
theorem worded_any (k s : Int) (w : World) : Calls Tryz.prog 62 #[.agg #[.int .i64 k, .int .i64 s]] w (FitsP (wordedB k) w) := by
  by_cases h1 : k = 15
  · subst h1
    have hb := Aside.mk (below_new w (.cells #[.int .i64 15, .int .i64 s] 23))
    go_enter Tryz.func62, Tryz.ntmps62
    go_wp2
    go_ret
    exact ⟨rfl, hb.out⟩
  · have h2 : (k == 15) = false := by simpa using h1
    have HW : Aside (wordedB k = (k == 16)) := ⟨by simp [wordedB, h2]⟩
    have hb := Aside.mk (below_new w (.cells #[.int .i64 k, .int .i64 s] 23))
    clear h1
    go_enter Tryz.func62, Tryz.ntmps62
    go_wp2
    go_ret
    exact ⟨by rw [HW.out]; rfl, hb.out⟩
theorem r18check_yes (k s : Int) (w : World) (h : okType k s = true) :
    Calls Tryz.prog 13 #[.agg #[.int .i64 k, .int .i64 s]] w fun e w' => e = .returned (.int .i64 0) ∧ Below w.heap.size w w' := by
  unfold okType at h
  simp only [decide_eq_true_eq] at h
  obtain ⟨h1, h2, h3, h4, h5⟩ := h
  have hb := Aside.mk (below_new w (.cells #[.int .i64 k, .int .i64 s] 23))
  rcases h5 with h5 | h5
  · subst h5
    go_enter Tryz.func13, Tryz.ntmps13
    go_wp2
    go_ret
    exact ⟨rfl, hb.out⟩
  · subst h5
    by_cases h6 : k = 12
    · subst h6
      go_enter Tryz.func13, Tryz.ntmps13
      go_wp2
      go_ret
      exact ⟨rfl, hb.out⟩
    · have h7 : (k != 12) = true := by simpa using h6
      clear h6
      go_enter Tryz.func13, Tryz.ntmps13
      go_wp2
      go_ret
      exact ⟨rfl, hb.out⟩
theorem r18check_no (k s : Int) (w : World) (h : okType k s = false) :
    Calls Tryz.prog 13 #[.agg #[.int .i64 k, .int .i64 s]] w fun e w' => e = .returned (.int .i64 170) ∧ Below w.heap.size w w' := by
  unfold okType at h
  simp only [decide_eq_false_iff_not] at h
  have hb := Aside.mk (below_new w (.cells #[.int .i64 k, .int .i64 s] 23))
  have go : k < 1 ∨ (1 ≤ k ∧ 16 < k) ∨ (1 ≤ k ∧ k ≤ 16 ∧ s < 0) ∨ (1 ≤ k ∧ k ≤ 16 ∧ 0 ≤ s ∧ 18 < s) ∨ (1 ≤ k ∧ k ≤ 16 ∧ 0 < s ∧ s ≤ 18 ∧ k ≠ 12) := by omega
  clear h
  rcases go with h | ⟨h1, h⟩ | ⟨h1, h2, h⟩ | ⟨h1, h2, h0, h⟩ | ⟨h1, h2, h, h3, h4⟩
  · go_enter Tryz.func13, Tryz.ntmps13
    go_wp2
    go_ret
    exact ⟨rfl, hb.out⟩
  · go_enter Tryz.func13, Tryz.ntmps13
    go_wp2
    go_ret
    exact ⟨rfl, hb.out⟩
  · go_enter Tryz.func13, Tryz.ntmps13
    go_wp2
    go_ret
    exact ⟨rfl, hb.out⟩
  · go_enter Tryz.func13, Tryz.ntmps13
    go_wp2
    go_ret
    exact ⟨rfl, hb.out⟩
  · have h7 : (k != 12) = true := by simpa using h4
    have h8 : (s != 0) = true := by simp; omega
    have h9 : ¬ s < 0 := by omega
    clear h4
    go_enter Tryz.func13, Tryz.ntmps13
    go_wp2
    go_ret
    exact ⟨rfl, hb.out⟩
theorem r18check_any (k s : Int) (w : World) :
    Calls Tryz.prog 13 #[.agg #[.int .i64 k, .int .i64 s]] w fun e w' => e = .returned (.int .i64 (if okType k s then 0 else 170)) ∧ Below w.heap.size w w' := by
  cases h : okType k s
  · exact r18check_no k s w h
  · exact r18check_yes k s w h
theorem r18width_any (k : Int) (w : World) : Calls Tryz.prog 78 #[.int .i64 k] w fun e w' => e = .returned (.int .i64 (widthOf k)) ∧ w = w' := by
  by_cases h : 1 ≤ k ∧ k ≤ 16
  · obtain ⟨h1, h2⟩ := h
    have hk : k = 1 ∨ k = 2 ∨ k = 3 ∨ k = 4 ∨ k = 5 ∨ k = 6 ∨ k = 7 ∨ k = 8 ∨ k = 9 ∨ k = 10 ∨ k = 11 ∨ k = 12 ∨ k = 13 ∨ k = 14 ∨ k = 15 ∨ k = 16 := by omega
    clear h1 h2
    rcases hk with rfl | rfl | rfl | rfl | rfl | rfl | rfl | rfl | rfl | rfl | rfl | rfl | rfl | rfl | rfl | rfl
    all_goals
      go_enter Tryz.func78, Tryz.ntmps78
      go_wp2_with (go_at_call 148; refine (r5width_any _ _).mono ?_; rintro e w1 ⟨rfl, rfl⟩; simp only [wbits, reduceCtorEq, Int.reduceEq, or_self, or_true, true_or, or_false, false_or, if_true, if_false, ↓reduceIte])
      go_ret
      exact ⟨rfl, rfl⟩
  · have hw : Aside (widthOf k = 0) := ⟨by unfold widthOf; rw [if_neg (by omega), if_neg (by omega), if_neg (by omega), if_neg (by omega)]⟩
    have hw5 : wbits k = 0 := by unfold wbits; rw [if_neg (by omega), if_neg (by omega), if_neg (by omega), if_neg (by omega)]
    have hw5 := Aside.mk hw5
    have h' : k < 1 ∨ 16 < k := by omega
    clear h
    rcases h' with h | h
    all_goals
      go_enter Tryz.func78, Tryz.ntmps78
      go_wp2_with (go_at_call 148; refine (r5width_any _ _).mono ?_; rintro e w1 ⟨rfl, rfl⟩; simp only [hw5.out])
      go_ret
      exact ⟨by rw [hw.out]; rfl, rfl⟩
end Go.Proofs.YtmhjjhaipcgbiaaGreat
