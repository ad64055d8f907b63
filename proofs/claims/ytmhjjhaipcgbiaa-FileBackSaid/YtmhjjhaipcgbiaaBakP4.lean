/- Texts of this claim, one behind the other: Class, Whole, Ref3. -/
import Derived.Test.YtmhjjhaipcgbiaaBakP3
import Derived.Test.YtmhjjhaipcgbiaaBakP1

namespace Go.Proofs.Ytmhjjhaipcgbiaa
open Go.RowKit
set_option linter.unusedVariables false
set_option linter.unusedSimpArgs false
def clsOf (y lo inf : Int) : Int := if y = 0 then 1 else if y < lo then 2 else if y < inf then 3 else if y = inf then 4 else 5
set_option maxRecDepth 100000
set_option maxHeartbeats 2000000
theorem class_32_at (b : Int) (h0 : 0 ≤ b) (h1 : b < 4294967296) (w : World) (r y : Int) (hy : bits .andNot .u64 b 2147483648 = y) (h : (r = 1 ∧ (y == 0) = true) ∨ (r = 2 ∧ (y == 0) = false ∧ y < 8388608) ∨ (r = 3 ∧ (y == 0) = false ∧ ¬ y < 8388608 ∧ y < 2139095040) ∨ (r = 4 ∧ (y == 0) = false ∧ ¬ y < 8388608 ∧ ¬ y < 2139095040 ∧ (y == 2139095040) = true) ∨ (r = 5 ∧ (y == 0) = false ∧ ¬ y < 8388608 ∧ ¬ y < 2139095040 ∧ (y == 2139095040) = false)) :
    Calls Try.prog 39 #[.int .i64 9, .int .u64 b] w fun e w' => e = .returned (.tuple #[.int .i64 r, .int .i64 0]) ∧ Below w.heap.size w w' := by
  go_enter Try.func39, Try.ntmps39
  go_wp2_with (go_at_call 87; refine (own_32 _ h0 h1 _).mono ?_; rintro e w1 ⟨rfl, hb1⟩)
  refine (sign_32 _).mono ?_
  rintro e w2 ⟨rfl, rfl⟩
  have hz := hb1.size
  rcases h with ⟨rfl, h1⟩ | ⟨rfl, h1, h2⟩ | ⟨rfl, h1, h2, h3⟩ | ⟨rfl, h1, h2, h3, h4⟩ | ⟨rfl, h1, h2, h3, h4⟩
  · go_wp2
    go_ret2
    exact ⟨rfl, (by repeat (first | exact Below.refl _ _ | assumption | (refine Below.drew ?_) | (refine Below.trans ?_ (below_drewN _ _ _)) | (refine Below.alloc ?_ (by first | omega | (simp; done) | (simp; omega)) _) | (refine Below.setCell ?_ (by first | omega | (simp; done) | (simp; omega)) _)))⟩
  · go_wp2_with fail
    go_ret2
    exact ⟨rfl, (by repeat (first | exact Below.refl _ _ | assumption | (refine Below.drew ?_) | (refine Below.trans ?_ (below_drewN _ _ _)) | (refine Below.alloc ?_ (by first | omega | (simp; done) | (simp; omega)) _) | (refine Below.setCell ?_ (by first | omega | (simp; done) | (simp; omega)) _)))⟩
  · go_wp2_with fail
    refine (inf_32 _).mono ?_
    rintro e w3 ⟨rfl, hb3⟩
    have hB : Below w.heap.size w w3 := Below.trans (by repeat (first | exact Below.refl _ _ | assumption | (refine Below.drew ?_) | (refine Below.trans ?_ (below_drewN _ _ _)) | (refine Below.alloc ?_ (by first | omega | (simp; done) | (simp; omega)) _) | (refine Below.setCell ?_ (by first | omega | (simp; done) | (simp; omega)) _))) (hb3.mono (by simp; omega))
    go_wp2_with fail
    go_ret2
    exact ⟨rfl, hB⟩
  · go_wp2_with fail
    refine (inf_32 _).mono ?_
    rintro e w3 ⟨rfl, hb3⟩
    have hB : Below w.heap.size w w3 := Below.trans (by repeat (first | exact Below.refl _ _ | assumption | (refine Below.drew ?_) | (refine Below.trans ?_ (below_drewN _ _ _)) | (refine Below.alloc ?_ (by first | omega | (simp; done) | (simp; omega)) _) | (refine Below.setCell ?_ (by first | omega | (simp; done) | (simp; omega)) _))) (hb3.mono (by simp; omega))
    obtain ⟨hc, hf⟩ := bcell hb3
    go_wp2_with fail
    refine (inf_32 _).mono ?_
    rintro e w4 ⟨rfl, hb4⟩
    have hB4 : Below w.heap.size w w4 := Below.trans hB (hb4.mono hB.size)
    go_wp2_with fail
    go_ret2
    exact ⟨rfl, hB4⟩
  · go_wp2_with fail
    refine (inf_32 _).mono ?_
    rintro e w3 ⟨rfl, hb3⟩
    have hB : Below w.heap.size w w3 := Below.trans (by repeat (first | exact Below.refl _ _ | assumption | (refine Below.drew ?_) | (refine Below.trans ?_ (below_drewN _ _ _)) | (refine Below.alloc ?_ (by first | omega | (simp; done) | (simp; omega)) _) | (refine Below.setCell ?_ (by first | omega | (simp; done) | (simp; omega)) _))) (hb3.mono (by simp; omega))
    obtain ⟨hc, hf⟩ := bcell hb3
    go_wp2_with fail
    refine (inf_32 _).mono ?_
    rintro e w4 ⟨rfl, hb4⟩
    have hB4 : Below w.heap.size w w4 := Below.trans hB (hb4.mono hB.size)
    go_wp2_with fail
    go_ret2
    exact ⟨rfl, hB4⟩
theorem class_32 (b : Int) (h0 : 0 ≤ b) (h1 : b < 4294967296) (w : World) : Calls Try.prog 39 #[.int .i64 9, .int .u64 b] w fun e w' => e = .returned (.tuple #[.int .i64 (clsOf (bits .andNot .u64 b 2147483648) 8388608 2139095040), .int .i64 0]) ∧ Below w.heap.size w w' := by
  refine class_32_at b h0 h1 w _ _ rfl ?_
  generalize bits BinOp.andNot IntKind.u64 b 2147483648 = y
  simp only [beq_iff_eq, beq_eq_false_iff_ne]
  show (clsOf y _ _ = 1 ∧ _) ∨ (clsOf y _ _ = 2 ∧ _) ∨ (clsOf y _ _ = 3 ∧ _) ∨ (clsOf y _ _ = 4 ∧ _) ∨ (clsOf y _ _ = 5 ∧ _)
  generalize y = z
  unfold clsOf
  by_cases c1 : z = 0
  · exact .inl ⟨if_pos c1, c1⟩
  rw [if_neg c1]
  by_cases c2 : z < 8388608
  · exact .inr (.inl ⟨if_pos c2, c1, c2⟩)
  rw [if_neg c2]
  by_cases c3 : z < 2139095040
  · exact .inr (.inr (.inl ⟨if_pos c3, c1, c2, c3⟩))
  rw [if_neg c3]
  by_cases c4 : z = 2139095040
  · exact .inr (.inr (.inr (.inl ⟨if_pos c4, c1, c2, c3, c4⟩)))
  rw [if_neg c4]
  exact .inr (.inr (.inr (.inr ⟨rfl, c1, c2, c3, c4⟩)))
theorem class_64_at (b : Int) (w : World) (r y : Int) (hy : bits .andNot .u64 b 9223372036854775808 = y) (h : (r = 1 ∧ (y == 0) = true) ∨ (r = 2 ∧ (y == 0) = false ∧ y < 4503599627370496) ∨ (r = 3 ∧ (y == 0) = false ∧ ¬ y < 4503599627370496 ∧ y < 9218868437227405312) ∨ (r = 4 ∧ (y == 0) = false ∧ ¬ y < 4503599627370496 ∧ ¬ y < 9218868437227405312 ∧ (y == 9218868437227405312) = true) ∨ (r = 5 ∧ (y == 0) = false ∧ ¬ y < 4503599627370496 ∧ ¬ y < 9218868437227405312 ∧ (y == 9218868437227405312) = false)) :
    Calls Try.prog 39 #[.int .i64 10, .int .u64 b] w fun e w' => e = .returned (.tuple #[.int .i64 r, .int .i64 0]) ∧ Below w.heap.size w w' := by
  go_enter Try.func39, Try.ntmps39
  go_wp2_with (go_at_call 87; refine (own_64 _ _).mono ?_; rintro e w1 ⟨rfl, hb1⟩)
  refine (sign_64 _).mono ?_
  rintro e w2 ⟨rfl, rfl⟩
  have hz := hb1.size
  rcases h with ⟨rfl, h1⟩ | ⟨rfl, h1, h2⟩ | ⟨rfl, h1, h2, h3⟩ | ⟨rfl, h1, h2, h3, h4⟩ | ⟨rfl, h1, h2, h3, h4⟩
  · go_wp2
    go_ret2
    exact ⟨rfl, (by repeat (first | exact Below.refl _ _ | assumption | (refine Below.drew ?_) | (refine Below.trans ?_ (below_drewN _ _ _)) | (refine Below.alloc ?_ (by first | omega | (simp; done) | (simp; omega)) _) | (refine Below.setCell ?_ (by first | omega | (simp; done) | (simp; omega)) _)))⟩
  · go_wp2_with fail
    go_ret2
    exact ⟨rfl, (by repeat (first | exact Below.refl _ _ | assumption | (refine Below.drew ?_) | (refine Below.trans ?_ (below_drewN _ _ _)) | (refine Below.alloc ?_ (by first | omega | (simp; done) | (simp; omega)) _) | (refine Below.setCell ?_ (by first | omega | (simp; done) | (simp; omega)) _)))⟩
  · go_wp2_with fail
    refine (inf_64 _).mono ?_
    rintro e w3 ⟨rfl, hb3⟩
    have hB : Below w.heap.size w w3 := Below.trans (by repeat (first | exact Below.refl _ _ | assumption | (refine Below.drew ?_) | (refine Below.trans ?_ (below_drewN _ _ _)) | (refine Below.alloc ?_ (by first | omega | (simp; done) | (simp; omega)) _) | (refine Below.setCell ?_ (by first | omega | (simp; done) | (simp; omega)) _))) (hb3.mono (by simp; omega))
    go_wp2_with fail
    go_ret2
    exact ⟨rfl, hB⟩
  · go_wp2_with fail
    refine (inf_64 _).mono ?_
    rintro e w3 ⟨rfl, hb3⟩
    have hB : Below w.heap.size w w3 := Below.trans (by repeat (first | exact Below.refl _ _ | assumption | (refine Below.drew ?_) | (refine Below.trans ?_ (below_drewN _ _ _)) | (refine Below.alloc ?_ (by first | omega | (simp; done) | (simp; omega)) _) | (refine Below.setCell ?_ (by first | omega | (simp; done) | (simp; omega)) _))) (hb3.mono (by simp; omega))
    obtain ⟨hc, hf⟩ := bcell hb3
    go_wp2_with fail
    refine (inf_64 _).mono ?_
    rintro e w4 ⟨rfl, hb4⟩
    have hB4 : Below w.heap.size w w4 := Below.trans hB (hb4.mono hB.size)
    go_wp2_with fail
    go_ret2
    exact ⟨rfl, hB4⟩
  · go_wp2_with fail
    refine (inf_64 _).mono ?_
    rintro e w3 ⟨rfl, hb3⟩
    have hB : Below w.heap.size w w3 := Below.trans (by repeat (first | exact Below.refl _ _ | assumption | (refine Below.drew ?_) | (refine Below.trans ?_ (below_drewN _ _ _)) | (refine Below.alloc ?_ (by first | omega | (simp; done) | (simp; omega)) _) | (refine Below.setCell ?_ (by first | omega | (simp; done) | (simp; omega)) _))) (hb3.mono (by simp; omega))
    obtain ⟨hc, hf⟩ := bcell hb3
    go_wp2_with fail
    refine (inf_64 _).mono ?_
    rintro e w4 ⟨rfl, hb4⟩
    have hB4 : Below w.heap.size w w4 := Below.trans hB (hb4.mono hB.size)
    go_wp2_with fail
    go_ret2
    exact ⟨rfl, hB4⟩
theorem class_64 (b : Int) (w : World) : Calls Try.prog 39 #[.int .i64 10, .int .u64 b] w fun e w' => e = .returned (.tuple #[.int .i64 (clsOf (bits .andNot .u64 b 9223372036854775808) 4503599627370496 9218868437227405312), .int .i64 0]) ∧ Below w.heap.size w w' := by
  refine class_64_at b w _ _ rfl ?_
  generalize bits BinOp.andNot IntKind.u64 b 9223372036854775808 = y
  simp only [beq_iff_eq, beq_eq_false_iff_ne]
  show (clsOf y _ _ = 1 ∧ _) ∨ (clsOf y _ _ = 2 ∧ _) ∨ (clsOf y _ _ = 3 ∧ _) ∨ (clsOf y _ _ = 4 ∧ _) ∨ (clsOf y _ _ = 5 ∧ _)
  generalize y = z
  unfold clsOf
  by_cases c1 : z = 0
  · exact .inl ⟨if_pos c1, c1⟩
  rw [if_neg c1]
  by_cases c2 : z < 4503599627370496
  · exact .inr (.inl ⟨if_pos c2, c1, c2⟩)
  rw [if_neg c2]
  by_cases c3 : z < 9218868437227405312
  · exact .inr (.inr (.inl ⟨if_pos c3, c1, c2, c3⟩))
  rw [if_neg c3]
  by_cases c4 : z = 9218868437227405312
  · exact .inr (.inr (.inr (.inl ⟨if_pos c4, c1, c2, c3, c4⟩)))
  rw [if_neg c4]
  exact .inr (.inr (.inr (.inr ⟨rfl, c1, c2, c3, c4⟩)))
theorem class_32_no (b : Int) (h0 : 4294967296 ≤ b) (w : World) : Calls Try.prog 39 #[.int .i64 9, .int .u64 b] w fun e w' => e = .returned (.tuple #[.int .i64 0, .int .i64 31]) ∧ Below w.heap.size w w' := by
  go_enter Try.func39, Try.ntmps39
  go_wp2_with (go_at_call 87; refine (own_32_no _ h0 _).mono ?_; rintro e w1 ⟨rfl, hb1⟩)
  have hz := hb1.size
  go_ret2
  exact ⟨rfl, (by repeat (first | exact Below.refl _ _ | assumption | (refine Below.drew ?_) | (refine Below.trans ?_ (below_drewN _ _ _)) | (refine Below.alloc ?_ (by first | omega | (simp; done) | (simp; omega)) _) | (refine Below.setCell ?_ (by first | omega | (simp; done) | (simp; omega)) _)))⟩
theorem nan_32 (w : World) : Calls Try.prog 40 #[.int .i64 9] w fun e w' => e = .returned (.tuple #[.int .u64 2143289344, .int .i64 0]) ∧ Below w.heap.size w w' := by
  have e1 : IntKind.i64.wrap 22 = 22 := by decide
  have hn : bits .or .u64 2139095040 (IntKind.u64.wrap 4194304) = 2143289344 := by decide
  go_enter Try.func40, Try.ntmps40
  go_wp2_with (go_at_call 90; refine (shapes_32 _).mono ?_; rintro e w1 ⟨rfl, hb1⟩)
  have hz := hb1.size
  go_region_with (go_at_call 89; refine (inf_32 _).mono ?_; rintro e w2 ⟨rfl, hb2⟩; obtain ⟨hc, hf⟩ := bcell hb2)
  all_goals
    go_wp2
    go_ret2
    exact ⟨by first | rfl | (rw [hn]), hb1.trans (((below_new w1 _).drew.mono hz).trans (hb2.mono (by simp; omega)))⟩
theorem nan_64 (w : World) : Calls Try.prog 40 #[.int .i64 10] w fun e w' => e = .returned (.tuple #[.int .u64 9221120237041090560, .int .i64 0]) ∧ Below w.heap.size w w' := by
  have e1 : IntKind.i64.wrap 51 = 51 := by decide
  have hn : bits .or .u64 9218868437227405312 (IntKind.u64.wrap 2251799813685248) = 9221120237041090560 := by decide
  go_enter Try.func40, Try.ntmps40
  go_wp2_with (go_at_call 90; refine (shapes_64 _).mono ?_; rintro e w1 ⟨rfl, hb1⟩)
  have hz := hb1.size
  go_region_with (go_at_call 89; refine (inf_64 _).mono ?_; rintro e w2 ⟨rfl, hb2⟩; obtain ⟨hc, hf⟩ := bcell hb2)
  all_goals
    go_wp2
    go_ret2
    exact ⟨by first | rfl | (rw [hn]), hb1.trans (((below_new w1 _).drew.mono hz).trans (hb2.mono (by simp; omega)))⟩
end Go.Proofs.Ytmhjjhaipcgbiaa


namespace Go.Proofs.Ytmhjjhaipcgbiaa
open Go.RowKit
set_option linter.unusedVariables false
set_option linter.unusedSimpArgs false
set_option maxRecDepth 100000
set_option maxHeartbeats 2000000
def wbits (k : Int) : Int := if k = 1 ∨ k = 5 then 8 else if k = 2 ∨ k = 6 then 16 else if k = 3 ∨ k = 7 then 32 else if k = 4 ∨ k = 8 then 64 else 0
def maxOf (b : Int) : Int := if b = 8 then 255 else if b = 16 then 65535 else if b = 32 then 4294967295 else 18446744073709551615
theorem whole_kinds {k : Int} (h : 1 ≤ k ∧ k ≤ 8) : k = 1 ∨ k = 2 ∨ k = 3 ∨ k = 4 ∨ k = 5 ∨ k = 6 ∨ k = 7 ∨ k = 8 := by omega
theorem wwidth_yes (k : Int) (w : World) (h : 1 ≤ k ∧ k ≤ 8) : Calls Try.prog 95 #[.int .i64 k] w fun e w' => e = .returned (.tuple #[.int .i64 (wbits k), .bool (decide (k ≤ 4)), .bool true]) ∧ Below w.heap.size w w' := by
  rcases whole_kinds h with rfl | rfl | rfl | rfl | rfl | rfl | rfl | rfl
  all_goals
    clear h
    go_enter Try.func95, Try.ntmps95
    go_wp2
    go_ret3
    exact ⟨rfl, (by repeat (first | exact Below.refl _ _ | assumption | (refine Below.drew ?_) | (refine Below.trans ?_ (below_drewN _ _ _)) | (refine Below.alloc ?_ (by first | omega | (simp; done) | (simp; omega)) _) | (refine Below.setCell ?_ (by first | omega | (simp; done) | (simp; omega)) _)))⟩
theorem wmost_any (b : Int) (w : World) (hb : b = 8 ∨ b = 16 ∨ b = 32 ∨ b = 64) : Calls Try.prog 96 #[.int .i64 b, .bool false, .bool false] w fun e w' => e = .returned (.int .u64 (maxOf b)) ∧ w = w' := by
  rcases hb with rfl | rfl | rfl | rfl
  all_goals
    go_enter Try.func96, Try.ntmps96
    go_wp2
    go_ret
    exact ⟨rfl, rfl⟩
theorem wholeFits_yes (k b : Int) (w : World) (h : 1 ≤ k ∧ k ≤ 8) : Calls Try.prog 44 #[.int .i64 k, .int .u64 b] w fun e w' => e = .returned (.bool (decide (b ≤ maxOf (wbits k)))) ∧ Below w.heap.size w w' := by
  have hk : wbits k = 8 ∨ wbits k = 16 ∨ wbits k = 32 ∨ wbits k = 64 := by unfold wbits; rcases whole_kinds h with rfl | rfl | rfl | rfl | rfl | rfl | rfl | rfl <;> simp
  go_enter Try.func44, Try.ntmps44
  go_wp2_with (go_at_call 95; refine (wwidth_yes k _ h).mono ?_; rintro e w1 ⟨rfl, hb1⟩)
  refine (wmost_any _ _ hk).mono ?_
  rintro e w2 ⟨rfl, rfl⟩
  go_wp2_with fail
  go_ret
  exact ⟨rfl, hb1⟩
theorem r5width_any (k : Int) (w : World) : Calls Try.prog 38 #[.int .i64 k] w fun e w' => e = .returned (.int .i64 (wbits k)) ∧ w = w' := by
  by_cases h : 1 ≤ k ∧ k ≤ 8
  · rcases whole_kinds h with rfl | rfl | rfl | rfl | rfl | rfl | rfl | rfl
    all_goals
      clear h
      go_enter Try.func38, Try.ntmps38
      go_wp2
      go_ret
      exact ⟨rfl, rfl⟩
  · have h0 : Aside (wbits k = 0) := ⟨by unfold wbits; rw [if_neg (by omega), if_neg (by omega), if_neg (by omega), if_neg (by omega)]⟩
    have h' : k < 1 ∨ 8 < k := by omega
    clear h
    rcases h' with h | h
    all_goals
      go_enter Try.func38, Try.ntmps38
      go_wp2
      go_ret
      exact ⟨by rw [h0.out]; rfl, rfl⟩
theorem r5cut_any (k b : Int) (h0 : 0 ≤ b) (h1 : b ≤ 18446744073709551615) (w : World) (h : 1 ≤ k ∧ k ≤ 8) : Calls Try.prog 100 #[.int .i64 k, .int .u64 b] w fun e w' => e = .returned (.int .u64 (b % (maxOf (wbits k) + 1))) ∧ Below w.heap.size w w' := by
  rcases whole_kinds h with rfl | rfl | rfl | rfl | rfl | rfl | rfl | rfl
  all_goals
    clear h
    go_enter Try.func100, Try.ntmps100
    go_wp2_with (go_at_call 38; refine (r5width_any _ _).mono ?_; simp (config := { decide := true }) only [wbits, ite_true, ite_false]; rintro e w1 ⟨rfl, rfl⟩)
    go_ret
    exact ⟨by first | rfl | (rw [show maxOf (wbits _) + 1 = 18446744073709551616 from rfl, Int.emod_eq_of_lt h0 (by omega)]; rfl), Below.refl _ _⟩
theorem r5fits_yes (k b : Int) (h0 : 0 ≤ b) (h1 : b ≤ 18446744073709551615) (w : World) (h : 1 ≤ k ∧ k ≤ 8) : Calls Try.prog 51 #[.int .i64 k, .int .u64 b] w fun e w' => e = .returned (.bool (decide (b ≤ maxOf (wbits k)))) ∧ Below w.heap.size w w' := by
  have hw : 0 < wbits k := by unfold wbits; rcases whole_kinds h with rfl | rfl | rfl | rfl | rfl | rfl | rfl | rfl <;> simp
  have hm : 0 ≤ maxOf (wbits k) := by unfold maxOf; split <;> (try split) <;> (try split) <;> decide
  have HM : Aside (decide (b ≤ maxOf (wbits k)) = (b % (maxOf (wbits k) + 1) == b)) := ⟨by
    by_cases hle : b ≤ maxOf (wbits k)
    · rw [Int.emod_eq_of_lt h0 (by omega)]; simp [hle]
    · have := Int.emod_lt_of_pos b (show 0 < maxOf (wbits k) + 1 by omega)
      have hne : b % (maxOf (wbits k) + 1) ≠ b := by omega
      simp [hle, hne]⟩
  clear hm
  go_enter Try.func51, Try.ntmps51
  go_wp2_with (go_at_call 38; refine (r5width_any _ _).mono ?_; rintro e w1 ⟨rfl, rfl⟩)
  refine (r5cut_any _ _ h0 h1 _ h).mono ?_
  rintro e w2 ⟨rfl, hb2⟩
  go_wp2_with fail
  go_ret
  exact ⟨by rw [HM.out]; rfl, hb2⟩
end Go.Proofs.Ytmhjjhaipcgbiaa


namespace Go.Proofs.Ytmhjjhaipcgbiaa
open Go.RowKit
set_option linter.unusedVariables false
set_option linter.unusedSimpArgs false
set_option maxRecDepth 100000
set_option maxHeartbeats 2000000
theorem r3shape_32 (w : World) : Calls Try.prog 98 #[.int .i64 9] w fun e w' => e = .returned (.tuple #[.int .i64 23, .int .i64 8, .bool true]) ∧ w = w' := by
  go_enter Try.func98, Try.ntmps98
  go_wp2
  go_ret3
  exact ⟨rfl, rfl⟩
theorem r3shape_64 (w : World) : Calls Try.prog 98 #[.int .i64 10] w fun e w' => e = .returned (.tuple #[.int .i64 52, .int .i64 11, .bool true]) ∧ w = w' := by
  go_enter Try.func98, Try.ntmps98
  go_wp2
  go_ret3
  exact ⟨rfl, rfl⟩
theorem r3sign_32 (w : World) : Calls Try.prog 117 #[.int .i64 9] w fun e w' => e = .returned (.int .u64 2147483648) ∧ w = w' := by
  go_enter Try.func117, Try.ntmps117
  go_wp2
  go_ret
  exact ⟨rfl, rfl⟩
theorem r3sign_64 (w : World) : Calls Try.prog 117 #[.int .i64 10] w fun e w' => e = .returned (.int .u64 9223372036854775808) ∧ w = w' := by
  go_enter Try.func117, Try.ntmps117
  go_wp2
  go_ret
  exact ⟨rfl, rfl⟩
theorem r3check_32 (b : Int) (h : b < 4294967296) (w : World) : Calls Try.prog 97 #[.int .i64 9, .int .u64 b] w fun e w' => e = .returned (.int .i64 0) ∧ w = w' := by
  go_enter Try.func97, Try.ntmps97
  go_wp2_with (go_at_call 98; refine (r3shape_32 _).mono ?_; rintro e w1 ⟨rfl, rfl⟩)
  go_ret
  exact ⟨rfl, rfl⟩
theorem r3check_32_no (b : Int) (h : 4294967296 ≤ b) (w : World) : Calls Try.prog 97 #[.int .i64 9, .int .u64 b] w fun e w' => e = .returned (.int .i64 31) ∧ w = w' := by
  go_enter Try.func97, Try.ntmps97
  go_wp2_with (go_at_call 98; refine (r3shape_32 _).mono ?_; rintro e w1 ⟨rfl, rfl⟩)
  go_ret
  exact ⟨rfl, rfl⟩
theorem r3check_64 (b : Int) (w : World) : Calls Try.prog 97 #[.int .i64 10, .int .u64 b] w fun e w' => e = .returned (.int .i64 0) ∧ w = w' := by
  go_enter Try.func97, Try.ntmps97
  go_wp2_with (go_at_call 98; refine (r3shape_64 _).mono ?_; rintro e w1 ⟨rfl, rfl⟩)
  go_ret
  exact ⟨rfl, rfl⟩
def r3cls (x m mx : Int) : Int := if x = mx ∧ m = 0 then 4 else if x = mx then 5 else if 0 < x then 3 else if 0 < m then 2 else 1
theorem r3cls_inf {mx : Int} : r3cls mx 0 mx = 4 := by simp [r3cls]
theorem r3cls_nan {m mx : Int} (h : ¬ m = 0) : r3cls mx m mx = 5 := by simp [r3cls, h]
theorem r3cls_norm {x m mx : Int} (h : ¬ x = mx) (h2 : 0 < x) : r3cls x m mx = 3 := by simp [r3cls, h, h2]
theorem r3cls_small {x m mx : Int} (h : ¬ x = mx) (h2 : ¬ 0 < x) (h3 : 0 < m) : r3cls x m mx = 2 := by simp [r3cls, h, h2, h3]
theorem r3cls_zero {x m mx : Int} (h : ¬ x = mx) (h2 : ¬ 0 < x) (h3 : ¬ 0 < m) : r3cls x m mx = 1 := by simp [r3cls, h, h2, h3]
theorem r3parts_32 (b : Int) (h0 : 0 ≤ b) (h1 : b < 4294967296) (w : World) : Calls Try.prog 99 #[.int .i64 9, .int .u64 b] w fun e w' => e = .returned (.tuple #[.int .i64 (b % 2147483648 / 8388608 % 256), .int .u64 (b % 2147483648 % 8388608)]) ∧ Below w.heap.size w w' := by
  go_enter Try.func99, Try.ntmps99
  go_wp2_with (first | (go_at_call 98; refine (r3shape_32 _).mono ?_; rintro e w1 ⟨rfl, rfl⟩) | (go_at_call 117; refine (r3sign_32 _).mono ?_; rintro e w1 ⟨rfl, rfl⟩))
  go_quiet (fail)
  go_wp2
  go_ret2
  exact ⟨rfl, (by repeat (first | exact Below.refl _ _ | assumption | (refine Below.drew ?_) | (refine Below.trans ?_ (below_drewN _ _ _)) | (refine Below.alloc ?_ (by first | omega | (simp; done) | (simp; omega)) _) | (refine Below.setCell ?_ (by first | omega | (simp; done) | (simp; omega)) _)))⟩
theorem r3class_32 (b : Int) (h0 : 0 ≤ b) (h1 : b < 4294967296) (w : World) : Calls Try.prog 46 #[.int .i64 9, .int .u64 b] w fun e w' => e = .returned (.tuple #[.int .i64 (r3cls (b % 2147483648 / 8388608 % 256) (b % 2147483648 % 8388608) 255), .int .i64 0]) ∧ Below w.heap.size w w' := by
  go_enter Try.func46, Try.ntmps46
  go_wp2_with (first | (go_at_call 97; refine (r3check_32 _ h1 _).mono ?_; rintro e w1 ⟨rfl, rfl⟩) | (go_at_call 98; refine (r3shape_32 _).mono ?_; rintro e w1 ⟨rfl, rfl⟩))
  refine (r3parts_32 _ h0 h1 _).mono ?_
  rintro e w1 ⟨rfl, hb1⟩
  generalize hx : b % 2147483648 / 8388608 % 256 = x
  generalize hm : b % 2147483648 % 8388608 = m
  have hx0 : 0 ≤ x := by omega
  have hm0 : 0 ≤ m := by omega
  have HX := Aside.mk hx
  have HM := Aside.mk hm
  clear hx hm
  by_cases c1 : x = 255
  · subst c1
    by_cases c2 : m = 0
    · subst c2
      go_wp2_with fail
      go_ret2
      exact ⟨by rw [HX.out, HM.out, r3cls_inf]; rfl, hb1⟩
    · have c3 : (m == 0) = false := by simpa using c2
      have C2 := Aside.mk c2
      clear c2
      go_wp2_with fail
      go_ret2
      exact ⟨by rw [HX.out, HM.out, r3cls_nan C2.out]; rfl, hb1⟩
  · have c2 : (x == 255) = false := by simpa using c1
    have C1 := Aside.mk c1
    clear c1
    by_cases c3 : 0 < x
    · go_wp2_with fail
      go_ret2
      exact ⟨by rw [HX.out, HM.out, r3cls_norm C1.out c3]; rfl, hb1⟩
    · by_cases c4 : 0 < m
      · go_wp2_with fail
        go_ret2
        exact ⟨by rw [HX.out, HM.out, r3cls_small C1.out (by omega) c4]; rfl, hb1⟩
      · go_wp2_with fail
        go_ret2
        exact ⟨by rw [HX.out, HM.out, r3cls_zero C1.out (by omega) (by omega)]; rfl, hb1⟩
theorem r3parts_64 (b : Int) (h0 : 0 ≤ b) (h1 : b ≤ 18446744073709551615) (w : World) : Calls Try.prog 99 #[.int .i64 10, .int .u64 b] w fun e w' => e = .returned (.tuple #[.int .i64 (b % 9223372036854775808 / 4503599627370496 % 2048), .int .u64 (b % 9223372036854775808 % 4503599627370496)]) ∧ Below w.heap.size w w' := by
  go_enter Try.func99, Try.ntmps99
  go_wp2_with (first | (go_at_call 98; refine (r3shape_64 _).mono ?_; rintro e w1 ⟨rfl, rfl⟩) | (go_at_call 117; refine (r3sign_64 _).mono ?_; rintro e w1 ⟨rfl, rfl⟩))
  go_quiet (fail)
  go_wp2
  go_ret2
  exact ⟨rfl, (by repeat (first | exact Below.refl _ _ | assumption | (refine Below.drew ?_) | (refine Below.trans ?_ (below_drewN _ _ _)) | (refine Below.alloc ?_ (by first | omega | (simp; done) | (simp; omega)) _) | (refine Below.setCell ?_ (by first | omega | (simp; done) | (simp; omega)) _)))⟩
theorem r3class_64 (b : Int) (h0 : 0 ≤ b) (h1 : b ≤ 18446744073709551615) (w : World) : Calls Try.prog 46 #[.int .i64 10, .int .u64 b] w fun e w' => e = .returned (.tuple #[.int .i64 (r3cls (b % 9223372036854775808 / 4503599627370496 % 2048) (b % 9223372036854775808 % 4503599627370496) 2047), .int .i64 0]) ∧ Below w.heap.size w w' := by
  go_enter Try.func46, Try.ntmps46
  go_wp2_with (first | (go_at_call 97; refine (r3check_64 _ _).mono ?_; rintro e w1 ⟨rfl, rfl⟩) | (go_at_call 98; refine (r3shape_64 _).mono ?_; rintro e w1 ⟨rfl, rfl⟩))
  refine (r3parts_64 _ h0 h1 _).mono ?_
  rintro e w1 ⟨rfl, hb1⟩
  generalize hx : b % 9223372036854775808 / 4503599627370496 % 2048 = x
  generalize hm : b % 9223372036854775808 % 4503599627370496 = m
  have hx0 : 0 ≤ x := by omega
  have hm0 : 0 ≤ m := by omega
  have HX := Aside.mk hx
  have HM := Aside.mk hm
  clear hx hm
  by_cases c1 : x = 2047
  · subst c1
    by_cases c2 : m = 0
    · subst c2
      go_wp2_with fail
      go_ret2
      exact ⟨by rw [HX.out, HM.out, r3cls_inf]; rfl, hb1⟩
    · have c3 : (m == 0) = false := by simpa using c2
      have C2 := Aside.mk c2
      clear c2
      go_wp2_with fail
      go_ret2
      exact ⟨by rw [HX.out, HM.out, r3cls_nan C2.out]; rfl, hb1⟩
  · have c2 : (x == 2047) = false := by simpa using c1
    have C1 := Aside.mk c1
    clear c1
    by_cases c3 : 0 < x
    · go_wp2_with fail
      go_ret2
      exact ⟨by rw [HX.out, HM.out, r3cls_norm C1.out c3]; rfl, hb1⟩
    · by_cases c4 : 0 < m
      · go_wp2_with fail
        go_ret2
        exact ⟨by rw [HX.out, HM.out, r3cls_small C1.out (by omega) c4]; rfl, hb1⟩
      · go_wp2_with fail
        go_ret2
        exact ⟨by rw [HX.out, HM.out, r3cls_zero C1.out (by omega) (by omega)]; rfl, hb1⟩
theorem r3class_32_no (b : Int) (h0 : 4294967296 ≤ b) (w : World) : Calls Try.prog 46 #[.int .i64 9, .int .u64 b] w fun e w' => e = .returned (.tuple #[.int .i64 0, .int .i64 31]) ∧ w = w' := by
  go_enter Try.func46, Try.ntmps46
  go_wp2_with (go_at_call 97; refine (r3check_32_no _ h0 _).mono ?_; rintro e w1 ⟨rfl, rfl⟩)
  go_ret2
  exact ⟨rfl, rfl⟩
theorem r3nan_32 (w : World) : Calls Try.prog 47 #[.int .i64 9] w fun e w' => e = .returned (.int .u64 2143289344) ∧ w = w' := by
  go_enter Try.func47, Try.ntmps47
  go_wp2
  go_ret
  exact ⟨rfl, rfl⟩
theorem r3nan_64 (w : World) : Calls Try.prog 47 #[.int .i64 10] w fun e w' => e = .returned (.int .u64 9221120237041090560) ∧ w = w' := by
  go_enter Try.func47, Try.ntmps47
  go_wp2
  go_ret
  exact ⟨rfl, rfl⟩
end Go.Proofs.Ytmhjjhaipcgbiaa
