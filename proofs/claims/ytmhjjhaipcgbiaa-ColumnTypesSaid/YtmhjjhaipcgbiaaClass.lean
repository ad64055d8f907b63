/- bits.Class and bits.NaN, at both kinds of floats. -/
import Derived.Test.YtmhjjhaipcgbiaaBits
namespace Go.Proofs.Ytmhjjhaipcgbiaa
open Go.RowKit
set_option linter.unusedVariables false
set_option linter.unusedSimpArgs false

/-- The class of what is left of a float without its sign. -/
def clsOf (y lo inf : Int) : Int := if y = 0 then 1 else if y < lo then 2 else if y < inf then 3 else if y = inf then 4 else 5

set_option maxRecDepth 100000
set_option maxHeartbeats 2000000

theorem class_32_at (b : Int) (h0 : 0 ≤ b) (h1 : b < 4294967296) (w : World) (r y : Int) (hy : bits .andNot .u64 b 2147483648 = y) (h : (r = 1 ∧ (y == 0) = true) ∨ (r = 2 ∧ (y == 0) = false ∧ y < 8388608) ∨ (r = 3 ∧ (y == 0) = false ∧ ¬ y < 8388608 ∧ y < 2139095040) ∨ (r = 4 ∧ (y == 0) = false ∧ ¬ y < 8388608 ∧ ¬ y < 2139095040 ∧ (y == 2139095040) = true) ∨ (r = 5 ∧ (y == 0) = false ∧ ¬ y < 8388608 ∧ ¬ y < 2139095040 ∧ (y == 2139095040) = false)) :
    Calls Try.prog 39 #[.int .i64 9, .int .u64 b] w fun e w' => e = .returned (.tuple #[.int .i64 r, .int .i64 0]) ∧ Below w.heap.size w w' := by
  go_enter Try.func39, Try.ntmps39
  go_wp2_with (go_at_call 87; refine (own_32 _ h0 h1 _).mono ?_; rintro e w1 ⟨rfl, hb1⟩)
  refine (sign_32 _).mono ?_
  rintro e w2 ⟨rfl, rfl⟩
  have hz := hb1.size
  rcases h with ⟨rfl, h1⟩ | ⟨rfl, h1, h2⟩ | ⟨rfl, h1, h2, h3⟩ | ⟨rfl, h1, h2, h3, h4⟩ | ⟨rfl, h1, h2, h3, h4⟩
  · go_wp2
    go_ret2
    exact ⟨rfl, (by repeat (first | exact Below.refl _ _ | assumption | (refine Below.drew ?_) | (refine Below.trans ?_ (below_drewN _ _ _)) | (refine Below.alloc ?_ (by first | omega | (simp; done) | (simp; omega)) _) | (refine Below.setCell ?_ (by first | omega | (simp; done) | (simp; omega)) _)))⟩
  · go_wp2_with fail
    go_ret2
    exact ⟨rfl, (by repeat (first | exact Below.refl _ _ | assumption | (refine Below.drew ?_) | (refine Below.trans ?_ (below_drewN _ _ _)) | (refine Below.alloc ?_ (by first | omega | (simp; done) | (simp; omega)) _) | (refine Below.setCell ?_ (by first | omega | (simp; done) | (simp; omega)) _)))⟩
  · go_wp2_with fail
    refine (inf_32 _).mono ?_
    rintro e w3 ⟨rfl, hb3⟩
    have hB : Below w.heap.size w w3 := Below.trans (by repeat (first | exact Below.refl _ _ | assumption | (refine Below.drew ?_) | (refine Below.trans ?_ (below_drewN _ _ _)) | (refine Below.alloc ?_ (by first | omega | (simp; done) | (simp; omega)) _) | (refine Below.setCell ?_ (by first | omega | (simp; done) | (simp; omega)) _))) (hb3.mono (by simp; omega))
    go_wp2_with fail
    go_ret2
    exact ⟨rfl, hB⟩
  · go_wp2_with fail
    refine (inf_32 _).mono ?_
    rintro e w3 ⟨rfl, hb3⟩
    have hB : Below w.heap.size w w3 := Below.trans (by repeat (first | exact Below.refl _ _ | assumption | (refine Below.drew ?_) | (refine Below.trans ?_ (below_drewN _ _ _)) | (refine Below.alloc ?_ (by first | omega | (simp; done) | (simp; omega)) _) | (refine Below.setCell ?_ (by first | omega | (simp; done) | (simp; omega)) _))) (hb3.mono (by simp; omega))
    obtain ⟨hc, hf⟩ := bcell hb3
    go_wp2_with fail
    refine (inf_32 _).mono ?_
    rintro e w4 ⟨rfl, hb4⟩
    have hB4 : Below w.heap.size w w4 := Below.trans hB (hb4.mono hB.size)
    go_wp2_with fail
    go_ret2
    exact ⟨rfl, hB4⟩
  · go_wp2_with fail
    refine (inf_32 _).mono ?_
    rintro e w3 ⟨rfl, hb3⟩
    have hB : Below w.heap.size w w3 := Below.trans (by repeat (first | exact Below.refl _ _ | assumption | (refine Below.drew ?_) | (refine Below.trans ?_ (below_drewN _ _ _)) | (refine Below.alloc ?_ (by first | omega | (simp; done) | (simp; omega)) _) | (refine Below.setCell ?_ (by first | omega | (simp; done) | (simp; omega)) _))) (hb3.mono (by simp; omega))
    obtain ⟨hc, hf⟩ := bcell hb3
    go_wp2_with fail
    refine (inf_32 _).mono ?_
    rintro e w4 ⟨rfl, hb4⟩
    have hB4 : Below w.heap.size w w4 := Below.trans hB (hb4.mono hB.size)
    go_wp2_with fail
    go_ret2
    exact ⟨rfl, hB4⟩

theorem class_32 (b : Int) (h0 : 0 ≤ b) (h1 : b < 4294967296) (w : World) : Calls Try.prog 39 #[.int .i64 9, .int .u64 b] w fun e w' => e = .returned (.tuple #[.int .i64 (clsOf (bits .andNot .u64 b 2147483648) 8388608 2139095040), .int .i64 0]) ∧ Below w.heap.size w w' := by
  refine class_32_at b h0 h1 w _ _ rfl ?_
  generalize bits BinOp.andNot IntKind.u64 b 2147483648 = y
  simp only [beq_iff_eq, beq_eq_false_iff_ne]
  show (clsOf y _ _ = 1 ∧ _) ∨ (clsOf y _ _ = 2 ∧ _) ∨ (clsOf y _ _ = 3 ∧ _) ∨ (clsOf y _ _ = 4 ∧ _) ∨ (clsOf y _ _ = 5 ∧ _)
  generalize y = z
  unfold clsOf
  by_cases c1 : z = 0
  · exact .inl ⟨if_pos c1, c1⟩
  rw [if_neg c1]
  by_cases c2 : z < 8388608
  · exact .inr (.inl ⟨if_pos c2, c1, c2⟩)
  rw [if_neg c2]
  by_cases c3 : z < 2139095040
  · exact .inr (.inr (.inl ⟨if_pos c3, c1, c2, c3⟩))
  rw [if_neg c3]
  by_cases c4 : z = 2139095040
  · exact .inr (.inr (.inr (.inl ⟨if_pos c4, c1, c2, c3, c4⟩)))
  rw [if_neg c4]
  exact .inr (.inr (.inr (.inr ⟨rfl, c1, c2, c3, c4⟩)))

theorem class_64_at (b : Int) (w : World) (r y : Int) (hy : bits .andNot .u64 b 9223372036854775808 = y) (h : (r = 1 ∧ (y == 0) = true) ∨ (r = 2 ∧ (y == 0) = false ∧ y < 4503599627370496) ∨ (r = 3 ∧ (y == 0) = false ∧ ¬ y < 4503599627370496 ∧ y < 9218868437227405312) ∨ (r = 4 ∧ (y == 0) = false ∧ ¬ y < 4503599627370496 ∧ ¬ y < 9218868437227405312 ∧ (y == 9218868437227405312) = true) ∨ (r = 5 ∧ (y == 0) = false ∧ ¬ y < 4503599627370496 ∧ ¬ y < 9218868437227405312 ∧ (y == 9218868437227405312) = false)) :
    Calls Try.prog 39 #[.int .i64 10, .int .u64 b] w fun e w' => e = .returned (.tuple #[.int .i64 r, .int .i64 0]) ∧ Below w.heap.size w w' := by
  go_enter Try.func39, Try.ntmps39
  go_wp2_with (go_at_call 87; refine (own_64 _ _).mono ?_; rintro e w1 ⟨rfl, hb1⟩)
  refine (sign_64 _).mono ?_
  rintro e w2 ⟨rfl, rfl⟩
  have hz := hb1.size
  rcases h with ⟨rfl, h1⟩ | ⟨rfl, h1, h2⟩ | ⟨rfl, h1, h2, h3⟩ | ⟨rfl, h1, h2, h3, h4⟩ | ⟨rfl, h1, h2, h3, h4⟩
  · go_wp2
    go_ret2
    exact ⟨rfl, (by repeat (first | exact Below.refl _ _ | assumption | (refine Below.drew ?_) | (refine Below.trans ?_ (below_drewN _ _ _)) | (refine Below.alloc ?_ (by first | omega | (simp; done) | (simp; omega)) _) | (refine Below.setCell ?_ (by first | omega | (simp; done) | (simp; omega)) _)))⟩
  · go_wp2_with fail
    go_ret2
    exact ⟨rfl, (by repeat (first | exact Below.refl _ _ | assumption | (refine Below.drew ?_) | (refine Below.trans ?_ (below_drewN _ _ _)) | (refine Below.alloc ?_ (by first | omega | (simp; done) | (simp; omega)) _) | (refine Below.setCell ?_ (by first | omega | (simp; done) | (simp; omega)) _)))⟩
  · go_wp2_with fail
    refine (inf_64 _).mono ?_
    rintro e w3 ⟨rfl, hb3⟩
    have hB : Below w.heap.size w w3 := Below.trans (by repeat (first | exact Below.refl _ _ | assumption | (refine Below.drew ?_) | (refine Below.trans ?_ (below_drewN _ _ _)) | (refine Below.alloc ?_ (by first | omega | (simp; done) | (simp; omega)) _) | (refine Below.setCell ?_ (by first | omega | (simp; done) | (simp; omega)) _))) (hb3.mono (by simp; omega))
    go_wp2_with fail
    go_ret2
    exact ⟨rfl, hB⟩
  · go_wp2_with fail
    refine (inf_64 _).mono ?_
    rintro e w3 ⟨rfl, hb3⟩
    have hB : Below w.heap.size w w3 := Below.trans (by repeat (first | exact Below.refl _ _ | assumption | (refine Below.drew ?_) | (refine Below.trans ?_ (below_drewN _ _ _)) | (refine Below.alloc ?_ (by first | omega | (simp; done) | (simp; omega)) _) | (refine Below.setCell ?_ (by first | omega | (simp; done) | (simp; omega)) _))) (hb3.mono (by simp; omega))
    obtain ⟨hc, hf⟩ := bcell hb3
    go_wp2_with fail
    refine (inf_64 _).mono ?_
    rintro e w4 ⟨rfl, hb4⟩
    have hB4 : Below w.heap.size w w4 := Below.trans hB (hb4.mono hB.size)
    go_wp2_with fail
    go_ret2
    exact ⟨rfl, hB4⟩
  · go_wp2_with fail
    refine (inf_64 _).mono ?_
    rintro e w3 ⟨rfl, hb3⟩
    have hB : Below w.heap.size w w3 := Below.trans (by repeat (first | exact Below.refl _ _ | assumption | (refine Below.drew ?_) | (refine Below.trans ?_ (below_drewN _ _ _)) | (refine Below.alloc ?_ (by first | omega | (simp; done) | (simp; omega)) _) | (refine Below.setCell ?_ (by first | omega | (simp; done) | (simp; omega)) _))) (hb3.mono (by simp; omega))
    obtain ⟨hc, hf⟩ := bcell hb3
    go_wp2_with fail
    refine (inf_64 _).mono ?_
    rintro e w4 ⟨rfl, hb4⟩
    have hB4 : Below w.heap.size w w4 := Below.trans hB (hb4.mono hB.size)
    go_wp2_with fail
    go_ret2
    exact ⟨rfl, hB4⟩

theorem class_64 (b : Int) (w : World) : Calls Try.prog 39 #[.int .i64 10, .int .u64 b] w fun e w' => e = .returned (.tuple #[.int .i64 (clsOf (bits .andNot .u64 b 9223372036854775808) 4503599627370496 9218868437227405312), .int .i64 0]) ∧ Below w.heap.size w w' := by
  refine class_64_at b w _ _ rfl ?_
  generalize bits BinOp.andNot IntKind.u64 b 9223372036854775808 = y
  simp only [beq_iff_eq, beq_eq_false_iff_ne]
  show (clsOf y _ _ = 1 ∧ _) ∨ (clsOf y _ _ = 2 ∧ _) ∨ (clsOf y _ _ = 3 ∧ _) ∨ (clsOf y _ _ = 4 ∧ _) ∨ (clsOf y _ _ = 5 ∧ _)
  generalize y = z
  unfold clsOf
  by_cases c1 : z = 0
  · exact .inl ⟨if_pos c1, c1⟩
  rw [if_neg c1]
  by_cases c2 : z < 4503599627370496
  · exact .inr (.inl ⟨if_pos c2, c1, c2⟩)
  rw [if_neg c2]
  by_cases c3 : z < 9218868437227405312
  · exact .inr (.inr (.inl ⟨if_pos c3, c1, c2, c3⟩))
  rw [if_neg c3]
  by_cases c4 : z = 9218868437227405312
  · exact .inr (.inr (.inr (.inl ⟨if_pos c4, c1, c2, c3, c4⟩)))
  rw [if_neg c4]
  exact .inr (.inr (.inr (.inr ⟨rfl, c1, c2, c3, c4⟩)))


theorem class_32_no (b : Int) (h0 : 4294967296 ≤ b) (w : World) : Calls Try.prog 39 #[.int .i64 9, .int .u64 b] w fun e w' => e = .returned (.tuple #[.int .i64 0, .int .i64 31]) ∧ Below w.heap.size w w' := by
  go_enter Try.func39, Try.ntmps39
  go_wp2_with (go_at_call 87; refine (own_32_no _ h0 _).mono ?_; rintro e w1 ⟨rfl, hb1⟩)
  have hz := hb1.size
  go_ret2
  exact ⟨rfl, (by repeat (first | exact Below.refl _ _ | assumption | (refine Below.drew ?_) | (refine Below.trans ?_ (below_drewN _ _ _)) | (refine Below.alloc ?_ (by first | omega | (simp; done) | (simp; omega)) _) | (refine Below.setCell ?_ (by first | omega | (simp; done) | (simp; omega)) _)))⟩

theorem nan_32 (w : World) : Calls Try.prog 40 #[.int .i64 9] w fun e w' => e = .returned (.tuple #[.int .u64 2143289344, .int .i64 0]) ∧ Below w.heap.size w w' := by
  have e1 : IntKind.i64.wrap 22 = 22 := by decide
  have hn : bits .or .u64 2139095040 (IntKind.u64.wrap 4194304) = 2143289344 := by decide
  go_enter Try.func40, Try.ntmps40
  go_wp2_with (go_at_call 90; refine (shapes_32 _).mono ?_; rintro e w1 ⟨rfl, hb1⟩)
  have hz := hb1.size
  go_region_with (go_at_call 89; refine (inf_32 _).mono ?_; rintro e w2 ⟨rfl, hb2⟩; obtain ⟨hc, hf⟩ := bcell hb2)
  all_goals
    go_wp2
    go_ret2
    exact ⟨by first | rfl | (rw [hn]), hb1.trans (((below_new w1 _).drew.mono hz).trans (hb2.mono (by simp; omega)))⟩

theorem nan_64 (w : World) : Calls Try.prog 40 #[.int .i64 10] w fun e w' => e = .returned (.tuple #[.int .u64 9221120237041090560, .int .i64 0]) ∧ Below w.heap.size w w' := by
  have e1 : IntKind.i64.wrap 51 = 51 := by decide
  have hn : bits .or .u64 9218868437227405312 (IntKind.u64.wrap 2251799813685248) = 9221120237041090560 := by decide
  go_enter Try.func40, Try.ntmps40
  go_wp2_with (go_at_call 90; refine (shapes_64 _).mono ?_; rintro e w1 ⟨rfl, hb1⟩)
  have hz := hb1.size
  go_region_with (go_at_call 89; refine (inf_64 _).mono ?_; rintro e w2 ⟨rfl, hb2⟩; obtain ⟨hc, hf⟩ := bcell hb2)
  all_goals
    go_wp2
    go_ret2
    exact ⟨by first | rfl | (rw [hn]), hb1.trans (((below_new w1 _).drew.mono hz).trans (hb2.mono (by simp; omega)))⟩

end Go.Proofs.Ytmhjjhaipcgbiaa
