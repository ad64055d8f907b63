/- Texts of this claim, one behind the other: FitsR, Dict0, New. -/
import Derived.Test.YtmhjjhaipcgbiaaGreatZemP5
import Derived.Test.YtmhjjhaipcgbiaaGreatZemP1
import Derived.Maps.OwnSet
import Derived.Maps.OwnOps
import Derived.StringKeys
import Derived.Laws.BytesArg

namespace Go.Proofs.YtmhjjhaipcgbiaaGreat
open Go.RowKit
set_option linter.unusedVariables false
set_option linter.unusedSimpArgs false
set_option maxRecDepth 100000
set_option maxHeartbeats 1000000
theorem r18fits_no (k s b : Int) (w : World) (h : okType k s = false) : Calls Tryz.prog 75 #[.agg #[.int .i64 k, .int .i64 s], .int .u64 b] w (FitsP (fitsB k s b) w) := by
  have HOK := Aside.mk h
  have HF : Aside (fitsB k s b = false) := ⟨by simp [fitsB, h]⟩
  clear h
  go_enter Tryz.func75, Tryz.ntmps75
  go_wp2_with (go_at_call 13; refine (r18check_no _ _ _ HOK.out).mono ?_; rintro e w1 ⟨rfl, hb1⟩; have hB1 := Aside.mk ((below_new w _).trans (hb1.mono (by simp))))
  go_ret
  exact ⟨by rw [HF.out]; rfl, hB1.out⟩
theorem r18fits_yes (k s b : Int) (h0 : 0 ≤ b) (h1 : b ≤ 18446744073709551615) (w : World) (h : okType k s = true) : Calls Tryz.prog 75 #[.agg #[.int .i64 k, .int .i64 s], .int .u64 b] w (FitsP (fitsB k s b) w) := by
  have HOK := Aside.mk h
  have HF : Aside (fitsB k s b = bitsOK k b) := ⟨by simp [fitsB, h]⟩
  have hk : k = 1 ∨ k = 2 ∨ k = 3 ∨ k = 4 ∨ k = 5 ∨ k = 6 ∨ k = 7 ∨ k = 8 ∨ k = 9 ∨ k = 10 ∨ k = 11 ∨ k = 12 ∨ k = 13 ∨ k = 14 ∨ k = 15 ∨ k = 16 := by simp [okType] at h; omega
  clear h
  rcases hk with rfl | rfl | rfl | rfl | rfl | rfl | rfl | rfl | rfl | rfl | rfl | rfl | rfl | rfl | rfl | rfl
  · go_enter Tryz.func75, Tryz.ntmps75
    go_wp2_with (first | (go_at_call 13; refine (r18check_yes _ _ _ HOK.out).mono ?_; rintro e w1 ⟨rfl, hb1⟩; have hB1 := Aside.mk ((below_new w _).trans (hb1.mono (by simp))); have hz := hb1.size; simp only [World.size_alloc] at hz; have c10 := cell_kept hb1 0; have c11 := cell_kept hb1 1; have f10 := frozen_kept hb1 0; have f11 := frozen_kept hb1 1; simp at c10 c11) | (go_at_call 62; refine (worded_any _ _ _).mono ?_; rintro e w2 ⟨rfl, hb2⟩; have hB2 := Aside.mk (hB1.out.trans (hb2.mono hB1.out.size)); have hz2 := hb2.size; have c20 := (hb2.cell (p := ⟨w.heap.size, 0, none⟩) (by show w.heap.size < _; omega)).trans c10; have f20 := (hb2.frozen (p := ⟨w.heap.size, 0, none⟩) (by show w.heap.size < _; omega)).trans f10; have c21 := (hb2.cell (p := ⟨w.heap.size, 1, none⟩) (by show w.heap.size < _; omega)).trans c11; have f21 := (hb2.frozen (p := ⟨w.heap.size, 1, none⟩) (by show w.heap.size < _; omega)).trans f11) | (go_at_call 146; refine (r5fits_yes _ _ h0 h1 _ (by omega)).mono ?_; rintro e w3 ⟨rfl, hb3⟩; have hB3 := Aside.mk (hB2.out.trans (hb3.mono hB2.out.size))))
    go_ret
    exact ⟨by rw [HF.out]; rfl, hB3.out⟩
  · go_enter Tryz.func75, Tryz.ntmps75
    go_wp2_with (first | (go_at_call 13; refine (r18check_yes _ _ _ HOK.out).mono ?_; rintro e w1 ⟨rfl, hb1⟩; have hB1 := Aside.mk ((below_new w _).trans (hb1.mono (by simp))); have hz := hb1.size; simp only [World.size_alloc] at hz; have c10 := cell_kept hb1 0; have c11 := cell_kept hb1 1; have f10 := frozen_kept hb1 0; have f11 := frozen_kept hb1 1; simp at c10 c11) | (go_at_call 62; refine (worded_any _ _ _).mono ?_; rintro e w2 ⟨rfl, hb2⟩; have hB2 := Aside.mk (hB1.out.trans (hb2.mono hB1.out.size)); have hz2 := hb2.size; have c20 := (hb2.cell (p := ⟨w.heap.size, 0, none⟩) (by show w.heap.size < _; omega)).trans c10; have f20 := (hb2.frozen (p := ⟨w.heap.size, 0, none⟩) (by show w.heap.size < _; omega)).trans f10; have c21 := (hb2.cell (p := ⟨w.heap.size, 1, none⟩) (by show w.heap.size < _; omega)).trans c11; have f21 := (hb2.frozen (p := ⟨w.heap.size, 1, none⟩) (by show w.heap.size < _; omega)).trans f11) | (go_at_call 146; refine (r5fits_yes _ _ h0 h1 _ (by omega)).mono ?_; rintro e w3 ⟨rfl, hb3⟩; have hB3 := Aside.mk (hB2.out.trans (hb3.mono hB2.out.size))))
    go_ret
    exact ⟨by rw [HF.out]; rfl, hB3.out⟩
  · go_enter Tryz.func75, Tryz.ntmps75
    go_wp2_with (first | (go_at_call 13; refine (r18check_yes _ _ _ HOK.out).mono ?_; rintro e w1 ⟨rfl, hb1⟩; have hB1 := Aside.mk ((below_new w _).trans (hb1.mono (by simp))); have hz := hb1.size; simp only [World.size_alloc] at hz; have c10 := cell_kept hb1 0; have c11 := cell_kept hb1 1; have f10 := frozen_kept hb1 0; have f11 := frozen_kept hb1 1; simp at c10 c11) | (go_at_call 62; refine (worded_any _ _ _).mono ?_; rintro e w2 ⟨rfl, hb2⟩; have hB2 := Aside.mk (hB1.out.trans (hb2.mono hB1.out.size)); have hz2 := hb2.size; have c20 := (hb2.cell (p := ⟨w.heap.size, 0, none⟩) (by show w.heap.size < _; omega)).trans c10; have f20 := (hb2.frozen (p := ⟨w.heap.size, 0, none⟩) (by show w.heap.size < _; omega)).trans f10; have c21 := (hb2.cell (p := ⟨w.heap.size, 1, none⟩) (by show w.heap.size < _; omega)).trans c11; have f21 := (hb2.frozen (p := ⟨w.heap.size, 1, none⟩) (by show w.heap.size < _; omega)).trans f11) | (go_at_call 146; refine (r5fits_yes _ _ h0 h1 _ (by omega)).mono ?_; rintro e w3 ⟨rfl, hb3⟩; have hB3 := Aside.mk (hB2.out.trans (hb3.mono hB2.out.size))))
    go_ret
    exact ⟨by rw [HF.out]; rfl, hB3.out⟩
  · go_enter Tryz.func75, Tryz.ntmps75
    go_wp2_with (first | (go_at_call 13; refine (r18check_yes _ _ _ HOK.out).mono ?_; rintro e w1 ⟨rfl, hb1⟩; have hB1 := Aside.mk ((below_new w _).trans (hb1.mono (by simp))); have hz := hb1.size; simp only [World.size_alloc] at hz; have c10 := cell_kept hb1 0; have c11 := cell_kept hb1 1; have f10 := frozen_kept hb1 0; have f11 := frozen_kept hb1 1; simp at c10 c11) | (go_at_call 62; refine (worded_any _ _ _).mono ?_; rintro e w2 ⟨rfl, hb2⟩; have hB2 := Aside.mk (hB1.out.trans (hb2.mono hB1.out.size)); have hz2 := hb2.size; have c20 := (hb2.cell (p := ⟨w.heap.size, 0, none⟩) (by show w.heap.size < _; omega)).trans c10; have f20 := (hb2.frozen (p := ⟨w.heap.size, 0, none⟩) (by show w.heap.size < _; omega)).trans f10; have c21 := (hb2.cell (p := ⟨w.heap.size, 1, none⟩) (by show w.heap.size < _; omega)).trans c11; have f21 := (hb2.frozen (p := ⟨w.heap.size, 1, none⟩) (by show w.heap.size < _; omega)).trans f11) | (go_at_call 146; refine (r5fits_yes _ _ h0 h1 _ (by omega)).mono ?_; rintro e w3 ⟨rfl, hb3⟩; have hB3 := Aside.mk (hB2.out.trans (hb3.mono hB2.out.size))))
    go_ret
    exact ⟨by rw [HF.out]; rfl, hB3.out⟩
  · go_enter Tryz.func75, Tryz.ntmps75
    go_wp2_with (first | (go_at_call 13; refine (r18check_yes _ _ _ HOK.out).mono ?_; rintro e w1 ⟨rfl, hb1⟩; have hB1 := Aside.mk ((below_new w _).trans (hb1.mono (by simp))); have hz := hb1.size; simp only [World.size_alloc] at hz; have c10 := cell_kept hb1 0; have c11 := cell_kept hb1 1; have f10 := frozen_kept hb1 0; have f11 := frozen_kept hb1 1; simp at c10 c11) | (go_at_call 62; refine (worded_any _ _ _).mono ?_; rintro e w2 ⟨rfl, hb2⟩; have hB2 := Aside.mk (hB1.out.trans (hb2.mono hB1.out.size)); have hz2 := hb2.size; have c20 := (hb2.cell (p := ⟨w.heap.size, 0, none⟩) (by show w.heap.size < _; omega)).trans c10; have f20 := (hb2.frozen (p := ⟨w.heap.size, 0, none⟩) (by show w.heap.size < _; omega)).trans f10; have c21 := (hb2.cell (p := ⟨w.heap.size, 1, none⟩) (by show w.heap.size < _; omega)).trans c11; have f21 := (hb2.frozen (p := ⟨w.heap.size, 1, none⟩) (by show w.heap.size < _; omega)).trans f11) | (go_at_call 146; refine (r5fits_yes _ _ h0 h1 _ (by omega)).mono ?_; rintro e w3 ⟨rfl, hb3⟩; have hB3 := Aside.mk (hB2.out.trans (hb3.mono hB2.out.size))))
    go_ret
    exact ⟨by rw [HF.out]; rfl, hB3.out⟩
  · go_enter Tryz.func75, Tryz.ntmps75
    go_wp2_with (first | (go_at_call 13; refine (r18check_yes _ _ _ HOK.out).mono ?_; rintro e w1 ⟨rfl, hb1⟩; have hB1 := Aside.mk ((below_new w _).trans (hb1.mono (by simp))); have hz := hb1.size; simp only [World.size_alloc] at hz; have c10 := cell_kept hb1 0; have c11 := cell_kept hb1 1; have f10 := frozen_kept hb1 0; have f11 := frozen_kept hb1 1; simp at c10 c11) | (go_at_call 62; refine (worded_any _ _ _).mono ?_; rintro e w2 ⟨rfl, hb2⟩; have hB2 := Aside.mk (hB1.out.trans (hb2.mono hB1.out.size)); have hz2 := hb2.size; have c20 := (hb2.cell (p := ⟨w.heap.size, 0, none⟩) (by show w.heap.size < _; omega)).trans c10; have f20 := (hb2.frozen (p := ⟨w.heap.size, 0, none⟩) (by show w.heap.size < _; omega)).trans f10; have c21 := (hb2.cell (p := ⟨w.heap.size, 1, none⟩) (by show w.heap.size < _; omega)).trans c11; have f21 := (hb2.frozen (p := ⟨w.heap.size, 1, none⟩) (by show w.heap.size < _; omega)).trans f11) | (go_at_call 146; refine (r5fits_yes _ _ h0 h1 _ (by omega)).mono ?_; rintro e w3 ⟨rfl, hb3⟩; have hB3 := Aside.mk (hB2.out.trans (hb3.mono hB2.out.size))))
    go_ret
    exact ⟨by rw [HF.out]; rfl, hB3.out⟩
  · go_enter Tryz.func75, Tryz.ntmps75
    go_wp2_with (first | (go_at_call 13; refine (r18check_yes _ _ _ HOK.out).mono ?_; rintro e w1 ⟨rfl, hb1⟩; have hB1 := Aside.mk ((below_new w _).trans (hb1.mono (by simp))); have hz := hb1.size; simp only [World.size_alloc] at hz; have c10 := cell_kept hb1 0; have c11 := cell_kept hb1 1; have f10 := frozen_kept hb1 0; have f11 := frozen_kept hb1 1; simp at c10 c11) | (go_at_call 62; refine (worded_any _ _ _).mono ?_; rintro e w2 ⟨rfl, hb2⟩; have hB2 := Aside.mk (hB1.out.trans (hb2.mono hB1.out.size)); have hz2 := hb2.size; have c20 := (hb2.cell (p := ⟨w.heap.size, 0, none⟩) (by show w.heap.size < _; omega)).trans c10; have f20 := (hb2.frozen (p := ⟨w.heap.size, 0, none⟩) (by show w.heap.size < _; omega)).trans f10; have c21 := (hb2.cell (p := ⟨w.heap.size, 1, none⟩) (by show w.heap.size < _; omega)).trans c11; have f21 := (hb2.frozen (p := ⟨w.heap.size, 1, none⟩) (by show w.heap.size < _; omega)).trans f11) | (go_at_call 146; refine (r5fits_yes _ _ h0 h1 _ (by omega)).mono ?_; rintro e w3 ⟨rfl, hb3⟩; have hB3 := Aside.mk (hB2.out.trans (hb3.mono hB2.out.size))))
    go_ret
    exact ⟨by rw [HF.out]; rfl, hB3.out⟩
  · go_enter Tryz.func75, Tryz.ntmps75
    go_wp2_with (first | (go_at_call 13; refine (r18check_yes _ _ _ HOK.out).mono ?_; rintro e w1 ⟨rfl, hb1⟩; have hB1 := Aside.mk ((below_new w _).trans (hb1.mono (by simp))); have hz := hb1.size; simp only [World.size_alloc] at hz; have c10 := cell_kept hb1 0; have c11 := cell_kept hb1 1; have f10 := frozen_kept hb1 0; have f11 := frozen_kept hb1 1; simp at c10 c11) | (go_at_call 62; refine (worded_any _ _ _).mono ?_; rintro e w2 ⟨rfl, hb2⟩; have hB2 := Aside.mk (hB1.out.trans (hb2.mono hB1.out.size)); have hz2 := hb2.size; have c20 := (hb2.cell (p := ⟨w.heap.size, 0, none⟩) (by show w.heap.size < _; omega)).trans c10; have f20 := (hb2.frozen (p := ⟨w.heap.size, 0, none⟩) (by show w.heap.size < _; omega)).trans f10; have c21 := (hb2.cell (p := ⟨w.heap.size, 1, none⟩) (by show w.heap.size < _; omega)).trans c11; have f21 := (hb2.frozen (p := ⟨w.heap.size, 1, none⟩) (by show w.heap.size < _; omega)).trans f11) | (go_at_call 146; refine (r5fits_yes _ _ h0 h1 _ (by omega)).mono ?_; rintro e w3 ⟨rfl, hb3⟩; have hB3 := Aside.mk (hB2.out.trans (hb3.mono hB2.out.size))))
    go_ret
    exact ⟨by rw [HF.out]; rfl, hB3.out⟩
  · by_cases hlt : b < 4294967296
    case neg =>
      have HL : Aside (bitsOK 9 b = false) := ⟨by simp [bitsOK, f32OK, hlt]⟩
      have hge : 4294967296 ≤ b := by omega
      clear hlt
      go_enter Tryz.func75, Tryz.ntmps75
      go_wp2_with (first | (go_at_call 13; refine (r18check_yes _ _ _ HOK.out).mono ?_; rintro e w1 ⟨rfl, hb1⟩; have hB1 := Aside.mk ((below_new w _).trans (hb1.mono (by simp))); have hz := hb1.size; simp only [World.size_alloc] at hz; have c10 := cell_kept hb1 0; have c11 := cell_kept hb1 1; have f10 := frozen_kept hb1 0; have f11 := frozen_kept hb1 1; simp at c10 c11) | (go_at_call 62; refine (worded_any _ _ _).mono ?_; rintro e w2 ⟨rfl, hb2⟩; have hB2 := Aside.mk (hB1.out.trans (hb2.mono hB1.out.size)); have hz2 := hb2.size; have c20 := (hb2.cell (p := ⟨w.heap.size, 0, none⟩) (by show w.heap.size < _; omega)).trans c10; have f20 := (hb2.frozen (p := ⟨w.heap.size, 0, none⟩) (by show w.heap.size < _; omega)).trans f10; have c21 := (hb2.cell (p := ⟨w.heap.size, 1, none⟩) (by show w.heap.size < _; omega)).trans c11; have f21 := (hb2.frozen (p := ⟨w.heap.size, 1, none⟩) (by show w.heap.size < _; omega)).trans f11) | (go_at_call 104; refine (r3class_32_no _ hge _).mono ?_; rintro e w3 ⟨rfl, rfl⟩) | (go_at_call 142; refine (r3nan_32 _).mono ?_; rintro e w4 ⟨rfl, rfl⟩))
      go_ret
      exact ⟨by rw [HF.out, HL.out]; rfl, hB2.out⟩
    have HL : Aside (bitsOK 9 b = (!nan32 b || b == 2143289344)) := ⟨by simp [bitsOK, f32OK, hlt]⟩
    cases hn : nan32 b
    all_goals
      cases he : (b == 2143289344)
      all_goals
        rw [hn, he] at HL
        have HN := Aside.mk hn
        clear hn
        go_enter Tryz.func75, Tryz.ntmps75
        go_wp2_with (first | (go_at_call 13; refine (r18check_yes _ _ _ HOK.out).mono ?_; rintro e w1 ⟨rfl, hb1⟩; have hB1 := Aside.mk ((below_new w _).trans (hb1.mono (by simp))); have hz := hb1.size; simp only [World.size_alloc] at hz; have c10 := cell_kept hb1 0; have c11 := cell_kept hb1 1; have f10 := frozen_kept hb1 0; have f11 := frozen_kept hb1 1; simp at c10 c11) | (go_at_call 62; refine (worded_any _ _ _).mono ?_; rintro e w2 ⟨rfl, hb2⟩; have hB2 := Aside.mk (hB1.out.trans (hb2.mono hB1.out.size)); have hz2 := hb2.size; have c20 := (hb2.cell (p := ⟨w.heap.size, 0, none⟩) (by show w.heap.size < _; omega)).trans c10; have f20 := (hb2.frozen (p := ⟨w.heap.size, 0, none⟩) (by show w.heap.size < _; omega)).trans f10; have c21 := (hb2.cell (p := ⟨w.heap.size, 1, none⟩) (by show w.heap.size < _; omega)).trans c11; have f21 := (hb2.frozen (p := ⟨w.heap.size, 1, none⟩) (by show w.heap.size < _; omega)).trans f11) | (go_at_call 104; refine (r3c_32 _ h0 hlt _).mono ?_; rw [HN.out]; rintro e w3 ⟨c, rfl, hc5, hb3⟩; (first | (obtain rfl := eq_of_beq hc5) | (have hc6 : (c != 5) = true := bne_of hc5; have hc7 : ¬ c = 5 := ne_of_beq_false hc5)); have hB3 := Aside.mk (hB2.out.trans (hb3.mono hB2.out.size)); have hz3 := hb3.size; have c30 := (hb3.cell (p := ⟨w.heap.size, 0, none⟩) (by show w.heap.size < _; omega)).trans c20; have f30 := (hb3.frozen (p := ⟨w.heap.size, 0, none⟩) (by show w.heap.size < _; omega)).trans f20; have c31 := (hb3.cell (p := ⟨w.heap.size, 1, none⟩) (by show w.heap.size < _; omega)).trans c21; have f31 := (hb3.frozen (p := ⟨w.heap.size, 1, none⟩) (by show w.heap.size < _; omega)).trans f21) | (go_at_call 142; refine (r3nan_32 _).mono ?_; rintro e w4 ⟨rfl, rfl⟩))
        go_ret
        exact ⟨by rw [HF.out, HL.out]; rfl, hB3.out⟩
  · have HL : Aside (bitsOK 10 b = (!nan64 b || b == 9221120237041090560)) := ⟨by simp [bitsOK, f64OK]⟩
    cases hn : nan64 b
    all_goals
      cases he : (b == 9221120237041090560)
      all_goals
        rw [hn, he] at HL
        have HN := Aside.mk hn
        clear hn
        go_enter Tryz.func75, Tryz.ntmps75
        go_wp2_with (first | (go_at_call 13; refine (r18check_yes _ _ _ HOK.out).mono ?_; rintro e w1 ⟨rfl, hb1⟩; have hB1 := Aside.mk ((below_new w _).trans (hb1.mono (by simp))); have hz := hb1.size; simp only [World.size_alloc] at hz; have c10 := cell_kept hb1 0; have c11 := cell_kept hb1 1; have f10 := frozen_kept hb1 0; have f11 := frozen_kept hb1 1; simp at c10 c11) | (go_at_call 62; refine (worded_any _ _ _).mono ?_; rintro e w2 ⟨rfl, hb2⟩; have hB2 := Aside.mk (hB1.out.trans (hb2.mono hB1.out.size)); have hz2 := hb2.size; have c20 := (hb2.cell (p := ⟨w.heap.size, 0, none⟩) (by show w.heap.size < _; omega)).trans c10; have f20 := (hb2.frozen (p := ⟨w.heap.size, 0, none⟩) (by show w.heap.size < _; omega)).trans f10; have c21 := (hb2.cell (p := ⟨w.heap.size, 1, none⟩) (by show w.heap.size < _; omega)).trans c11; have f21 := (hb2.frozen (p := ⟨w.heap.size, 1, none⟩) (by show w.heap.size < _; omega)).trans f11) | (go_at_call 104; refine (r3c_64 _ h0 h1 _).mono ?_; rw [HN.out]; rintro e w3 ⟨c, rfl, hc5, hb3⟩; (first | (obtain rfl := eq_of_beq hc5) | (have hc6 : (c != 5) = true := bne_of hc5; have hc7 : ¬ c = 5 := ne_of_beq_false hc5)); have hB3 := Aside.mk (hB2.out.trans (hb3.mono hB2.out.size)); have hz3 := hb3.size; have c30 := (hb3.cell (p := ⟨w.heap.size, 0, none⟩) (by show w.heap.size < _; omega)).trans c20; have f30 := (hb3.frozen (p := ⟨w.heap.size, 0, none⟩) (by show w.heap.size < _; omega)).trans f20; have c31 := (hb3.cell (p := ⟨w.heap.size, 1, none⟩) (by show w.heap.size < _; omega)).trans c21; have f31 := (hb3.frozen (p := ⟨w.heap.size, 1, none⟩) (by show w.heap.size < _; omega)).trans f21) | (go_at_call 142; refine (r3nan_64 _).mono ?_; rintro e w4 ⟨rfl, rfl⟩))
        go_ret
        exact ⟨by rw [HF.out, HL.out]; rfl, hB3.out⟩
  · go_enter Tryz.func75, Tryz.ntmps75
    go_wp2_with (first | (go_at_call 13; refine (r18check_yes _ _ _ HOK.out).mono ?_; rintro e w1 ⟨rfl, hb1⟩; have hB1 := Aside.mk ((below_new w _).trans (hb1.mono (by simp))); have hz := hb1.size; simp only [World.size_alloc] at hz; have c10 := cell_kept hb1 0; have c11 := cell_kept hb1 1; have f10 := frozen_kept hb1 0; have f11 := frozen_kept hb1 1; simp at c10 c11) | (go_at_call 62; refine (worded_any _ _ _).mono ?_; rintro e w2 ⟨rfl, hb2⟩; have hB2 := Aside.mk (hB1.out.trans (hb2.mono hB1.out.size)); have hz2 := hb2.size; have c20 := (hb2.cell (p := ⟨w.heap.size, 0, none⟩) (by show w.heap.size < _; omega)).trans c10; have f20 := (hb2.frozen (p := ⟨w.heap.size, 0, none⟩) (by show w.heap.size < _; omega)).trans f10; have c21 := (hb2.cell (p := ⟨w.heap.size, 1, none⟩) (by show w.heap.size < _; omega)).trans c11; have f21 := (hb2.frozen (p := ⟨w.heap.size, 1, none⟩) (by show w.heap.size < _; omega)).trans f11))
    go_ret
    exact ⟨by rw [HF.out]; exact ret_bool (by simp [bitsOK]), hB2.out⟩
  · cases hd : decOK b
    all_goals
      have HD := Aside.mk hd
      clear hd
      go_enter Tryz.func75, Tryz.ntmps75
      go_wp2_with (first | (go_at_call 13; refine (r18check_yes _ _ _ HOK.out).mono ?_; rintro e w1 ⟨rfl, hb1⟩; have hB1 := Aside.mk ((below_new w _).trans (hb1.mono (by simp))); have hz := hb1.size; simp only [World.size_alloc] at hz; have c10 := cell_kept hb1 0; have c11 := cell_kept hb1 1; have f10 := frozen_kept hb1 0; have f11 := frozen_kept hb1 1; simp at c10 c11) | (go_at_call 62; refine (worded_any _ _ _).mono ?_; rintro e w2 ⟨rfl, hb2⟩; have hB2 := Aside.mk (hB1.out.trans (hb2.mono hB1.out.size)); have hz2 := hb2.size; have c20 := (hb2.cell (p := ⟨w.heap.size, 0, none⟩) (by show w.heap.size < _; omega)).trans c10; have f20 := (hb2.frozen (p := ⟨w.heap.size, 0, none⟩) (by show w.heap.size < _; omega)).trans f10; have c21 := (hb2.cell (p := ⟨w.heap.size, 1, none⟩) (by show w.heap.size < _; omega)).trans c11; have f21 := (hb2.frozen (p := ⟨w.heap.size, 1, none⟩) (by show w.heap.size < _; omega)).trans f11) | (go_at_call 143; refine (r12fits_any _ h0 h1 _).mono ?_; unfold R12P; rw [HD.out]; rintro e w3 ⟨v, n, rfl, rfl⟩))
      go_ret
      exact ⟨by rw [HF.out]; simp [bitsOK, HD.out], hB2.out⟩
  · cases hd : dayOK b
    all_goals
      have HD := Aside.mk hd
      clear hd
      go_enter Tryz.func75, Tryz.ntmps75
      go_wp2_with (first | (go_at_call 13; refine (r18check_yes _ _ _ HOK.out).mono ?_; rintro e w1 ⟨rfl, hb1⟩; have hB1 := Aside.mk ((below_new w _).trans (hb1.mono (by simp))); have hz := hb1.size; simp only [World.size_alloc] at hz; have c10 := cell_kept hb1 0; have c11 := cell_kept hb1 1; have f10 := frozen_kept hb1 0; have f11 := frozen_kept hb1 1; simp at c10 c11) | (go_at_call 62; refine (worded_any _ _ _).mono ?_; rintro e w2 ⟨rfl, hb2⟩; have hB2 := Aside.mk (hB1.out.trans (hb2.mono hB1.out.size)); have hz2 := hb2.size; have c20 := (hb2.cell (p := ⟨w.heap.size, 0, none⟩) (by show w.heap.size < _; omega)).trans c10; have f20 := (hb2.frozen (p := ⟨w.heap.size, 0, none⟩) (by show w.heap.size < _; omega)).trans f10; have c21 := (hb2.cell (p := ⟨w.heap.size, 1, none⟩) (by show w.heap.size < _; omega)).trans c11; have f21 := (hb2.frozen (p := ⟨w.heap.size, 1, none⟩) (by show w.heap.size < _; omega)).trans f11) | (go_at_call 144; refine (r13isDay_any _ _).mono ?_; unfold WhenP; rw [HD.out]; rintro e w3 ⟨v, rfl, rfl⟩))
      go_ret
      exact ⟨by rw [HF.out]; simp [bitsOK, HD.out], hB2.out⟩
  · cases hd : momOK b
    all_goals
      have HD := Aside.mk hd
      clear hd
      go_enter Tryz.func75, Tryz.ntmps75
      go_wp2_with (first | (go_at_call 13; refine (r18check_yes _ _ _ HOK.out).mono ?_; rintro e w1 ⟨rfl, hb1⟩; have hB1 := Aside.mk ((below_new w _).trans (hb1.mono (by simp))); have hz := hb1.size; simp only [World.size_alloc] at hz; have c10 := cell_kept hb1 0; have c11 := cell_kept hb1 1; have f10 := frozen_kept hb1 0; have f11 := frozen_kept hb1 1; simp at c10 c11) | (go_at_call 62; refine (worded_any _ _ _).mono ?_; rintro e w2 ⟨rfl, hb2⟩; have hB2 := Aside.mk (hB1.out.trans (hb2.mono hB1.out.size)); have hz2 := hb2.size; have c20 := (hb2.cell (p := ⟨w.heap.size, 0, none⟩) (by show w.heap.size < _; omega)).trans c10; have f20 := (hb2.frozen (p := ⟨w.heap.size, 0, none⟩) (by show w.heap.size < _; omega)).trans f10; have c21 := (hb2.cell (p := ⟨w.heap.size, 1, none⟩) (by show w.heap.size < _; omega)).trans c11; have f21 := (hb2.frozen (p := ⟨w.heap.size, 1, none⟩) (by show w.heap.size < _; omega)).trans f11) | (go_at_call 145; refine (r13isMoment_any _ _).mono ?_; unfold WhenP; rw [HD.out]; rintro e w3 ⟨v, rfl, rfl⟩))
      go_ret
      exact ⟨by rw [HF.out]; simp [bitsOK, HD.out], hB2.out⟩
  · go_enter Tryz.func75, Tryz.ntmps75
    go_wp2_with (first | (go_at_call 13; refine (r18check_yes _ _ _ HOK.out).mono ?_; rintro e w1 ⟨rfl, hb1⟩; have hB1 := Aside.mk ((below_new w _).trans (hb1.mono (by simp))); have hz := hb1.size; simp only [World.size_alloc] at hz; have c10 := cell_kept hb1 0; have c11 := cell_kept hb1 1; have f10 := frozen_kept hb1 0; have f11 := frozen_kept hb1 1; simp at c10 c11) | (go_at_call 62; refine (worded_any _ _ _).mono ?_; rintro e w2 ⟨rfl, hb2⟩; have hB2 := Aside.mk (hB1.out.trans (hb2.mono hB1.out.size)); have hz2 := hb2.size; have c20 := (hb2.cell (p := ⟨w.heap.size, 0, none⟩) (by show w.heap.size < _; omega)).trans c10; have f20 := (hb2.frozen (p := ⟨w.heap.size, 0, none⟩) (by show w.heap.size < _; omega)).trans f10; have c21 := (hb2.cell (p := ⟨w.heap.size, 1, none⟩) (by show w.heap.size < _; omega)).trans c11; have f21 := (hb2.frozen (p := ⟨w.heap.size, 1, none⟩) (by show w.heap.size < _; omega)).trans f11))
    go_ret
    exact ⟨by rw [HF.out]; rfl, hB2.out⟩
  · go_enter Tryz.func75, Tryz.ntmps75
    go_wp2_with (first | (go_at_call 13; refine (r18check_yes _ _ _ HOK.out).mono ?_; rintro e w1 ⟨rfl, hb1⟩; have hB1 := Aside.mk ((below_new w _).trans (hb1.mono (by simp))); have hz := hb1.size; simp only [World.size_alloc] at hz; have c10 := cell_kept hb1 0; have c11 := cell_kept hb1 1; have f10 := frozen_kept hb1 0; have f11 := frozen_kept hb1 1; simp at c10 c11) | (go_at_call 62; refine (worded_any _ _ _).mono ?_; rintro e w2 ⟨rfl, hb2⟩; have hB2 := Aside.mk (hB1.out.trans (hb2.mono hB1.out.size)); have hz2 := hb2.size; have c20 := (hb2.cell (p := ⟨w.heap.size, 0, none⟩) (by show w.heap.size < _; omega)).trans c10; have f20 := (hb2.frozen (p := ⟨w.heap.size, 0, none⟩) (by show w.heap.size < _; omega)).trans f10; have c21 := (hb2.cell (p := ⟨w.heap.size, 1, none⟩) (by show w.heap.size < _; omega)).trans c11; have f21 := (hb2.frozen (p := ⟨w.heap.size, 1, none⟩) (by show w.heap.size < _; omega)).trans f11))
    go_ret
    exact ⟨by rw [HF.out]; rfl, hB2.out⟩
theorem r18fits_any (k s b : Int) (h0 : 0 ≤ b) (h1 : b ≤ 18446744073709551615) (w : World) : Calls Tryz.prog 75 #[.agg #[.int .i64 k, .int .i64 s], .int .u64 b] w (FitsP (fitsB k s b) w) := by
  cases h : okType k s
  · exact r18fits_no k s b w h
  · exact r18fits_yes k s b h0 h1 w h
theorem fits_any (k s b : Int) (h0 : 0 ≤ b) (h1 : b ≤ 18446744073709551615) (w : World) : Calls Tryz.prog 74 #[.agg #[.int .i64 k, .int .i64 s], .int .u64 b] w (FitsP (fitsB k s b) w) := by
  cases h : okType k s
  · exact fits_no k s b w h
  · exact fits_yes k s b h0 h1 w h
end Go.Proofs.YtmhjjhaipcgbiaaGreat


namespace Go.Proofs.YtmhjjhaipcgbiaaGreat
open Go.RowKit Go.Maps
set_option linter.unusedVariables false
set_option linter.unusedSimpArgs false
set_option maxRecDepth 100000
set_option maxHeartbeats 1000000
def IsBytes (t : List Int) : Prop := ∀ x ∈ t, 0 ≤ x ∧ x < 256
theorem map_byte_inj : ∀ (a b : List Int), IsBytes a → IsBytes b → (a.map fun n => UInt8.ofNat n.toNat) = (b.map fun n => UInt8.ofNat n.toNat) → a = b
  | [], [], _, _, _ => rfl
  | [], _ :: _, _, _, h => by simp at h
  | _ :: _, [], _, _, h => by simp at h
  | x :: a, y :: b, ha, hb, h => by
    simp only [List.map_cons, List.cons.injEq] at h
    have hx := ha x (List.mem_cons_self ..)
    have hy := hb y (List.mem_cons_self ..)
    have e : x.toNat = y.toNat := by
      have := congrArg UInt8.toNat h.1
      simp only [UInt8.toNat_ofNat'] at this
      rw [Nat.mod_eq_of_lt (by omega), Nat.mod_eq_of_lt (by omega)] at this
      exact this
    rw [map_byte_inj a b (fun z hz => ha z (List.mem_cons_of_mem _ hz)) (fun z hz => hb z (List.mem_cons_of_mem _ hz)) h.2]
    congr 1
    omega
def wordKey (t : List Int) : Lit := .string (strOfNums t).data.toList
theorem wordKey_inj {a b : List Int} (ha : IsBytes a) (hb : IsBytes b) (h : wordKey a = wordKey b) : a = b := by
  simp only [wordKey, Lit.string.injEq, strOfNums_data] at h
  exact map_byte_inj a b ha hb h
theorem wordKey_key (t : List Int) (h : t.length ≤ maxLen) : keyOf Tryz.prog 9 (.string (strOfNums t)) = some (wordKey t) :=
  WideMaps.keyOf_string_mk Tryz.underlying9 (by rw [strOfNums_size]; exact h)
theorem wordKey_isKey (t : List Int) : WideAt.IsKeyLit (wordKey t) := trivial
def codesOK (D : DataW Unit) (ws : List (List Int)) : Prop :=
  (∀ t, IsBytes t → Maps.has D (wordKey t) = ws.contains t) ∧ ∀ (i : Nat) t, ws[i]? = some t → D.atKey (wordKey t) (.lit (.int .i64 0)) = .lit (.int .i64 (i : Int))
theorem codesOK_nil : codesOK (.map []) [] := ⟨fun t _ => by simp [Maps.has], fun i t h => by simp at h⟩
theorem codesOK_put {D : DataW Unit} {ws : List (List Int)} (h : codesOK D ws) (hm : IsMap D) (hb : ∀ t ∈ ws, IsBytes t) {t : List Int} (ht : IsBytes t) (hn : ws.contains t = false) :
    codesOK (D.put (wordKey t) (.lit (.int .i64 (ws.length : Int)))) (ws ++ [t]) := by
  constructor
  · intro u hu
    by_cases e : u = t
    · subst e
      rw [has_put_same hm (wordKey_isKey _)]
      simp
    · rw [has_put_other (fun e' => e (wordKey_inj hu ht e')), h.1 u hu]
      simp [e]
  · intro i u hi
    rcases Nat.lt_or_ge i ws.length with hl | hl
    · rw [List.getElem?_append_left hl] at hi
      have hu := List.mem_of_getElem? hi
      have e : u ≠ t := by
        rintro rfl
        simp at hn
        exact hn hu
      rw [atKey_put_other (fun e' => e (wordKey_inj (hb u hu) ht e')), h.2 i u hi]
    · rw [List.getElem?_append_right hl] at hi
      have h0 : i - ws.length = 0 := by
        have := (List.getElem?_eq_some_iff.1 hi).1
        simp at this
        omega
      rw [h0] at hi
      simp at hi
      subst hi
      rw [atKey_put_same hm (wordKey_isKey _)]
      congr 2
      omega
def codeOf (ws : List (List Int)) (t : List Int) : Nat := ws.idxOf t
def addWord (ws : List (List Int)) (t : List Int) : List (List Int) := if ws.contains t then ws else ws ++ [t]
theorem addWord_old {ws : List (List Int)} {t : List Int} (h : ws.contains t = true) : addWord ws t = ws := by rw [addWord, if_pos h]
theorem addWord_new {ws : List (List Int)} {t : List Int} (h : ws.contains t = false) : addWord ws t = ws ++ [t] := by rw [addWord, if_neg (by rw [h]; decide)]
theorem codeOf_new {ws : List (List Int)} {t : List Int} (h : ws.contains t = false) : codeOf ws t = ws.length := by
  simp at h
  exact List.idxOf_eq_length h
theorem codeOf_get {ws : List (List Int)} {t : List Int} (h : ws.contains t = true) : ws[codeOf ws t]? = some t := by
  simp at h
  have hl := List.idxOf_lt_length_iff.2 h
  rw [codeOf, List.getElem?_eq_getElem hl]
  simp
theorem codeOf_le (ws : List (List Int)) (t : List Int) : codeOf ws t ≤ ws.length := List.idxOf_le_length
theorem addWord_nodup {ws : List (List Int)} (h : ws.Nodup) (t : List Int) : (addWord ws t).Nodup := by
  unfold addWord
  split
  · exact h
  · rename_i hc
    simp at hc
    rw [List.nodup_append]
    exact ⟨h, by simp, fun a ha b hb => by simp at hb; subst hb; rintro rfl; exact hc ha⟩
theorem addWord_bytes {ws : List (List Int)} (h : ∀ t ∈ ws, IsBytes t) {t : List Int} (ht : IsBytes t) : ∀ u ∈ addWord ws t, IsBytes u := by
  unfold addWord
  split
  · exact h
  · intro u hu
    rcases List.mem_append.1 hu with e | e
    · exact h u e
    · simp at e; subst e; exact ht
theorem addWord_len (ws : List (List Int)) (t : List Int) : (addWord ws t).length ≤ ws.length + 1 := by
  unfold addWord
  split <;> simp
def WRows (w : World) (T : Nat → Prop) (vals : List Value) (ws : List (List Int)) : Prop :=
  vals.length = ws.length ∧ ∀ (i : Nat) t, ws[i]? = some t → ∃ v, vals[i]? = some v ∧ Own w 0 5 1 v t.length (t.map (.int .u8)) ∧ ∀ b, v.ownBlock = some b → T b
structure WLx (w : World) (T : Nat → Prop) (lw : Nat) (ws : List (List Int)) (wv : Value) (mb : Nat) (vals : List Value) (D : DataW Unit) : Prop where
  blk : w.heap[lw]? = some (.cells #[wv, .map (some mb)] 212 (0, 0))
  map : ∃ n, w.ownsMap Tryz.prog 9 (plainElem Tryz.prog 3) mb n D ∧ n ≤ ws.length
  codes : codesOK D ws
  row : Own w 0 43 1 wv ws.length vals
  words : WRows w T vals ws
  tl : T lw
  tm : T mb
  tw : ∀ b, wv.ownBlock = some b → T b
  nodup : ws.Nodup
  bytes : ∀ t ∈ ws, IsBytes t
def WL (w : World) (T : Nat → Prop) (lw : Nat) (ws : List (List Int)) : Prop := ∃ wv mb vals D, WLx w T lw ws wv mb vals D
theorem WRows.kept {w w' : World} {S T : Nat → Prop} {vals : List Value} {ws : List (List Int)} (h : WRows w T vals ws) (hk : Kept S w w') (hS : ∀ b, T b → b < w.heap.size → ¬ S b) : WRows w' T vals ws :=
  ⟨h.1, fun i t hi => by
    obtain ⟨v, h1, h2, h3⟩ := h.2 i t hi
    exact ⟨v, h1, h2.kept hk (fun k e => hS k (h3 k e) (h2.lt k e).2), h3⟩⟩
theorem WRows.mono {w : World} {T T' : Nat → Prop} {vals : List Value} {ws : List (List Int)} (h : WRows w T vals ws) (hT : ∀ b, T b → b < w.heap.size → T' b) : WRows w T' vals ws :=
  ⟨h.1, fun i t hi => by
    obtain ⟨v, h1, h2, h3⟩ := h.2 i t hi
    exact ⟨v, h1, h2, fun b e => hT b (h3 b e) (h2.lt b e).2⟩⟩
theorem WLx.kept {w w' : World} {S T : Nat → Prop} {lw : Nat} {ws : List (List Int)} {wv : Value} {mb : Nat} {vals : List Value} {D : DataW Unit} (h : WLx w T lw ws wv mb vals D) (hk : Kept S w w') (hS : ∀ b, T b → b < w.heap.size → ¬ S b) : WLx w' T lw ws wv mb vals D := by
  obtain ⟨n, hm, hn⟩ := h.map
  have hml : mb < w.heap.size := by obtain ⟨es, c, hb, _⟩ := hm; exact lt_of_blk hb
  refine ⟨(hk.block _ (lt_of_blk h.blk) (hS _ h.tl (lt_of_blk h.blk))).trans h.blk, ⟨n, ?_, hn⟩, h.codes, h.row.kept hk (fun k e => hS k (h.tw k e) (h.row.lt k e).2), h.words.kept hk hS, h.tl, h.tm, h.tw, h.nodup, h.bytes⟩
  obtain ⟨es, c, hb, r⟩ := hm
  exact ⟨es, c, (hk.block _ hml (hS _ h.tm hml)).trans hb, r⟩
theorem WLx.mono {w : World} {T T' : Nat → Prop} {lw : Nat} {ws : List (List Int)} {wv : Value} {mb : Nat} {vals : List Value} {D : DataW Unit} (h : WLx w T lw ws wv mb vals D) (hT : ∀ b, T b → b < w.heap.size → T' b) : WLx w T' lw ws wv mb vals D := by
  obtain ⟨n, hm, hn⟩ := h.map
  have hml : mb < w.heap.size := by obtain ⟨es, c, hb, _⟩ := hm; exact lt_of_blk hb
  exact ⟨h.blk, ⟨n, hm, hn⟩, h.codes, h.row, h.words.mono hT, hT _ h.tl (lt_of_blk h.blk), hT _ h.tm hml, fun b e => hT b (h.tw b e) (h.row.lt b e).2, h.nodup, h.bytes⟩
theorem WL.kept {w w' : World} {S T : Nat → Prop} {lw : Nat} {ws : List (List Int)} (h : WL w T lw ws) (hk : Kept S w w') (hS : ∀ b, T b → b < w.heap.size → ¬ S b) : WL w' T lw ws := by
  obtain ⟨wv, mb, vals, D, h⟩ := h
  exact ⟨wv, mb, vals, D, h.kept hk hS⟩
theorem WL.mono {w : World} {T T' : Nat → Prop} {lw : Nat} {ws : List (List Int)} (h : WL w T lw ws) (hT : ∀ b, T b → b < w.heap.size → T' b) : WL w T' lw ws := by
  obtain ⟨wv, mb, vals, D, h⟩ := h
  exact ⟨wv, mb, vals, D, h.mono hT⟩
theorem WL.below {w w' : World} {T : Nat → Prop} {lw : Nat} {ws : List (List Int)} (h : WL w T lw ws) (hb : Below w.heap.size w w') : WL w' T lw ws :=
  h.kept (Kept.of_below (S := fun _ => False) hb) (fun _ _ _ e => e)
theorem WL.nodup {w : World} {T : Nat → Prop} {lw : Nat} {ws : List (List Int)} (h : WL w T lw ws) : ws.Nodup := by
  obtain ⟨wv, mb, vals, D, h⟩ := h
  exact h.nodup
theorem WL.bytes {w : World} {T : Nat → Prop} {lw : Nat} {ws : List (List Int)} (h : WL w T lw ws) : ∀ t ∈ ws, IsBytes t := by
  obtain ⟨wv, mb, vals, D, h⟩ := h
  exact h.bytes
theorem wl_new (w : World) : WL ((w.alloc (.map #[] 0)).alloc (.cells #[.slice none 0 0, .map (some w.heap.size)] 212)) (fun b => w.heap.size ≤ b) (w.heap.size + 1) [] := by
  refine ⟨.slice none 0 0, w.heap.size, [], .map [], ?_, ⟨0, ?_, Nat.le_refl _⟩, codesOK_nil, Own.nil _ _ _ _, ⟨rfl, (fun i t h => by simp at h)⟩, by simp, Nat.le_refl _, (fun b e => by cases e), List.nodup_nil, (fun t h => by cases h)⟩
  · have := heap_alloc_new (w.alloc (.map #[] 0)) (.cells #[.slice none 0 0, .map (some w.heap.size)] 212)
    simpa using this
  · exact (World.ownsMap_made w Tryz.prog 9 _).alloc _
end Go.Proofs.YtmhjjhaipcgbiaaGreat


namespace Go.Proofs.YtmhjjhaipcgbiaaGreat
open Go.RowKit
set_option linter.unusedVariables false
set_option linter.unusedSimpArgs false
set_option maxRecDepth 100000
set_option maxHeartbeats 1000000
theorem dictNew_any (w : World) : Calls Tryz.prog 71 #[] w fun e w' => e = .returned (.pointer (some ⟨w.heap.size + 1, 0, none⟩)) ∧ w' = (w.alloc (.map #[] 0)).alloc (.cells #[.slice none 0 0, .map (some w.heap.size)] 212) := by
  have hmm := @run_makeMap Tryz.prog
  go_enter Tryz.func71, Tryz.ntmps71
  go_wp2
  go_ret
  exact ⟨rfl, rfl⟩
structure IsB (w : World) (bl lw base : Nat) (k s : Int) (nulls : List Bool) (data : List Int) (ends : List Int) (nv dv ev : Value) : Prop where
  blk : w.heap[bl]? = some (.cells #[.int .i64 k, .int .i64 s, nv, dv, ev, .pointer (some ⟨lw, 0, none⟩)] 142 (0, 0))
  lst : ∃ mv : Value × Value, w.heap[lw]? = some (.cells #[mv.1, mv.2] 212 (0, 0))
  bbl : base ≤ bl
  blw : base ≤ lw
  nulls : Own w base 4 1 nv nulls.length (nulls.map .bool)
  data : Own w base 5 1 dv data.length (data.map (.int .u8))
  ends : Own w base 3 1 ev ends.length (ends.map (.int .i64))
theorem IsB.drewN {w : World} {bl lw base : Nat} {k s : Int} {nulls : List Bool} {data ends : List Int} {nv dv ev : Value} (h : IsB w bl lw base k s nulls data ends nv dv ev) (m : Nat) : IsB (w.drewN m) bl lw base k s nulls data ends nv dv ev :=
  ⟨h.blk, h.lst, h.bbl, h.blw, h.nulls, h.data, h.ends⟩
theorem own_ne_own {w : World} {b1 b2 : Nat} {E1 E2 : TypeId} {s1 s2 n1 n2 : Nat} {v1 v2 : Value} {x1 x2 : List Value} (h1 : Own w b1 E1 s1 v1 n1 x1) (h2 : Own w b2 E2 s2 v2 n2 x2) (hE : E1 ≠ E2) : ∀ k, v1.ownBlock = some k → v2.ownBlock ≠ some k := by
  intro k hk
  rcases h1.2 with ⟨rfl, _⟩ | ⟨g, off, cap, cur, rfl, _, hg, _⟩
  · cases hk
  · cases hk
    exact h2.blk_ne hg hE
theorem IsB.app_data {wr w5 : World} {bl lw base : Nat} {k s : Int} {nulls : List Bool} {data data' ends : List Int} {nv dv dv' ev : Value} (h : IsB wr bl lw base k s nulls data ends nv dv ev) (o : Obj) (hg : (wr.alloc o).grownBy w5 dv.ownBlock) (hown : Own w5 base 5 1 dv' data'.length (data'.map (.int .u8))) :
    IsB (w5.setCell ⟨bl, 3, none⟩ dv') bl lw base k s nulls data' ends nv dv' ev ∧ Kept (fun b => b = bl ∨ dv.ownBlock = some b) wr (w5.setCell ⟨bl, 3, none⟩ dv') := by
  have K1 : Kept (fun b => some b = dv.ownBlock) wr w5 := (Kept.of_below (below_new wr o)).trans (Kept.of_grown hg) (fun _ e _ => e)
  have hbl := lt_of_blk h.blk
  have nb : dv.ownBlock ≠ some bl := h.data.blk_ne h.blk (by decide)
  have hb5 := (K1.block bl hbl (fun e => nb e.symm)).trans h.blk
  obtain ⟨mv, hl⟩ := h.lst
  have nl : dv.ownBlock ≠ some lw := h.data.blk_ne hl (by decide)
  have hl5 := (K1.block lw (lt_of_blk hl) (fun e => nl e.symm)).trans hl
  have hne : bl ≠ lw := blk_ne h.blk hl (by decide)
  have hn5 : Own w5 base 4 1 nv nulls.length (nulls.map .bool) := h.nulls.kept K1 (fun k hk e => own_ne_own h.nulls h.data (by decide) k hk e.symm)
  have he5 : Own w5 base 3 1 ev ends.length (ends.map (.int .i64)) := h.ends.kept K1 (fun k hk e => own_ne_own h.ends h.data (by decide) k hk e.symm)
  refine ⟨⟨?_, ⟨mv, ?_⟩, h.bbl, h.blw, ?_, ?_, ?_⟩, ?_⟩
  · have := heap_setCell_at (k := 3) hb5 dv'
    simpa using this
  · rw [Below.heap_setCell _ _ _ _ (fun e => hne e.symm)]; exact hl5
  · exact hn5.set_other (hn5.blk_ne hb5 (by decide)) _
  · exact hown.set_other (hown.blk_ne hb5 (by decide)) _
  · exact he5.set_other (he5.blk_ne hb5 (by decide)) _
  · exact (K1.mono (fun k e _ => .inr e.symm)).trans (Kept.setCell _ _ _) (fun k e _ => .inl e)
theorem IsB.below {w w' : World} {bl lw base : Nat} {k s : Int} {nulls : List Bool} {data ends : List Int} {nv dv ev : Value} (h : IsB w bl lw base k s nulls data ends nv dv ev) (hb : Below w.heap.size w w') : IsB w' bl lw base k s nulls data ends nv dv ev :=
  ⟨(hb.block _ (lt_of_blk h.blk)).trans h.blk, (let ⟨mv, hl⟩ := h.lst; ⟨mv, (hb.block _ (lt_of_blk hl)).trans hl⟩), h.bbl, h.blw, h.nulls.below hb, h.data.below hb, h.ends.below hb⟩
theorem IsB.app_nulls {wr w5 : World} {bl lw base : Nat} {k s : Int} {nulls nulls' : List Bool} {data ends : List Int} {nv nv' dv ev : Value} (h : IsB wr bl lw base k s nulls data ends nv dv ev) (hg : wr.grownBy w5 nv.ownBlock) (hown : Own w5 base 4 1 nv' nulls'.length (nulls'.map .bool)) :
    IsB (w5.setCell ⟨bl, 2, none⟩ nv') bl lw base k s nulls' data ends nv' dv ev ∧ Kept (fun b => b = bl ∨ nv.ownBlock = some b) wr (w5.setCell ⟨bl, 2, none⟩ nv') := by
  have K1 : Kept (fun b => some b = nv.ownBlock) wr w5 := Kept.of_grown hg
  have hbl := lt_of_blk h.blk
  have nb : nv.ownBlock ≠ some bl := h.nulls.blk_ne h.blk (by decide)
  have hb5 := (K1.block bl hbl (fun e => nb e.symm)).trans h.blk
  obtain ⟨mv, hl⟩ := h.lst
  have nl : nv.ownBlock ≠ some lw := h.nulls.blk_ne hl (by decide)
  have hl5 := (K1.block lw (lt_of_blk hl) (fun e => nl e.symm)).trans hl
  have hne : bl ≠ lw := blk_ne h.blk hl (by decide)
  have hd5 : Own w5 base 5 1 dv data.length (data.map (.int .u8)) := h.data.kept K1 (fun k hk e => own_ne_own h.data h.nulls (by decide) k hk e.symm)
  have he5 : Own w5 base 3 1 ev ends.length (ends.map (.int .i64)) := h.ends.kept K1 (fun k hk e => own_ne_own h.ends h.nulls (by decide) k hk e.symm)
  refine ⟨⟨?_, ⟨mv, ?_⟩, h.bbl, h.blw, ?_, ?_, ?_⟩, ?_⟩
  · have := heap_setCell_at (k := 2) hb5 nv'
    simpa using this
  · rw [Below.heap_setCell _ _ _ _ (fun e => hne e.symm)]; exact hl5
  · exact hown.set_other (hown.blk_ne hb5 (by decide)) _
  · exact hd5.set_other (hd5.blk_ne hb5 (by decide)) _
  · exact he5.set_other (he5.blk_ne hb5 (by decide)) _
  · exact (K1.mono (fun k e _ => .inr e.symm)).trans (Kept.setCell _ _ _) (fun k e _ => .inl e)
def NewP (k s : Int) (w : World) (e : Ending) (w' : World) : Prop := ∃ bl lw, e = .returned (.tuple #[.pointer (some ⟨bl, 0, none⟩), .int .i64 0]) ∧ IsB w' bl lw w.heap.size k s [] [] [] (.slice none 0 0) (.slice none 0 0) (.slice none 0 0) ∧ Below w.heap.size w w' ∧
  WL w' (fun b => w.heap.size ≤ b ∧ b ≠ bl) lw [] ∧ ∃ mv, w'.heap[lw]? = some (.cells #[.slice none 0 0, mv] 212 (0, 0))
theorem isB_new (w : World) (k s : Int) (base : Nat) (hb : base ≤ w.heap.size) : IsB (((w.alloc (.map #[] 0)).alloc (.cells #[.slice none 0 0, .map (some w.heap.size)] 212)).alloc (.cells #[.int .i64 k, .int .i64 s, .slice none 0 0, .slice none 0 0, .slice none 0 0, .pointer (some ⟨w.heap.size + 1, 0, none⟩)] 142)) (w.heap.size + 2) (w.heap.size + 1) base k s [] [] [] (.slice none 0 0) (.slice none 0 0) (.slice none 0 0) := by
  refine ⟨?_, ⟨(.slice none 0 0, .map (some w.heap.size)), ?_⟩, by omega, by omega, Own.nil _ _ _ _, Own.nil _ _ _ _, Own.nil _ _ _ _⟩
  · have := heap_alloc_new ((w.alloc (.map #[] 0)).alloc (.cells #[.slice none 0 0, .map (some w.heap.size)] 212)) (.cells #[.int .i64 k, .int .i64 s, .slice none 0 0, .slice none 0 0, .slice none 0 0, .pointer (some ⟨w.heap.size + 1, 0, none⟩)] 142)
    simpa using this
  · have := heap_alloc_new (w.alloc (.map #[] 0)) (.cells #[.slice none 0 0, .map (some w.heap.size)] 212)
    rw [Below.heap_alloc _ _ _ (by simp)]
    simpa using this
theorem new_yes (k s : Int) (w : World) (h : okType k s = true) : Calls Tryz.prog 11 #[.agg #[.int .i64 k, .int .i64 s]] w (NewP k s w) := by
  have HOK := Aside.mk h
  clear h
  go_enter Tryz.func11, Tryz.ntmps11
  go_wp2_with (go_at_call 70; refine (checkType_yes _ _ _ HOK.out).mono ?_; rintro e w1 ⟨rfl, hb1⟩; have hB1 := Aside.mk ((below_new w _).trans (hb1.mono (by simp))); have hz := hb1.size; simp only [World.size_alloc] at hz; have hlt : w.heap.size < w1.heap.size := (by omega); have c10 := cell_kept hb1 0; have c11 := cell_kept hb1 1; have f10 := frozen_kept hb1 0; have f11 := frozen_kept hb1 1; simp at c10 c11; clear hb1)
  go_region_with (go_at_call 71; refine (dictNew_any _).mono ?_; rintro e w2 ⟨rfl, rfl⟩)
  all_goals
    go_wp2
    go_ret2
    have hL := ((wl_new w1).mono (T' := fun b => w.heap.size ≤ b ∧ b ≠ w1.heap.size + 2) (fun b h hb => ⟨by omega, by simp at hb; omega⟩)).below ((below_new _ (.cells #[.int .i64 k, .int .i64 s, .slice none 0 0, .slice none 0 0, .slice none 0 0, .pointer (some ⟨w1.heap.size + 1, 0, none⟩)] 142)).trans (below_drewN _ _ 1))
    refine ⟨_, _, rfl, (isB_new w1 k s w.heap.size (by omega)).drewN 1, Below.trans (hB1.out.trans ?_) (below_drewN _ _ 1), hL, .map (some w1.heap.size), ?_⟩
    · exact (((Below.refl _ _).alloc (by omega) _).alloc (by simp; omega) _).alloc (by simp; omega) _
    · have := heap_alloc_new (w1.alloc (.map #[] 0)) (.cells #[.slice none 0 0, .map (some w1.heap.size)] 212)
      show (((w1.alloc (.map #[] 0)).alloc (.cells #[.slice none 0 0, .map (some w1.heap.size)] 212)).alloc _).heap[w1.heap.size + 1]? = _
      rw [Below.heap_alloc _ _ _ (by simp)]
      simpa using this
end Go.Proofs.YtmhjjhaipcgbiaaGreat
