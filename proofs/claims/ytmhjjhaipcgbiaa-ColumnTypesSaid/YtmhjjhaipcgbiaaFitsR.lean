/- The document's Fits. -/
import Derived.Test.YtmhjjhaipcgbiaaRef18
namespace Go.Proofs.Ytmhjjhaipcgbiaa
open Go.RowKit
set_option linter.unusedVariables false
set_option linter.unusedSimpArgs false
set_option maxRecDepth 100000
set_option maxHeartbeats 1000000

theorem r18fits_no (k s b : Int) (w : World) (h : okType k s = false) : Calls Try.prog 15 #[.agg #[.int .i64 k, .int .i64 s], .int .u64 b] w (FitsP (fitsB k s b) w) := by
  have HOK := Aside.mk h
  have HF : Aside (fitsB k s b = false) := ⟨by simp [fitsB, h]⟩
  clear h
  go_enter Try.func15, Try.ntmps15
  go_wp2_with (go_at_call 11; refine (r18check_no _ _ _ HOK.out).mono ?_; rintro e w1 ⟨rfl, hb1⟩; have hB1 := Aside.mk ((below_new w _).trans (hb1.mono (by simp))))
  go_ret
  exact ⟨by rw [HF.out]; rfl, hB1.out⟩

theorem r18fits_yes (k s b : Int) (h0 : 0 ≤ b) (h1 : b ≤ 18446744073709551615) (w : World) (h : okType k s = true) : Calls Try.prog 15 #[.agg #[.int .i64 k, .int .i64 s], .int .u64 b] w (FitsP (fitsB k s b) w) := by
  have HOK := Aside.mk h
  have HF : Aside (fitsB k s b = bitsOK k b) := ⟨by simp [fitsB, h]⟩
  have hk : k = 1 ∨ k = 2 ∨ k = 3 ∨ k = 4 ∨ k = 5 ∨ k = 6 ∨ k = 7 ∨ k = 8 ∨ k = 9 ∨ k = 10 ∨ k = 11 ∨ k = 12 ∨ k = 13 ∨ k = 14 ∨ k = 15 ∨ k = 16 := by simp [okType] at h; omega
  clear h
  rcases hk with rfl | rfl | rfl | rfl | rfl | rfl | rfl | rfl | rfl | rfl | rfl | rfl | rfl | rfl | rfl | rfl
  · go_enter Try.func15, Try.ntmps15
    go_wp2_with (first | (go_at_call 11; refine (r18check_yes _ _ _ HOK.out).mono ?_; rintro e w1 ⟨rfl, hb1⟩; have hB1 := Aside.mk ((below_new w _).trans (hb1.mono (by simp))); have hz := hb1.size; simp only [World.size_alloc] at hz; have c10 := cell_kept hb1 0; have c11 := cell_kept hb1 1; have f10 := frozen_kept hb1 0; have f11 := frozen_kept hb1 1; simp at c10 c11) | (go_at_call 45; refine (worded_any _ _ _).mono ?_; rintro e w2 ⟨rfl, hb2⟩; have hB2 := Aside.mk (hB1.out.trans (hb2.mono hB1.out.size)); have hz2 := hb2.size; have c20 := (hb2.cell (p := ⟨w.heap.size, 0, none⟩) (by show w.heap.size < _; omega)).trans c10; have f20 := (hb2.frozen (p := ⟨w.heap.size, 0, none⟩) (by show w.heap.size < _; omega)).trans f10; have c21 := (hb2.cell (p := ⟨w.heap.size, 1, none⟩) (by show w.heap.size < _; omega)).trans c11; have f21 := (hb2.frozen (p := ⟨w.heap.size, 1, none⟩) (by show w.heap.size < _; omega)).trans f11) | (go_at_call 51; refine (r5fits_yes _ _ h0 h1 _ (by omega)).mono ?_; rintro e w3 ⟨rfl, hb3⟩; have hB3 := Aside.mk (hB2.out.trans (hb3.mono hB2.out.size))))
    go_ret
    exact ⟨by rw [HF.out]; rfl, hB3.out⟩
  · go_enter Try.func15, Try.ntmps15
    go_wp2_with (first | (go_at_call 11; refine (r18check_yes _ _ _ HOK.out).mono ?_; rintro e w1 ⟨rfl, hb1⟩; have hB1 := Aside.mk ((below_new w _).trans (hb1.mono (by simp))); have hz := hb1.size; simp only [World.size_alloc] at hz; have c10 := cell_kept hb1 0; have c11 := cell_kept hb1 1; have f10 := frozen_kept hb1 0; have f11 := frozen_kept hb1 1; simp at c10 c11) | (go_at_call 45; refine (worded_any _ _ _).mono ?_; rintro e w2 ⟨rfl, hb2⟩; have hB2 := Aside.mk (hB1.out.trans (hb2.mono hB1.out.size)); have hz2 := hb2.size; have c20 := (hb2.cell (p := ⟨w.heap.size, 0, none⟩) (by show w.heap.size < _; omega)).trans c10; have f20 := (hb2.frozen (p := ⟨w.heap.size, 0, none⟩) (by show w.heap.size < _; omega)).trans f10; have c21 := (hb2.cell (p := ⟨w.heap.size, 1, none⟩) (by show w.heap.size < _; omega)).trans c11; have f21 := (hb2.frozen (p := ⟨w.heap.size, 1, none⟩) (by show w.heap.size < _; omega)).trans f11) | (go_at_call 51; refine (r5fits_yes _ _ h0 h1 _ (by omega)).mono ?_; rintro e w3 ⟨rfl, hb3⟩; have hB3 := Aside.mk (hB2.out.trans (hb3.mono hB2.out.size))))
    go_ret
    exact ⟨by rw [HF.out]; rfl, hB3.out⟩
  · go_enter Try.func15, Try.ntmps15
    go_wp2_with (first | (go_at_call 11; refine (r18check_yes _ _ _ HOK.out).mono ?_; rintro e w1 ⟨rfl, hb1⟩; have hB1 := Aside.mk ((below_new w _).trans (hb1.mono (by simp))); have hz := hb1.size; simp only [World.size_alloc] at hz; have c10 := cell_kept hb1 0; have c11 := cell_kept hb1 1; have f10 := frozen_kept hb1 0; have f11 := frozen_kept hb1 1; simp at c10 c11) | (go_at_call 45; refine (worded_any _ _ _).mono ?_; rintro e w2 ⟨rfl, hb2⟩; have hB2 := Aside.mk (hB1.out.trans (hb2.mono hB1.out.size)); have hz2 := hb2.size; have c20 := (hb2.cell (p := ⟨w.heap.size, 0, none⟩) (by show w.heap.size < _; omega)).trans c10; have f20 := (hb2.frozen (p := ⟨w.heap.size, 0, none⟩) (by show w.heap.size < _; omega)).trans f10; have c21 := (hb2.cell (p := ⟨w.heap.size, 1, none⟩) (by show w.heap.size < _; omega)).trans c11; have f21 := (hb2.frozen (p := ⟨w.heap.size, 1, none⟩) (by show w.heap.size < _; omega)).trans f11) | (go_at_call 51; refine (r5fits_yes _ _ h0 h1 _ (by omega)).mono ?_; rintro e w3 ⟨rfl, hb3⟩; have hB3 := Aside.mk (hB2.out.trans (hb3.mono hB2.out.size))))
    go_ret
    exact ⟨by rw [HF.out]; rfl, hB3.out⟩
  · go_enter Try.func15, Try.ntmps15
    go_wp2_with (first | (go_at_call 11; refine (r18check_yes _ _ _ HOK.out).mono ?_; rintro e w1 ⟨rfl, hb1⟩; have hB1 := Aside.mk ((below_new w _).trans (hb1.mono (by simp))); have hz := hb1.size; simp only [World.size_alloc] at hz; have c10 := cell_kept hb1 0; have c11 := cell_kept hb1 1; have f10 := frozen_kept hb1 0; have f11 := frozen_kept hb1 1; simp at c10 c11) | (go_at_call 45; refine (worded_any _ _ _).mono ?_; rintro e w2 ⟨rfl, hb2⟩; have hB2 := Aside.mk (hB1.out.trans (hb2.mono hB1.out.size)); have hz2 := hb2.size; have c20 := (hb2.cell (p := ⟨w.heap.size, 0, none⟩) (by show w.heap.size < _; omega)).trans c10; have f20 := (hb2.frozen (p := ⟨w.heap.size, 0, none⟩) (by show w.heap.size < _; omega)).trans f10; have c21 := (hb2.cell (p := ⟨w.heap.size, 1, none⟩) (by show w.heap.size < _; omega)).trans c11; have f21 := (hb2.frozen (p := ⟨w.heap.size, 1, none⟩) (by show w.heap.size < _; omega)).trans f11) | (go_at_call 51; refine (r5fits_yes _ _ h0 h1 _ (by omega)).mono ?_; rintro e w3 ⟨rfl, hb3⟩; have hB3 := Aside.mk (hB2.out.trans (hb3.mono hB2.out.size))))
    go_ret
    exact ⟨by rw [HF.out]; rfl, hB3.out⟩
  · go_enter Try.func15, Try.ntmps15
    go_wp2_with (first | (go_at_call 11; refine (r18check_yes _ _ _ HOK.out).mono ?_; rintro e w1 ⟨rfl, hb1⟩; have hB1 := Aside.mk ((below_new w _).trans (hb1.mono (by simp))); have hz := hb1.size; simp only [World.size_alloc] at hz; have c10 := cell_kept hb1 0; have c11 := cell_kept hb1 1; have f10 := frozen_kept hb1 0; have f11 := frozen_kept hb1 1; simp at c10 c11) | (go_at_call 45; refine (worded_any _ _ _).mono ?_; rintro e w2 ⟨rfl, hb2⟩; have hB2 := Aside.mk (hB1.out.trans (hb2.mono hB1.out.size)); have hz2 := hb2.size; have c20 := (hb2.cell (p := ⟨w.heap.size, 0, none⟩) (by show w.heap.size < _; omega)).trans c10; have f20 := (hb2.frozen (p := ⟨w.heap.size, 0, none⟩) (by show w.heap.size < _; omega)).trans f10; have c21 := (hb2.cell (p := ⟨w.heap.size, 1, none⟩) (by show w.heap.size < _; omega)).trans c11; have f21 := (hb2.frozen (p := ⟨w.heap.size, 1, none⟩) (by show w.heap.size < _; omega)).trans f11) | (go_at_call 51; refine (r5fits_yes _ _ h0 h1 _ (by omega)).mono ?_; rintro e w3 ⟨rfl, hb3⟩; have hB3 := Aside.mk (hB2.out.trans (hb3.mono hB2.out.size))))
    go_ret
    exact ⟨by rw [HF.out]; rfl, hB3.out⟩
  · go_enter Try.func15, Try.ntmps15
    go_wp2_with (first | (go_at_call 11; refine (r18check_yes _ _ _ HOK.out).mono ?_; rintro e w1 ⟨rfl, hb1⟩; have hB1 := Aside.mk ((below_new w _).trans (hb1.mono (by simp))); have hz := hb1.size; simp only [World.size_alloc] at hz; have c10 := cell_kept hb1 0; have c11 := cell_kept hb1 1; have f10 := frozen_kept hb1 0; have f11 := frozen_kept hb1 1; simp at c10 c11) | (go_at_call 45; refine (worded_any _ _ _).mono ?_; rintro e w2 ⟨rfl, hb2⟩; have hB2 := Aside.mk (hB1.out.trans (hb2.mono hB1.out.size)); have hz2 := hb2.size; have c20 := (hb2.cell (p := ⟨w.heap.size, 0, none⟩) (by show w.heap.size < _; omega)).trans c10; have f20 := (hb2.frozen (p := ⟨w.heap.size, 0, none⟩) (by show w.heap.size < _; omega)).trans f10; have c21 := (hb2.cell (p := ⟨w.heap.size, 1, none⟩) (by show w.heap.size < _; omega)).trans c11; have f21 := (hb2.frozen (p := ⟨w.heap.size, 1, none⟩) (by show w.heap.size < _; omega)).trans f11) | (go_at_call 51; refine (r5fits_yes _ _ h0 h1 _ (by omega)).mono ?_; rintro e w3 ⟨rfl, hb3⟩; have hB3 := Aside.mk (hB2.out.trans (hb3.mono hB2.out.size))))
    go_ret
    exact ⟨by rw [HF.out]; rfl, hB3.out⟩
  · go_enter Try.func15, Try.ntmps15
    go_wp2_with (first | (go_at_call 11; refine (r18check_yes _ _ _ HOK.out).mono ?_; rintro e w1 ⟨rfl, hb1⟩; have hB1 := Aside.mk ((below_new w _).trans (hb1.mono (by simp))); have hz := hb1.size; simp only [World.size_alloc] at hz; have c10 := cell_kept hb1 0; have c11 := cell_kept hb1 1; have f10 := frozen_kept hb1 0; have f11 := frozen_kept hb1 1; simp at c10 c11) | (go_at_call 45; refine (worded_any _ _ _).mono ?_; rintro e w2 ⟨rfl, hb2⟩; have hB2 := Aside.mk (hB1.out.trans (hb2.mono hB1.out.size)); have hz2 := hb2.size; have c20 := (hb2.cell (p := ⟨w.heap.size, 0, none⟩) (by show w.heap.size < _; omega)).trans c10; have f20 := (hb2.frozen (p := ⟨w.heap.size, 0, none⟩) (by show w.heap.size < _; omega)).trans f10; have c21 := (hb2.cell (p := ⟨w.heap.size, 1, none⟩) (by show w.heap.size < _; omega)).trans c11; have f21 := (hb2.frozen (p := ⟨w.heap.size, 1, none⟩) (by show w.heap.size < _; omega)).trans f11) | (go_at_call 51; refine (r5fits_yes _ _ h0 h1 _ (by omega)).mono ?_; rintro e w3 ⟨rfl, hb3⟩; have hB3 := Aside.mk (hB2.out.trans (hb3.mono hB2.out.size))))
    go_ret
    exact ⟨by rw [HF.out]; rfl, hB3.out⟩
  · go_enter Try.func15, Try.ntmps15
    go_wp2_with (first | (go_at_call 11; refine (r18check_yes _ _ _ HOK.out).mono ?_; rintro e w1 ⟨rfl, hb1⟩; have hB1 := Aside.mk ((below_new w _).trans (hb1.mono (by simp))); have hz := hb1.size; simp only [World.size_alloc] at hz; have c10 := cell_kept hb1 0; have c11 := cell_kept hb1 1; have f10 := frozen_kept hb1 0; have f11 := frozen_kept hb1 1; simp at c10 c11) | (go_at_call 45; refine (worded_any _ _ _).mono ?_; rintro e w2 ⟨rfl, hb2⟩; have hB2 := Aside.mk (hB1.out.trans (hb2.mono hB1.out.size)); have hz2 := hb2.size; have c20 := (hb2.cell (p := ⟨w.heap.size, 0, none⟩) (by show w.heap.size < _; omega)).trans c10; have f20 := (hb2.frozen (p := ⟨w.heap.size, 0, none⟩) (by show w.heap.size < _; omega)).trans f10; have c21 := (hb2.cell (p := ⟨w.heap.size, 1, none⟩) (by show w.heap.size < _; omega)).trans c11; have f21 := (hb2.frozen (p := ⟨w.heap.size, 1, none⟩) (by show w.heap.size < _; omega)).trans f11) | (go_at_call 51; refine (r5fits_yes _ _ h0 h1 _ (by omega)).mono ?_; rintro e w3 ⟨rfl, hb3⟩; have hB3 := Aside.mk (hB2.out.trans (hb3.mono hB2.out.size))))
    go_ret
    exact ⟨by rw [HF.out]; rfl, hB3.out⟩
  · by_cases hlt : b < 4294967296
    case neg =>
      have HL : Aside (bitsOK 9 b = false) := ⟨by simp [bitsOK, f32OK, hlt]⟩
      have hge : 4294967296 ≤ b := by omega
      clear hlt
      go_enter Try.func15, Try.ntmps15
      go_wp2_with (first | (go_at_call 11; refine (r18check_yes _ _ _ HOK.out).mono ?_; rintro e w1 ⟨rfl, hb1⟩; have hB1 := Aside.mk ((below_new w _).trans (hb1.mono (by simp))); have hz := hb1.size; simp only [World.size_alloc] at hz; have c10 := cell_kept hb1 0; have c11 := cell_kept hb1 1; have f10 := frozen_kept hb1 0; have f11 := frozen_kept hb1 1; simp at c10 c11) | (go_at_call 45; refine (worded_any _ _ _).mono ?_; rintro e w2 ⟨rfl, hb2⟩; have hB2 := Aside.mk (hB1.out.trans (hb2.mono hB1.out.size)); have hz2 := hb2.size; have c20 := (hb2.cell (p := ⟨w.heap.size, 0, none⟩) (by show w.heap.size < _; omega)).trans c10; have f20 := (hb2.frozen (p := ⟨w.heap.size, 0, none⟩) (by show w.heap.size < _; omega)).trans f10; have c21 := (hb2.cell (p := ⟨w.heap.size, 1, none⟩) (by show w.heap.size < _; omega)).trans c11; have f21 := (hb2.frozen (p := ⟨w.heap.size, 1, none⟩) (by show w.heap.size < _; omega)).trans f11) | (go_at_call 46; refine (r3class_32_no _ hge _).mono ?_; rintro e w3 ⟨rfl, rfl⟩) | (go_at_call 47; refine (r3nan_32 _).mono ?_; rintro e w4 ⟨rfl, rfl⟩))
      go_ret
      exact ⟨by rw [HF.out, HL.out]; rfl, hB2.out⟩
    have HL : Aside (bitsOK 9 b = (!nan32 b || b == 2143289344)) := ⟨by simp [bitsOK, f32OK, hlt]⟩
    cases hn : nan32 b
    all_goals
      cases he : (b == 2143289344)
      all_goals
        rw [hn, he] at HL
        have HN := Aside.mk hn
        clear hn
        go_enter Try.func15, Try.ntmps15
        go_wp2_with (first | (go_at_call 11; refine (r18check_yes _ _ _ HOK.out).mono ?_; rintro e w1 ⟨rfl, hb1⟩; have hB1 := Aside.mk ((below_new w _).trans (hb1.mono (by simp))); have hz := hb1.size; simp only [World.size_alloc] at hz; have c10 := cell_kept hb1 0; have c11 := cell_kept hb1 1; have f10 := frozen_kept hb1 0; have f11 := frozen_kept hb1 1; simp at c10 c11) | (go_at_call 45; refine (worded_any _ _ _).mono ?_; rintro e w2 ⟨rfl, hb2⟩; have hB2 := Aside.mk (hB1.out.trans (hb2.mono hB1.out.size)); have hz2 := hb2.size; have c20 := (hb2.cell (p := ⟨w.heap.size, 0, none⟩) (by show w.heap.size < _; omega)).trans c10; have f20 := (hb2.frozen (p := ⟨w.heap.size, 0, none⟩) (by show w.heap.size < _; omega)).trans f10; have c21 := (hb2.cell (p := ⟨w.heap.size, 1, none⟩) (by show w.heap.size < _; omega)).trans c11; have f21 := (hb2.frozen (p := ⟨w.heap.size, 1, none⟩) (by show w.heap.size < _; omega)).trans f11) | (go_at_call 46; refine (r3c_32 _ h0 hlt _).mono ?_; rw [HN.out]; rintro e w3 ⟨c, rfl, hc5, hb3⟩; (first | (obtain rfl := eq_of_beq hc5) | (have hc6 : (c != 5) = true := bne_of hc5; have hc7 : ¬ c = 5 := ne_of_beq_false hc5)); have hB3 := Aside.mk (hB2.out.trans (hb3.mono hB2.out.size)); have hz3 := hb3.size; have c30 := (hb3.cell (p := ⟨w.heap.size, 0, none⟩) (by show w.heap.size < _; omega)).trans c20; have f30 := (hb3.frozen (p := ⟨w.heap.size, 0, none⟩) (by show w.heap.size < _; omega)).trans f20; have c31 := (hb3.cell (p := ⟨w.heap.size, 1, none⟩) (by show w.heap.size < _; omega)).trans c21; have f31 := (hb3.frozen (p := ⟨w.heap.size, 1, none⟩) (by show w.heap.size < _; omega)).trans f21) | (go_at_call 47; refine (r3nan_32 _).mono ?_; rintro e w4 ⟨rfl, rfl⟩))
        go_ret
        exact ⟨by rw [HF.out, HL.out]; rfl, hB3.out⟩
  · have HL : Aside (bitsOK 10 b = (!nan64 b || b == 9221120237041090560)) := ⟨by simp [bitsOK, f64OK]⟩
    cases hn : nan64 b
    all_goals
      cases he : (b == 9221120237041090560)
      all_goals
        rw [hn, he] at HL
        have HN := Aside.mk hn
        clear hn
        go_enter Try.func15, Try.ntmps15
        go_wp2_with (first | (go_at_call 11; refine (r18check_yes _ _ _ HOK.out).mono ?_; rintro e w1 ⟨rfl, hb1⟩; have hB1 := Aside.mk ((below_new w _).trans (hb1.mono (by simp))); have hz := hb1.size; simp only [World.size_alloc] at hz; have c10 := cell_kept hb1 0; have c11 := cell_kept hb1 1; have f10 := frozen_kept hb1 0; have f11 := frozen_kept hb1 1; simp at c10 c11) | (go_at_call 45; refine (worded_any _ _ _).mono ?_; rintro e w2 ⟨rfl, hb2⟩; have hB2 := Aside.mk (hB1.out.trans (hb2.mono hB1.out.size)); have hz2 := hb2.size; have c20 := (hb2.cell (p := ⟨w.heap.size, 0, none⟩) (by show w.heap.size < _; omega)).trans c10; have f20 := (hb2.frozen (p := ⟨w.heap.size, 0, none⟩) (by show w.heap.size < _; omega)).trans f10; have c21 := (hb2.cell (p := ⟨w.heap.size, 1, none⟩) (by show w.heap.size < _; omega)).trans c11; have f21 := (hb2.frozen (p := ⟨w.heap.size, 1, none⟩) (by show w.heap.size < _; omega)).trans f11) | (go_at_call 46; refine (r3c_64 _ h0 h1 _).mono ?_; rw [HN.out]; rintro e w3 ⟨c, rfl, hc5, hb3⟩; (first | (obtain rfl := eq_of_beq hc5) | (have hc6 : (c != 5) = true := bne_of hc5; have hc7 : ¬ c = 5 := ne_of_beq_false hc5)); have hB3 := Aside.mk (hB2.out.trans (hb3.mono hB2.out.size)); have hz3 := hb3.size; have c30 := (hb3.cell (p := ⟨w.heap.size, 0, none⟩) (by show w.heap.size < _; omega)).trans c20; have f30 := (hb3.frozen (p := ⟨w.heap.size, 0, none⟩) (by show w.heap.size < _; omega)).trans f20; have c31 := (hb3.cell (p := ⟨w.heap.size, 1, none⟩) (by show w.heap.size < _; omega)).trans c21; have f31 := (hb3.frozen (p := ⟨w.heap.size, 1, none⟩) (by show w.heap.size < _; omega)).trans f21) | (go_at_call 47; refine (r3nan_64 _).mono ?_; rintro e w4 ⟨rfl, rfl⟩))
        go_ret
        exact ⟨by rw [HF.out, HL.out]; rfl, hB3.out⟩
  · go_enter Try.func15, Try.ntmps15
    go_wp2_with (first | (go_at_call 11; refine (r18check_yes _ _ _ HOK.out).mono ?_; rintro e w1 ⟨rfl, hb1⟩; have hB1 := Aside.mk ((below_new w _).trans (hb1.mono (by simp))); have hz := hb1.size; simp only [World.size_alloc] at hz; have c10 := cell_kept hb1 0; have c11 := cell_kept hb1 1; have f10 := frozen_kept hb1 0; have f11 := frozen_kept hb1 1; simp at c10 c11) | (go_at_call 45; refine (worded_any _ _ _).mono ?_; rintro e w2 ⟨rfl, hb2⟩; have hB2 := Aside.mk (hB1.out.trans (hb2.mono hB1.out.size)); have hz2 := hb2.size; have c20 := (hb2.cell (p := ⟨w.heap.size, 0, none⟩) (by show w.heap.size < _; omega)).trans c10; have f20 := (hb2.frozen (p := ⟨w.heap.size, 0, none⟩) (by show w.heap.size < _; omega)).trans f10; have c21 := (hb2.cell (p := ⟨w.heap.size, 1, none⟩) (by show w.heap.size < _; omega)).trans c11; have f21 := (hb2.frozen (p := ⟨w.heap.size, 1, none⟩) (by show w.heap.size < _; omega)).trans f11))
    go_ret
    exact ⟨by rw [HF.out]; exact ret_bool (by simp [bitsOK]), hB2.out⟩
  · cases hd : decOK b
    all_goals
      have HD := Aside.mk hd
      clear hd
      go_enter Try.func15, Try.ntmps15
      go_wp2_with (first | (go_at_call 11; refine (r18check_yes _ _ _ HOK.out).mono ?_; rintro e w1 ⟨rfl, hb1⟩; have hB1 := Aside.mk ((below_new w _).trans (hb1.mono (by simp))); have hz := hb1.size; simp only [World.size_alloc] at hz; have c10 := cell_kept hb1 0; have c11 := cell_kept hb1 1; have f10 := frozen_kept hb1 0; have f11 := frozen_kept hb1 1; simp at c10 c11) | (go_at_call 45; refine (worded_any _ _ _).mono ?_; rintro e w2 ⟨rfl, hb2⟩; have hB2 := Aside.mk (hB1.out.trans (hb2.mono hB1.out.size)); have hz2 := hb2.size; have c20 := (hb2.cell (p := ⟨w.heap.size, 0, none⟩) (by show w.heap.size < _; omega)).trans c10; have f20 := (hb2.frozen (p := ⟨w.heap.size, 0, none⟩) (by show w.heap.size < _; omega)).trans f10; have c21 := (hb2.cell (p := ⟨w.heap.size, 1, none⟩) (by show w.heap.size < _; omega)).trans c11; have f21 := (hb2.frozen (p := ⟨w.heap.size, 1, none⟩) (by show w.heap.size < _; omega)).trans f11) | (go_at_call 48; refine (r12fits_any _ h0 h1 _).mono ?_; unfold R12P; rw [HD.out]; rintro e w3 ⟨v, n, rfl, rfl⟩))
      go_ret
      exact ⟨by rw [HF.out]; simp [bitsOK, HD.out], hB2.out⟩
  · cases hd : dayOK b
    all_goals
      have HD := Aside.mk hd
      clear hd
      go_enter Try.func15, Try.ntmps15
      go_wp2_with (first | (go_at_call 11; refine (r18check_yes _ _ _ HOK.out).mono ?_; rintro e w1 ⟨rfl, hb1⟩; have hB1 := Aside.mk ((below_new w _).trans (hb1.mono (by simp))); have hz := hb1.size; simp only [World.size_alloc] at hz; have c10 := cell_kept hb1 0; have c11 := cell_kept hb1 1; have f10 := frozen_kept hb1 0; have f11 := frozen_kept hb1 1; simp at c10 c11) | (go_at_call 45; refine (worded_any _ _ _).mono ?_; rintro e w2 ⟨rfl, hb2⟩; have hB2 := Aside.mk (hB1.out.trans (hb2.mono hB1.out.size)); have hz2 := hb2.size; have c20 := (hb2.cell (p := ⟨w.heap.size, 0, none⟩) (by show w.heap.size < _; omega)).trans c10; have f20 := (hb2.frozen (p := ⟨w.heap.size, 0, none⟩) (by show w.heap.size < _; omega)).trans f10; have c21 := (hb2.cell (p := ⟨w.heap.size, 1, none⟩) (by show w.heap.size < _; omega)).trans c11; have f21 := (hb2.frozen (p := ⟨w.heap.size, 1, none⟩) (by show w.heap.size < _; omega)).trans f11) | (go_at_call 49; refine (r13isDay_any _ _).mono ?_; unfold WhenP; rw [HD.out]; rintro e w3 ⟨v, rfl, rfl⟩))
      go_ret
      exact ⟨by rw [HF.out]; simp [bitsOK, HD.out], hB2.out⟩
  · cases hd : momOK b
    all_goals
      have HD := Aside.mk hd
      clear hd
      go_enter Try.func15, Try.ntmps15
      go_wp2_with (first | (go_at_call 11; refine (r18check_yes _ _ _ HOK.out).mono ?_; rintro e w1 ⟨rfl, hb1⟩; have hB1 := Aside.mk ((below_new w _).trans (hb1.mono (by simp))); have hz := hb1.size; simp only [World.size_alloc] at hz; have c10 := cell_kept hb1 0; have c11 := cell_kept hb1 1; have f10 := frozen_kept hb1 0; have f11 := frozen_kept hb1 1; simp at c10 c11) | (go_at_call 45; refine (worded_any _ _ _).mono ?_; rintro e w2 ⟨rfl, hb2⟩; have hB2 := Aside.mk (hB1.out.trans (hb2.mono hB1.out.size)); have hz2 := hb2.size; have c20 := (hb2.cell (p := ⟨w.heap.size, 0, none⟩) (by show w.heap.size < _; omega)).trans c10; have f20 := (hb2.frozen (p := ⟨w.heap.size, 0, none⟩) (by show w.heap.size < _; omega)).trans f10; have c21 := (hb2.cell (p := ⟨w.heap.size, 1, none⟩) (by show w.heap.size < _; omega)).trans c11; have f21 := (hb2.frozen (p := ⟨w.heap.size, 1, none⟩) (by show w.heap.size < _; omega)).trans f11) | (go_at_call 50; refine (r13isMoment_any _ _).mono ?_; unfold WhenP; rw [HD.out]; rintro e w3 ⟨v, rfl, rfl⟩))
      go_ret
      exact ⟨by rw [HF.out]; simp [bitsOK, HD.out], hB2.out⟩
  · go_enter Try.func15, Try.ntmps15
    go_wp2_with (first | (go_at_call 11; refine (r18check_yes _ _ _ HOK.out).mono ?_; rintro e w1 ⟨rfl, hb1⟩; have hB1 := Aside.mk ((below_new w _).trans (hb1.mono (by simp))); have hz := hb1.size; simp only [World.size_alloc] at hz; have c10 := cell_kept hb1 0; have c11 := cell_kept hb1 1; have f10 := frozen_kept hb1 0; have f11 := frozen_kept hb1 1; simp at c10 c11) | (go_at_call 45; refine (worded_any _ _ _).mono ?_; rintro e w2 ⟨rfl, hb2⟩; have hB2 := Aside.mk (hB1.out.trans (hb2.mono hB1.out.size)); have hz2 := hb2.size; have c20 := (hb2.cell (p := ⟨w.heap.size, 0, none⟩) (by show w.heap.size < _; omega)).trans c10; have f20 := (hb2.frozen (p := ⟨w.heap.size, 0, none⟩) (by show w.heap.size < _; omega)).trans f10; have c21 := (hb2.cell (p := ⟨w.heap.size, 1, none⟩) (by show w.heap.size < _; omega)).trans c11; have f21 := (hb2.frozen (p := ⟨w.heap.size, 1, none⟩) (by show w.heap.size < _; omega)).trans f11))
    go_ret
    exact ⟨by rw [HF.out]; rfl, hB2.out⟩
  · go_enter Try.func15, Try.ntmps15
    go_wp2_with (first | (go_at_call 11; refine (r18check_yes _ _ _ HOK.out).mono ?_; rintro e w1 ⟨rfl, hb1⟩; have hB1 := Aside.mk ((below_new w _).trans (hb1.mono (by simp))); have hz := hb1.size; simp only [World.size_alloc] at hz; have c10 := cell_kept hb1 0; have c11 := cell_kept hb1 1; have f10 := frozen_kept hb1 0; have f11 := frozen_kept hb1 1; simp at c10 c11) | (go_at_call 45; refine (worded_any _ _ _).mono ?_; rintro e w2 ⟨rfl, hb2⟩; have hB2 := Aside.mk (hB1.out.trans (hb2.mono hB1.out.size)); have hz2 := hb2.size; have c20 := (hb2.cell (p := ⟨w.heap.size, 0, none⟩) (by show w.heap.size < _; omega)).trans c10; have f20 := (hb2.frozen (p := ⟨w.heap.size, 0, none⟩) (by show w.heap.size < _; omega)).trans f10; have c21 := (hb2.cell (p := ⟨w.heap.size, 1, none⟩) (by show w.heap.size < _; omega)).trans c11; have f21 := (hb2.frozen (p := ⟨w.heap.size, 1, none⟩) (by show w.heap.size < _; omega)).trans f11))
    go_ret
    exact ⟨by rw [HF.out]; rfl, hB2.out⟩

theorem r18fits_any (k s b : Int) (h0 : 0 ≤ b) (h1 : b ≤ 18446744073709551615) (w : World) : Calls Try.prog 15 #[.agg #[.int .i64 k, .int .i64 s], .int .u64 b] w (FitsP (fitsB k s b) w) := by
  cases h : okType k s
  · exact r18fits_no k s b w h
  · exact r18fits_yes k s b h0 h1 w h
theorem fits_any (k s b : Int) (h0 : 0 ≤ b) (h1 : b ≤ 18446744073709551615) (w : World) : Calls Try.prog 14 #[.agg #[.int .i64 k, .int .i64 s], .int .u64 b] w (FitsP (fitsB k s b) w) := by
  cases h : okType k s
  · exact fits_no k s b w h
  · exact fits_yes k s b h0 h1 w h
end Go.Proofs.Ytmhjjhaipcgbiaa
