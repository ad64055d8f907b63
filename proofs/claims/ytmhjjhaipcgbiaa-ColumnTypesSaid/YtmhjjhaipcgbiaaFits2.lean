/- column.Fits walked. -/
import Derived.Test.YtmhjjhaipcgbiaaFits
namespace Go.Proofs.Ytmhjjhaipcgbiaa
open Go.RowKit
set_option linter.unusedVariables false
set_option linter.unusedSimpArgs false
set_option maxRecDepth 100000
set_option maxHeartbeats 1000000

theorem bne_of {a b : Int} (h : (a == b) = false) : (a != b) = true := by simpa [bne] using h
theorem cell_kept {w w1 : World} {cs : Array Value} {T : TypeId} (hb : Below (w.alloc (.cells cs T)).heap.size (w.alloc (.cells cs T)) w1) (j : Nat) : w1.cell? ⟨w.heap.size, j, none⟩ = cs[j]? :=
  (hb.cell (p := ⟨w.heap.size, j, none⟩) (by simp)).trans (cell_blk (heap_alloc_new w _))
theorem frozen_kept {w w1 : World} {cs : Array Value} {T : TypeId} (hb : Below (w.alloc (.cells cs T)).heap.size (w.alloc (.cells cs T)) w1) (j : Nat) : w1.frozen? ⟨w.heap.size, j, none⟩ = false :=
  (hb.frozen (p := ⟨w.heap.size, j, none⟩) (by simp)).trans (frozen_blk (heap_alloc_new w _))

def FitsP (r : Bool) (w : World) (e : Ending) (w' : World) : Prop := e = .returned (.bool r) ∧ Below w.heap.size w w'

theorem fits_no (k s b : Int) (w : World) (h : okType k s = false) : Calls Try.prog 14 #[.agg #[.int .i64 k, .int .i64 s], .int .u64 b] w (FitsP (fitsB k s b) w) := by
  have HOK := Aside.mk h
  have HF : Aside (fitsB k s b = false) := ⟨by simp [fitsB, h]⟩
  clear h
  go_enter Try.func14, Try.ntmps14
  go_wp2_with (go_at_call 10; refine (checkType_no _ _ _ HOK.out).mono ?_; rintro e w1 ⟨rfl, hb1⟩; have hB1 := Aside.mk ((below_new w _).trans (hb1.mono (by simp))))
  go_ret
  exact ⟨by rw [HF.out]; rfl, hB1.out⟩

theorem fits_yes (k s b : Int) (h0 : 0 ≤ b) (h1 : b ≤ 18446744073709551615) (w : World) (h : okType k s = true) : Calls Try.prog 14 #[.agg #[.int .i64 k, .int .i64 s], .int .u64 b] w (FitsP (fitsB k s b) w) := by
  have HOK := Aside.mk h
  have HF : Aside (fitsB k s b = bitsOK k b) := ⟨by simp [fitsB, h]⟩
  have hk : k = 1 ∨ k = 2 ∨ k = 3 ∨ k = 4 ∨ k = 5 ∨ k = 6 ∨ k = 7 ∨ k = 8 ∨ k = 9 ∨ k = 10 ∨ k = 11 ∨ k = 12 ∨ k = 13 ∨ k = 14 ∨ k = 15 ∨ k = 16 := by simp [okType] at h; omega
  clear h
  rcases hk with rfl | rfl | rfl | rfl | rfl | rfl | rfl | rfl | rfl | rfl | rfl | rfl | rfl | rfl | rfl | rfl
  · go_enter Try.func14, Try.ntmps14
    go_wp2_with (first | (go_at_call 10; refine (checkType_yes _ _ _ HOK.out).mono ?_; rintro e w1 ⟨rfl, hb1⟩; obtain ⟨hc, hf⟩ := bcell hb1; have hB1 := Aside.mk ((below_new w _).trans (hb1.mono (by simp))); have hz := hb1.size; simp only [World.size_alloc] at hz) | (go_at_call 44; refine (wholeFits_yes _ _ _ (by omega)).mono ?_; rintro e w2 ⟨rfl, hb2⟩; have hB2 := Aside.mk (hB1.out.trans (hb2.mono hB1.out.size))))
    go_ret
    exact ⟨by rw [HF.out]; rfl, hB2.out⟩
  · go_enter Try.func14, Try.ntmps14
    go_wp2_with (first | (go_at_call 10; refine (checkType_yes _ _ _ HOK.out).mono ?_; rintro e w1 ⟨rfl, hb1⟩; obtain ⟨hc, hf⟩ := bcell hb1; have hB1 := Aside.mk ((below_new w _).trans (hb1.mono (by simp))); have hz := hb1.size; simp only [World.size_alloc] at hz) | (go_at_call 44; refine (wholeFits_yes _ _ _ (by omega)).mono ?_; rintro e w2 ⟨rfl, hb2⟩; have hB2 := Aside.mk (hB1.out.trans (hb2.mono hB1.out.size))))
    go_ret
    exact ⟨by rw [HF.out]; rfl, hB2.out⟩
  · go_enter Try.func14, Try.ntmps14
    go_wp2_with (first | (go_at_call 10; refine (checkType_yes _ _ _ HOK.out).mono ?_; rintro e w1 ⟨rfl, hb1⟩; obtain ⟨hc, hf⟩ := bcell hb1; have hB1 := Aside.mk ((below_new w _).trans (hb1.mono (by simp))); have hz := hb1.size; simp only [World.size_alloc] at hz) | (go_at_call 44; refine (wholeFits_yes _ _ _ (by omega)).mono ?_; rintro e w2 ⟨rfl, hb2⟩; have hB2 := Aside.mk (hB1.out.trans (hb2.mono hB1.out.size))))
    go_ret
    exact ⟨by rw [HF.out]; rfl, hB2.out⟩
  · go_enter Try.func14, Try.ntmps14
    go_wp2_with (first | (go_at_call 10; refine (checkType_yes _ _ _ HOK.out).mono ?_; rintro e w1 ⟨rfl, hb1⟩; obtain ⟨hc, hf⟩ := bcell hb1; have hB1 := Aside.mk ((below_new w _).trans (hb1.mono (by simp))); have hz := hb1.size; simp only [World.size_alloc] at hz) | (go_at_call 44; refine (wholeFits_yes _ _ _ (by omega)).mono ?_; rintro e w2 ⟨rfl, hb2⟩; have hB2 := Aside.mk (hB1.out.trans (hb2.mono hB1.out.size))))
    go_ret
    exact ⟨by rw [HF.out]; rfl, hB2.out⟩
  · go_enter Try.func14, Try.ntmps14
    go_wp2_with (first | (go_at_call 10; refine (checkType_yes _ _ _ HOK.out).mono ?_; rintro e w1 ⟨rfl, hb1⟩; obtain ⟨hc, hf⟩ := bcell hb1; have hB1 := Aside.mk ((below_new w _).trans (hb1.mono (by simp))); have hz := hb1.size; simp only [World.size_alloc] at hz) | (go_at_call 44; refine (wholeFits_yes _ _ _ (by omega)).mono ?_; rintro e w2 ⟨rfl, hb2⟩; have hB2 := Aside.mk (hB1.out.trans (hb2.mono hB1.out.size))))
    go_ret
    exact ⟨by rw [HF.out]; rfl, hB2.out⟩
  · go_enter Try.func14, Try.ntmps14
    go_wp2_with (first | (go_at_call 10; refine (checkType_yes _ _ _ HOK.out).mono ?_; rintro e w1 ⟨rfl, hb1⟩; obtain ⟨hc, hf⟩ := bcell hb1; have hB1 := Aside.mk ((below_new w _).trans (hb1.mono (by simp))); have hz := hb1.size; simp only [World.size_alloc] at hz) | (go_at_call 44; refine (wholeFits_yes _ _ _ (by omega)).mono ?_; rintro e w2 ⟨rfl, hb2⟩; have hB2 := Aside.mk (hB1.out.trans (hb2.mono hB1.out.size))))
    go_ret
    exact ⟨by rw [HF.out]; rfl, hB2.out⟩
  · go_enter Try.func14, Try.ntmps14
    go_wp2_with (first | (go_at_call 10; refine (checkType_yes _ _ _ HOK.out).mono ?_; rintro e w1 ⟨rfl, hb1⟩; obtain ⟨hc, hf⟩ := bcell hb1; have hB1 := Aside.mk ((below_new w _).trans (hb1.mono (by simp))); have hz := hb1.size; simp only [World.size_alloc] at hz) | (go_at_call 44; refine (wholeFits_yes _ _ _ (by omega)).mono ?_; rintro e w2 ⟨rfl, hb2⟩; have hB2 := Aside.mk (hB1.out.trans (hb2.mono hB1.out.size))))
    go_ret
    exact ⟨by rw [HF.out]; rfl, hB2.out⟩
  · go_enter Try.func14, Try.ntmps14
    go_wp2_with (first | (go_at_call 10; refine (checkType_yes _ _ _ HOK.out).mono ?_; rintro e w1 ⟨rfl, hb1⟩; obtain ⟨hc, hf⟩ := bcell hb1; have hB1 := Aside.mk ((below_new w _).trans (hb1.mono (by simp))); have hz := hb1.size; simp only [World.size_alloc] at hz) | (go_at_call 44; refine (wholeFits_yes _ _ _ (by omega)).mono ?_; rintro e w2 ⟨rfl, hb2⟩; have hB2 := Aside.mk (hB1.out.trans (hb2.mono hB1.out.size))))
    go_ret
    exact ⟨by rw [HF.out]; rfl, hB2.out⟩
  · by_cases hlt : b < 4294967296
    case neg =>
      have HL : Aside (bitsOK 9 b = false) := ⟨by simp [bitsOK, f32OK, hlt]⟩
      have hge : 4294967296 ≤ b := by omega
      clear hlt
      go_enter Try.func14, Try.ntmps14
      go_wp2_with (first | (go_at_call 10; refine (checkType_yes _ _ _ HOK.out).mono ?_; rintro e w1 ⟨rfl, hb1⟩; obtain ⟨hc, hf⟩ := bcell hb1; have hB1 := Aside.mk ((below_new w _).trans (hb1.mono (by simp))); have hz := hb1.size; simp only [World.size_alloc] at hz) | (go_at_call 39; refine (class_32_no _ hge _).mono ?_; rintro e w2 ⟨rfl, hb2⟩; have c1 := cell_kept hb1 0; have c2 := (hb2.cell (p := ⟨w.heap.size, 0, none⟩) (by show w.heap.size < _; omega)).trans c1; have f2 := (hb2.frozen (p := ⟨w.heap.size, 0, none⟩) (by show w.heap.size < _; omega)).trans (frozen_kept hb1 0); simp at c1 c2; have hB2 := Aside.mk (hB1.out.trans (hb2.mono hB1.out.size)); have hz2 := hb2.size) | (go_at_call 40; refine (nan_32 _).mono ?_; rintro e w3 ⟨rfl, hb3⟩; have hB3 := Aside.mk (hB2.out.trans (hb3.mono hB2.out.size))))
      go_ret
      exact ⟨by rw [HF.out, HL.out]; rfl, hB3.out⟩
    have HL : Aside (bitsOK 9 b = (!nan32 b || b == 2143289344)) := ⟨by simp [bitsOK, f32OK, hlt]⟩
    cases hn : nan32 b
    all_goals
      cases he : (b == 2143289344)
      all_goals
        rw [hn, he] at HL
        have HN := Aside.mk hn
        clear hn
        go_enter Try.func14, Try.ntmps14
        go_wp2_with (first | (go_at_call 10; refine (checkType_yes _ _ _ HOK.out).mono ?_; rintro e w1 ⟨rfl, hb1⟩; obtain ⟨hc, hf⟩ := bcell hb1; have hB1 := Aside.mk ((below_new w _).trans (hb1.mono (by simp))); have hz := hb1.size; simp only [World.size_alloc] at hz) | (go_at_call 39; refine (cls_32 _ h0 hlt _).mono ?_; rw [HN.out]; rintro e w2 ⟨c, rfl, hc5, hb2⟩; (first | (obtain rfl := eq_of_beq hc5) | (have hc6 : (c != 5) = true := bne_of hc5; have hc7 : ¬ c = 5 := ne_of_beq_false hc5)); have c1 := cell_kept hb1 0; have c2 := (hb2.cell (p := ⟨w.heap.size, 0, none⟩) (by show w.heap.size < _; omega)).trans c1; have f2 := (hb2.frozen (p := ⟨w.heap.size, 0, none⟩) (by show w.heap.size < _; omega)).trans (frozen_kept hb1 0); simp at c1 c2; have hB2 := Aside.mk (hB1.out.trans (hb2.mono hB1.out.size)); have hz2 := hb2.size) | (go_at_call 40; refine (nan_32 _).mono ?_; rintro e w3 ⟨rfl, hb3⟩; have hB3 := Aside.mk (hB2.out.trans (hb3.mono hB2.out.size))))
        go_ret
        exact ⟨by rw [HF.out, HL.out]; rfl, hB3.out⟩
  · have HL : Aside (bitsOK 10 b = (!nan64 b || b == 9221120237041090560)) := ⟨by simp [bitsOK, f64OK]⟩
    cases hn : nan64 b
    all_goals
      cases he : (b == 9221120237041090560)
      all_goals
        rw [hn, he] at HL
        have HN := Aside.mk hn
        clear hn
        go_enter Try.func14, Try.ntmps14
        go_wp2_with (first | (go_at_call 10; refine (checkType_yes _ _ _ HOK.out).mono ?_; rintro e w1 ⟨rfl, hb1⟩; obtain ⟨hc, hf⟩ := bcell hb1; have hB1 := Aside.mk ((below_new w _).trans (hb1.mono (by simp))); have hz := hb1.size; simp only [World.size_alloc] at hz) | (go_at_call 39; refine (cls_64 _ h0 h1 _).mono ?_; rw [HN.out]; rintro e w2 ⟨c, rfl, hc5, hb2⟩; (first | (obtain rfl := eq_of_beq hc5) | (have hc6 : (c != 5) = true := bne_of hc5; have hc7 : ¬ c = 5 := ne_of_beq_false hc5)); have c1 := cell_kept hb1 0; have c2 := (hb2.cell (p := ⟨w.heap.size, 0, none⟩) (by show w.heap.size < _; omega)).trans c1; have f2 := (hb2.frozen (p := ⟨w.heap.size, 0, none⟩) (by show w.heap.size < _; omega)).trans (frozen_kept hb1 0); simp at c1 c2; have hB2 := Aside.mk (hB1.out.trans (hb2.mono hB1.out.size)); have hz2 := hb2.size) | (go_at_call 40; refine (nan_64 _).mono ?_; rintro e w3 ⟨rfl, hb3⟩; have hB3 := Aside.mk (hB2.out.trans (hb3.mono hB2.out.size))))
        go_ret
        exact ⟨by rw [HF.out, HL.out]; rfl, hB3.out⟩
  · go_enter Try.func14, Try.ntmps14
    go_wp2_with (first | (go_at_call 10; refine (checkType_yes _ _ _ HOK.out).mono ?_; rintro e w1 ⟨rfl, hb1⟩; obtain ⟨hc, hf⟩ := bcell hb1; have hB1 := Aside.mk ((below_new w _).trans (hb1.mono (by simp))); have hz := hb1.size; simp only [World.size_alloc] at hz))
    go_ret
    exact ⟨by rw [HF.out]; exact ret_bool (by simp [bitsOK]; omega), hB1.out⟩
  · cases hd : decOK b
    all_goals
      have HD := Aside.mk hd
      clear hd
      go_enter Try.func14, Try.ntmps14
      go_wp2_with (first | (go_at_call 10; refine (checkType_yes _ _ _ HOK.out).mono ?_; rintro e w1 ⟨rfl, hb1⟩; obtain ⟨hc, hf⟩ := bcell hb1; have hB1 := Aside.mk ((below_new w _).trans (hb1.mono (by simp))); have hz := hb1.size; simp only [World.size_alloc] at hz) | (go_at_call 41; refine (cmp_self _ h0 h1 _).mono ?_; unfold CmpP; rw [HD.out]; rintro e w2 ⟨v, rfl, rfl⟩))
      go_ret
      exact ⟨by rw [HF.out]; simp [bitsOK, HD.out], hB1.out⟩
  · cases hd : dayOK b
    all_goals
      have HD := Aside.mk hd
      clear hd
      go_enter Try.func14, Try.ntmps14
      go_wp2_with (first | (go_at_call 10; refine (checkType_yes _ _ _ HOK.out).mono ?_; rintro e w1 ⟨rfl, hb1⟩; obtain ⟨hc, hf⟩ := bcell hb1; have hB1 := Aside.mk ((below_new w _).trans (hb1.mono (by simp))); have hz := hb1.size; simp only [World.size_alloc] at hz) | (go_at_call 42; refine (printDay_any _ h0 h1 _).mono ?_; rw [HD.out]; rintro e w2 ⟨a2, n2, c2, xs, rfl, _, _, hb2⟩; have hB2 := Aside.mk (hB1.out.trans (hb2.mono hB1.out.size))))
      go_ret
      exact ⟨by rw [HF.out]; simp [bitsOK, HD.out], hB2.out⟩
  · cases hd : momOK b
    all_goals
      have HD := Aside.mk hd
      clear hd
      go_enter Try.func14, Try.ntmps14
      go_wp2_with (first | (go_at_call 10; refine (checkType_yes _ _ _ HOK.out).mono ?_; rintro e w1 ⟨rfl, hb1⟩; obtain ⟨hc, hf⟩ := bcell hb1; have hB1 := Aside.mk ((below_new w _).trans (hb1.mono (by simp))); have hz := hb1.size; simp only [World.size_alloc] at hz) | (go_at_call 43; refine (printMoment_any _ h0 h1 _).mono ?_; rw [HD.out]; rintro e w2 ⟨a2, n2, c2, xs, rfl, _, _, hb2⟩; have hB2 := Aside.mk (hB1.out.trans (hb2.mono hB1.out.size))))
      go_ret
      exact ⟨by rw [HF.out]; simp [bitsOK, HD.out], hB2.out⟩
  · go_enter Try.func14, Try.ntmps14
    go_wp2_with (first | (go_at_call 10; refine (checkType_yes _ _ _ HOK.out).mono ?_; rintro e w1 ⟨rfl, hb1⟩; obtain ⟨hc, hf⟩ := bcell hb1; have hB1 := Aside.mk ((below_new w _).trans (hb1.mono (by simp))); have hz := hb1.size; simp only [World.size_alloc] at hz))
    go_ret
    exact ⟨by rw [HF.out]; rfl, hB1.out⟩
  · go_enter Try.func14, Try.ntmps14
    go_wp2_with (first | (go_at_call 10; refine (checkType_yes _ _ _ HOK.out).mono ?_; rintro e w1 ⟨rfl, hb1⟩; obtain ⟨hc, hf⟩ := bcell hb1; have hB1 := Aside.mk ((below_new w _).trans (hb1.mono (by simp))); have hz := hb1.size; simp only [World.size_alloc] at hz))
    go_ret
    exact ⟨by rw [HF.out]; rfl, hB1.out⟩
end Go.Proofs.Ytmhjjhaipcgbiaa
