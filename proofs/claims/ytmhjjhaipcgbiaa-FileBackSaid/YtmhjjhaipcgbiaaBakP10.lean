/- Texts of this claim, one behind the other: Fword, FitsR, Plain2. -/
import Derived.Test.YtmhjjhaipcgbiaaBakP9

namespace Go.Proofs.Ytmhjjhaipcgbiaa
open Go.RowKit
set_option linter.unusedVariables false
set_option linter.unusedSimpArgs false
set_option maxRecDepth 100000
set_option maxHeartbeats 1000000
theorem or_shift (x n : Nat) (d : Nat) (hx : x < 256 ^ n) : x ||| (d * 256 ^ n) = x + d * 256 ^ n := by
  have e : 256 ^ n = 2 ^ (8 * n) := by rw [show 256 = 2 ^ 8 from rfl, Nat.pow_mul]
  rw [e] at hx ⊢
  rw [Nat.mul_comm, Nat.or_comm, ← Nat.two_pow_add_eq_or_of_lt hx]
  omega
theorem wrap_u64 (n : Nat) (h : n < 18446744073709551616) : IntKind.u64.wrap (n : Int) = (n : Int) := by
  have e : IntKind.u64.wrap (n : Int) = (n : Int) % 18446744073709551616 := rfl
  rw [e]; omega
theorem word_next (x n : Nat) (y : Int) (hx : x < 256 ^ n) (h0 : 0 ≤ y) (h1 : y < 256) (hn : n ≤ 7) : bits .or .u64 (x : Int) (IntKind.u64.wrap (y * 2 ^ (8 * n))) = ((x + y.toNat * 256 ^ n : Nat) : Int) := by
  obtain ⟨d, rfl⟩ := Int.eq_ofNat_of_zero_le h0
  have e : 256 ^ n = 2 ^ (8 * n) := by rw [show 256 = 2 ^ 8 from rfl, Nat.pow_mul]
  have e2 : (d : Int) * 2 ^ (8 * n) = ((d * 256 ^ n : Nat) : Int) := by rw [e]; simp
  have hp : 256 ^ n ≤ 256 ^ 7 := Nat.pow_le_pow_right (by decide) hn
  have hd : d * 256 ^ n ≤ 255 * 256 ^ n := Nat.mul_le_mul_right _ (by omega)
  have h7 : (256 : Nat) ^ 7 = 72057594037927936 := by decide
  have hlt : d * 256 ^ n < 18446744073709551616 := by omega
  rw [e2, wrap_u64 _ hlt, u64_or_nat _ _ (by omega) hlt, or_shift _ _ _ hx, Int.toNat_natCast]
theorem fword_1 (c : Col) (B D E X : SL) (i : Nat) (hi : i * 1 + 1 ≤ c.data.length) (hb : IsBytes c.data) (hl : c.data.length ≤ 100000000) (w : World) (h : Rd w 1 (.slice D.a c.data.length D.c) c.data.length (c.data.map (.int .u8))) :
    Calls Try.prog 70 #[.agg #[.int .i64 1], colV c B D E X, .int .i64 (i : Int)] w (U64P (wordAt c.data (i * 1) 1) w) := by
  obtain ⟨da, dc⟩ := D
  obtain ⟨g, off, cap, hs, hlc, hcap, _⟩ := rd_get h 0 (by omega)
  simp only [Value.slice.injEq, true_and] at hs
  obtain ⟨rfl, rfl⟩ := hs
  have HR := Aside.mk h
  have HB := Aside.mk hb
  have hbn := Aside.mk ((below_new w (.cells #[.int .i64 1] 128)).trans ((below_new _ (.cells #[.int .i64 c.k, .int .i64 c.s, .int .i64 c.n, .int .i64 c.m, .slice B.a c.bits.length B.c, .slice (some ⟨g, off, none⟩) c.data.length dc, .slice E.a c.ends.length E.c, .slice X.a c.words.length X.c] 43)).mono (by simp)))
  clear h hb
  dsimp only [colV]
  go_enter Try.func70, Try.ntmps70
  go_wp2
  go_loopw [7, 11] (fun xv kv wr => ∃ k : Nat, k ≤ 1 ∧ kv = .int .i64 (k : Int) ∧ xv = .int .u64 (wordAt c.data (i * 1) k : Int) ∧ wr = ((w.alloc (.cells #[.int .i64 1] 128)).alloc (.cells #[.int .i64 c.k, .int .i64 c.s, .int .i64 c.n, .int .i64 c.m, .slice B.a c.bits.length B.c, .slice (some ⟨g, off, none⟩) c.data.length dc, .slice E.a c.ends.length E.c, .slice X.a c.words.length X.c] 43))) (fun xv kv _ => 1 - (intOf kv).toNat)
  case atStart => exact ⟨0, by omega, rfl, rfl, rfl⟩
  case round =>
    obtain ⟨k, hk, rfl, rfl, rfl⟩ := hrel
    by_cases hlt : k < 1
    · obtain ⟨g', off', cap', hs', _, _, hc⟩ := rd_get HR.out (i * 1 + k) (by omega)
      simp only [Value.slice.injEq, Option.some.injEq, Addr.mk.injEq, and_true, true_and] at hs'
      obtain ⟨⟨rfl, rfl⟩, rfl⟩ := hs'
      have hc2 := (hbn.out.cell (p := ⟨g, off + (i * 1 + k), none⟩) (World.block_lt_of_cell? _ _ hc)).trans hc
      have hv := getD_byte HB.out (i * 1 + k)
      have hw := wordAt_lt HB.out (i * 1) k
      have HS := Aside.mk (show _ = ((wordAt c.data (i * 1) (k + 1) : Nat) : Int) from word_next _ k _ hw hv.1 hv.2 (by omega))
      generalize hx : wordAt c.data (i * 1) (k + 1) = z at *
      have HX := Aside.mk hx
      clear hx
      generalize wordAt c.data (i * 1) k = x at *
      generalize c.data.getD (i * 1 + k) 0 = y at *
      clear hc
      simp only [Nat.mul_one] at hc2
      go_wp2
      refine ⟨⟨k + 1, by omega, by simp, ?_, trivial⟩, by simp [intOf]; omega⟩
      rw [HX.out, HS.out]
    · obtain rfl : k = 1 := by omega
      go_wp2
      go_ret
      exact ⟨rfl, hbn.out⟩
theorem fword_2 (c : Col) (B D E X : SL) (i : Nat) (hi : i * 2 + 2 ≤ c.data.length) (hb : IsBytes c.data) (hl : c.data.length ≤ 100000000) (w : World) (h : Rd w 1 (.slice D.a c.data.length D.c) c.data.length (c.data.map (.int .u8))) :
    Calls Try.prog 70 #[.agg #[.int .i64 2], colV c B D E X, .int .i64 (i : Int)] w (U64P (wordAt c.data (i * 2) 2) w) := by
  obtain ⟨da, dc⟩ := D
  obtain ⟨g, off, cap, hs, hlc, hcap, _⟩ := rd_get h 0 (by omega)
  simp only [Value.slice.injEq, true_and] at hs
  obtain ⟨rfl, rfl⟩ := hs
  have HR := Aside.mk h
  have HB := Aside.mk hb
  have hbn := Aside.mk ((below_new w (.cells #[.int .i64 2] 128)).trans ((below_new _ (.cells #[.int .i64 c.k, .int .i64 c.s, .int .i64 c.n, .int .i64 c.m, .slice B.a c.bits.length B.c, .slice (some ⟨g, off, none⟩) c.data.length dc, .slice E.a c.ends.length E.c, .slice X.a c.words.length X.c] 43)).mono (by simp)))
  clear h hb
  dsimp only [colV]
  go_enter Try.func70, Try.ntmps70
  go_wp2
  go_loopw [7, 11] (fun xv kv wr => ∃ k : Nat, k ≤ 2 ∧ kv = .int .i64 (k : Int) ∧ xv = .int .u64 (wordAt c.data (i * 2) k : Int) ∧ wr = ((w.alloc (.cells #[.int .i64 2] 128)).alloc (.cells #[.int .i64 c.k, .int .i64 c.s, .int .i64 c.n, .int .i64 c.m, .slice B.a c.bits.length B.c, .slice (some ⟨g, off, none⟩) c.data.length dc, .slice E.a c.ends.length E.c, .slice X.a c.words.length X.c] 43))) (fun xv kv _ => 2 - (intOf kv).toNat)
  case atStart => exact ⟨0, by omega, rfl, rfl, rfl⟩
  case round =>
    obtain ⟨k, hk, rfl, rfl, rfl⟩ := hrel
    by_cases hlt : k < 2
    · obtain ⟨g', off', cap', hs', _, _, hc⟩ := rd_get HR.out (i * 2 + k) (by omega)
      simp only [Value.slice.injEq, Option.some.injEq, Addr.mk.injEq, and_true, true_and] at hs'
      obtain ⟨⟨rfl, rfl⟩, rfl⟩ := hs'
      have hc2 := (hbn.out.cell (p := ⟨g, off + (i * 2 + k), none⟩) (World.block_lt_of_cell? _ _ hc)).trans hc
      have hv := getD_byte HB.out (i * 2 + k)
      have hw := wordAt_lt HB.out (i * 2) k
      have HS := Aside.mk (show _ = ((wordAt c.data (i * 2) (k + 1) : Nat) : Int) from word_next _ k _ hw hv.1 hv.2 (by omega))
      generalize hx : wordAt c.data (i * 2) (k + 1) = z at *
      have HX := Aside.mk hx
      clear hx
      generalize wordAt c.data (i * 2) k = x at *
      generalize c.data.getD (i * 2 + k) 0 = y at *
      clear hc
      go_wp2
      refine ⟨⟨k + 1, by omega, by simp, ?_, trivial⟩, by simp [intOf]; omega⟩
      rw [HX.out, HS.out]
    · obtain rfl : k = 2 := by omega
      go_wp2
      go_ret
      exact ⟨rfl, hbn.out⟩
theorem fword_4 (c : Col) (B D E X : SL) (i : Nat) (hi : i * 4 + 4 ≤ c.data.length) (hb : IsBytes c.data) (hl : c.data.length ≤ 100000000) (w : World) (h : Rd w 1 (.slice D.a c.data.length D.c) c.data.length (c.data.map (.int .u8))) :
    Calls Try.prog 70 #[.agg #[.int .i64 4], colV c B D E X, .int .i64 (i : Int)] w (U64P (wordAt c.data (i * 4) 4) w) := by
  obtain ⟨da, dc⟩ := D
  obtain ⟨g, off, cap, hs, hlc, hcap, _⟩ := rd_get h 0 (by omega)
  simp only [Value.slice.injEq, true_and] at hs
  obtain ⟨rfl, rfl⟩ := hs
  have HR := Aside.mk h
  have HB := Aside.mk hb
  have hbn := Aside.mk ((below_new w (.cells #[.int .i64 4] 128)).trans ((below_new _ (.cells #[.int .i64 c.k, .int .i64 c.s, .int .i64 c.n, .int .i64 c.m, .slice B.a c.bits.length B.c, .slice (some ⟨g, off, none⟩) c.data.length dc, .slice E.a c.ends.length E.c, .slice X.a c.words.length X.c] 43)).mono (by simp)))
  clear h hb
  dsimp only [colV]
  go_enter Try.func70, Try.ntmps70
  go_wp2
  go_loopw [7, 11] (fun xv kv wr => ∃ k : Nat, k ≤ 4 ∧ kv = .int .i64 (k : Int) ∧ xv = .int .u64 (wordAt c.data (i * 4) k : Int) ∧ wr = ((w.alloc (.cells #[.int .i64 4] 128)).alloc (.cells #[.int .i64 c.k, .int .i64 c.s, .int .i64 c.n, .int .i64 c.m, .slice B.a c.bits.length B.c, .slice (some ⟨g, off, none⟩) c.data.length dc, .slice E.a c.ends.length E.c, .slice X.a c.words.length X.c] 43))) (fun xv kv _ => 4 - (intOf kv).toNat)
  case atStart => exact ⟨0, by omega, rfl, rfl, rfl⟩
  case round =>
    obtain ⟨k, hk, rfl, rfl, rfl⟩ := hrel
    by_cases hlt : k < 4
    · obtain ⟨g', off', cap', hs', _, _, hc⟩ := rd_get HR.out (i * 4 + k) (by omega)
      simp only [Value.slice.injEq, Option.some.injEq, Addr.mk.injEq, and_true, true_and] at hs'
      obtain ⟨⟨rfl, rfl⟩, rfl⟩ := hs'
      have hc2 := (hbn.out.cell (p := ⟨g, off + (i * 4 + k), none⟩) (World.block_lt_of_cell? _ _ hc)).trans hc
      have hv := getD_byte HB.out (i * 4 + k)
      have hw := wordAt_lt HB.out (i * 4) k
      have HS := Aside.mk (show _ = ((wordAt c.data (i * 4) (k + 1) : Nat) : Int) from word_next _ k _ hw hv.1 hv.2 (by omega))
      generalize hx : wordAt c.data (i * 4) (k + 1) = z at *
      have HX := Aside.mk hx
      clear hx
      generalize wordAt c.data (i * 4) k = x at *
      generalize c.data.getD (i * 4 + k) 0 = y at *
      clear hc
      go_wp2
      refine ⟨⟨k + 1, by omega, by simp, ?_, trivial⟩, by simp [intOf]; omega⟩
      rw [HX.out, HS.out]
    · obtain rfl : k = 4 := by omega
      go_wp2
      go_ret
      exact ⟨rfl, hbn.out⟩
theorem fword_8 (c : Col) (B D E X : SL) (i : Nat) (hi : i * 8 + 8 ≤ c.data.length) (hb : IsBytes c.data) (hl : c.data.length ≤ 100000000) (w : World) (h : Rd w 1 (.slice D.a c.data.length D.c) c.data.length (c.data.map (.int .u8))) :
    Calls Try.prog 70 #[.agg #[.int .i64 8], colV c B D E X, .int .i64 (i : Int)] w (U64P (wordAt c.data (i * 8) 8) w) := by
  obtain ⟨da, dc⟩ := D
  obtain ⟨g, off, cap, hs, hlc, hcap, _⟩ := rd_get h 0 (by omega)
  simp only [Value.slice.injEq, true_and] at hs
  obtain ⟨rfl, rfl⟩ := hs
  have HR := Aside.mk h
  have HB := Aside.mk hb
  have hbn := Aside.mk ((below_new w (.cells #[.int .i64 8] 128)).trans ((below_new _ (.cells #[.int .i64 c.k, .int .i64 c.s, .int .i64 c.n, .int .i64 c.m, .slice B.a c.bits.length B.c, .slice (some ⟨g, off, none⟩) c.data.length dc, .slice E.a c.ends.length E.c, .slice X.a c.words.length X.c] 43)).mono (by simp)))
  clear h hb
  dsimp only [colV]
  go_enter Try.func70, Try.ntmps70
  go_wp2
  go_loopw [7, 11] (fun xv kv wr => ∃ k : Nat, k ≤ 8 ∧ kv = .int .i64 (k : Int) ∧ xv = .int .u64 (wordAt c.data (i * 8) k : Int) ∧ wr = ((w.alloc (.cells #[.int .i64 8] 128)).alloc (.cells #[.int .i64 c.k, .int .i64 c.s, .int .i64 c.n, .int .i64 c.m, .slice B.a c.bits.length B.c, .slice (some ⟨g, off, none⟩) c.data.length dc, .slice E.a c.ends.length E.c, .slice X.a c.words.length X.c] 43))) (fun xv kv _ => 8 - (intOf kv).toNat)
  case atStart => exact ⟨0, by omega, rfl, rfl, rfl⟩
  case round =>
    obtain ⟨k, hk, rfl, rfl, rfl⟩ := hrel
    by_cases hlt : k < 8
    · obtain ⟨g', off', cap', hs', _, _, hc⟩ := rd_get HR.out (i * 8 + k) (by omega)
      simp only [Value.slice.injEq, Option.some.injEq, Addr.mk.injEq, and_true, true_and] at hs'
      obtain ⟨⟨rfl, rfl⟩, rfl⟩ := hs'
      have hc2 := (hbn.out.cell (p := ⟨g, off + (i * 8 + k), none⟩) (World.block_lt_of_cell? _ _ hc)).trans hc
      have hv := getD_byte HB.out (i * 8 + k)
      have hw := wordAt_lt HB.out (i * 8) k
      have HS := Aside.mk (show _ = ((wordAt c.data (i * 8) (k + 1) : Nat) : Int) from word_next _ k _ hw hv.1 hv.2 (by omega))
      generalize hx : wordAt c.data (i * 8) (k + 1) = z at *
      have HX := Aside.mk hx
      clear hx
      generalize wordAt c.data (i * 8) k = x at *
      generalize c.data.getD (i * 8 + k) 0 = y at *
      clear hc
      go_wp2
      refine ⟨⟨k + 1, by omega, by simp, ?_, trivial⟩, by simp [intOf]; omega⟩
      rw [HX.out, HS.out]
    · obtain rfl : k = 8 := by omega
      go_wp2
      go_ret
      exact ⟨rfl, hbn.out⟩
theorem fword_any (W : Nat) (hW : W = 1 ∨ W = 2 ∨ W = 4 ∨ W = 8) (c : Col) (B D E X : SL) (i : Nat) (hi : i * W + W ≤ c.data.length) (hb : IsBytes c.data) (hl : c.data.length ≤ 100000000) (w : World) (h : Rd w 1 (.slice D.a c.data.length D.c) c.data.length (c.data.map (.int .u8))) :
    Calls Try.prog 70 #[.agg #[.int .i64 (W : Int)], colV c B D E X, .int .i64 (i : Int)] w (U64P (wordAt c.data (i * W) W) w) := by
  rcases hW with rfl | rfl | rfl | rfl
  · exact fword_1 c B D E X i hi hb hl w h
  · exact fword_2 c B D E X i hi hb hl w h
  · exact fword_4 c B D E X i hi hb hl w h
  · exact fword_8 c B D E X i hi hb hl w h
end Go.Proofs.Ytmhjjhaipcgbiaa


namespace Go.Proofs.Ytmhjjhaipcgbiaa
open Go.RowKit
set_option linter.unusedVariables false
set_option linter.unusedSimpArgs false
set_option maxRecDepth 100000
set_option maxHeartbeats 1000000
theorem r18fits_no (k s b : Int) (w : World) (h : okType k s = false) : Calls Try.prog 15 #[.agg #[.int .i64 k, .int .i64 s], .int .u64 b] w (FitsP (fitsB k s b) w) := by
  have HOK := Aside.mk h
  have HF : Aside (fitsB k s b = false) := ⟨by simp [fitsB, h]⟩
  clear h
  go_enter Try.func15, Try.ntmps15
  go_wp2_with (go_at_call 11; refine (r18check_no _ _ _ HOK.out).mono ?_; rintro e w1 ⟨rfl, hb1⟩; have hB1 := Aside.mk ((below_new w _).trans (hb1.mono (by simp))))
  go_ret
  exact ⟨by rw [HF.out]; rfl, hB1.out⟩
theorem r18fits_yes (k s b : Int) (h0 : 0 ≤ b) (h1 : b ≤ 18446744073709551615) (w : World) (h : okType k s = true) : Calls Try.prog 15 #[.agg #[.int .i64 k, .int .i64 s], .int .u64 b] w (FitsP (fitsB k s b) w) := by
  have HOK := Aside.mk h
  have HF : Aside (fitsB k s b = bitsOK k b) := ⟨by simp [fitsB, h]⟩
  have hk : k = 1 ∨ k = 2 ∨ k = 3 ∨ k = 4 ∨ k = 5 ∨ k = 6 ∨ k = 7 ∨ k = 8 ∨ k = 9 ∨ k = 10 ∨ k = 11 ∨ k = 12 ∨ k = 13 ∨ k = 14 ∨ k = 15 ∨ k = 16 := by simp [okType] at h; omega
  clear h
  rcases hk with rfl | rfl | rfl | rfl | rfl | rfl | rfl | rfl | rfl | rfl | rfl | rfl | rfl | rfl | rfl | rfl
  · go_enter Try.func15, Try.ntmps15
    go_wp2_with (first | (go_at_call 11; refine (r18check_yes _ _ _ HOK.out).mono ?_; rintro e w1 ⟨rfl, hb1⟩; have hB1 := Aside.mk ((below_new w _).trans (hb1.mono (by simp))); have hz := hb1.size; simp only [World.size_alloc] at hz; have c10 := cell_kept hb1 0; have c11 := cell_kept hb1 1; have f10 := frozen_kept hb1 0; have f11 := frozen_kept hb1 1; simp at c10 c11) | (go_at_call 45; refine (worded_any _ _ _).mono ?_; rintro e w2 ⟨rfl, hb2⟩; have hB2 := Aside.mk (hB1.out.trans (hb2.mono hB1.out.size)); have hz2 := hb2.size; have c20 := (hb2.cell (p := ⟨w.heap.size, 0, none⟩) (by show w.heap.size < _; omega)).trans c10; have f20 := (hb2.frozen (p := ⟨w.heap.size, 0, none⟩) (by show w.heap.size < _; omega)).trans f10; have c21 := (hb2.cell (p := ⟨w.heap.size, 1, none⟩) (by show w.heap.size < _; omega)).trans c11; have f21 := (hb2.frozen (p := ⟨w.heap.size, 1, none⟩) (by show w.heap.size < _; omega)).trans f11) | (go_at_call 51; refine (r5fits_yes _ _ h0 h1 _ (by omega)).mono ?_; rintro e w3 ⟨rfl, hb3⟩; have hB3 := Aside.mk (hB2.out.trans (hb3.mono hB2.out.size))))
    go_ret
    exact ⟨by rw [HF.out]; rfl, hB3.out⟩
  · go_enter Try.func15, Try.ntmps15
    go_wp2_with (first | (go_at_call 11; refine (r18check_yes _ _ _ HOK.out).mono ?_; rintro e w1 ⟨rfl, hb1⟩; have hB1 := Aside.mk ((below_new w _).trans (hb1.mono (by simp))); have hz := hb1.size; simp only [World.size_alloc] at hz; have c10 := cell_kept hb1 0; have c11 := cell_kept hb1 1; have f10 := frozen_kept hb1 0; have f11 := frozen_kept hb1 1; simp at c10 c11) | (go_at_call 45; refine (worded_any _ _ _).mono ?_; rintro e w2 ⟨rfl, hb2⟩; have hB2 := Aside.mk (hB1.out.trans (hb2.mono hB1.out.size)); have hz2 := hb2.size; have c20 := (hb2.cell (p := ⟨w.heap.size, 0, none⟩) (by show w.heap.size < _; omega)).trans c10; have f20 := (hb2.frozen (p := ⟨w.heap.size, 0, none⟩) (by show w.heap.size < _; omega)).trans f10; have c21 := (hb2.cell (p := ⟨w.heap.size, 1, none⟩) (by show w.heap.size < _; omega)).trans c11; have f21 := (hb2.frozen (p := ⟨w.heap.size, 1, none⟩) (by show w.heap.size < _; omega)).trans f11) | (go_at_call 51; refine (r5fits_yes _ _ h0 h1 _ (by omega)).mono ?_; rintro e w3 ⟨rfl, hb3⟩; have hB3 := Aside.mk (hB2.out.trans (hb3.mono hB2.out.size))))
    go_ret
    exact ⟨by rw [HF.out]; rfl, hB3.out⟩
  · go_enter Try.func15, Try.ntmps15
    go_wp2_with (first | (go_at_call 11; refine (r18check_yes _ _ _ HOK.out).mono ?_; rintro e w1 ⟨rfl, hb1⟩; have hB1 := Aside.mk ((below_new w _).trans (hb1.mono (by simp))); have hz := hb1.size; simp only [World.size_alloc] at hz; have c10 := cell_kept hb1 0; have c11 := cell_kept hb1 1; have f10 := frozen_kept hb1 0; have f11 := frozen_kept hb1 1; simp at c10 c11) | (go_at_call 45; refine (worded_any _ _ _).mono ?_; rintro e w2 ⟨rfl, hb2⟩; have hB2 := Aside.mk (hB1.out.trans (hb2.mono hB1.out.size)); have hz2 := hb2.size; have c20 := (hb2.cell (p := ⟨w.heap.size, 0, none⟩) (by show w.heap.size < _; omega)).trans c10; have f20 := (hb2.frozen (p := ⟨w.heap.size, 0, none⟩) (by show w.heap.size < _; omega)).trans f10; have c21 := (hb2.cell (p := ⟨w.heap.size, 1, none⟩) (by show w.heap.size < _; omega)).trans c11; have f21 := (hb2.frozen (p := ⟨w.heap.size, 1, none⟩) (by show w.heap.size < _; omega)).trans f11) | (go_at_call 51; refine (r5fits_yes _ _ h0 h1 _ (by omega)).mono ?_; rintro e w3 ⟨rfl, hb3⟩; have hB3 := Aside.mk (hB2.out.trans (hb3.mono hB2.out.size))))
    go_ret
    exact ⟨by rw [HF.out]; rfl, hB3.out⟩
  · go_enter Try.func15, Try.ntmps15
    go_wp2_with (first | (go_at_call 11; refine (r18check_yes _ _ _ HOK.out).mono ?_; rintro e w1 ⟨rfl, hb1⟩; have hB1 := Aside.mk ((below_new w _).trans (hb1.mono (by simp))); have hz := hb1.size; simp only [World.size_alloc] at hz; have c10 := cell_kept hb1 0; have c11 := cell_kept hb1 1; have f10 := frozen_kept hb1 0; have f11 := frozen_kept hb1 1; simp at c10 c11) | (go_at_call 45; refine (worded_any _ _ _).mono ?_; rintro e w2 ⟨rfl, hb2⟩; have hB2 := Aside.mk (hB1.out.trans (hb2.mono hB1.out.size)); have hz2 := hb2.size; have c20 := (hb2.cell (p := ⟨w.heap.size, 0, none⟩) (by show w.heap.size < _; omega)).trans c10; have f20 := (hb2.frozen (p := ⟨w.heap.size, 0, none⟩) (by show w.heap.size < _; omega)).trans f10; have c21 := (hb2.cell (p := ⟨w.heap.size, 1, none⟩) (by show w.heap.size < _; omega)).trans c11; have f21 := (hb2.frozen (p := ⟨w.heap.size, 1, none⟩) (by show w.heap.size < _; omega)).trans f11) | (go_at_call 51; refine (r5fits_yes _ _ h0 h1 _ (by omega)).mono ?_; rintro e w3 ⟨rfl, hb3⟩; have hB3 := Aside.mk (hB2.out.trans (hb3.mono hB2.out.size))))
    go_ret
    exact ⟨by rw [HF.out]; rfl, hB3.out⟩
  · go_enter Try.func15, Try.ntmps15
    go_wp2_with (first | (go_at_call 11; refine (r18check_yes _ _ _ HOK.out).mono ?_; rintro e w1 ⟨rfl, hb1⟩; have hB1 := Aside.mk ((below_new w _).trans (hb1.mono (by simp))); have hz := hb1.size; simp only [World.size_alloc] at hz; have c10 := cell_kept hb1 0; have c11 := cell_kept hb1 1; have f10 := frozen_kept hb1 0; have f11 := frozen_kept hb1 1; simp at c10 c11) | (go_at_call 45; refine (worded_any _ _ _).mono ?_; rintro e w2 ⟨rfl, hb2⟩; have hB2 := Aside.mk (hB1.out.trans (hb2.mono hB1.out.size)); have hz2 := hb2.size; have c20 := (hb2.cell (p := ⟨w.heap.size, 0, none⟩) (by show w.heap.size < _; omega)).trans c10; have f20 := (hb2.frozen (p := ⟨w.heap.size, 0, none⟩) (by show w.heap.size < _; omega)).trans f10; have c21 := (hb2.cell (p := ⟨w.heap.size, 1, none⟩) (by show w.heap.size < _; omega)).trans c11; have f21 := (hb2.frozen (p := ⟨w.heap.size, 1, none⟩) (by show w.heap.size < _; omega)).trans f11) | (go_at_call 51; refine (r5fits_yes _ _ h0 h1 _ (by omega)).mono ?_; rintro e w3 ⟨rfl, hb3⟩; have hB3 := Aside.mk (hB2.out.trans (hb3.mono hB2.out.size))))
    go_ret
    exact ⟨by rw [HF.out]; rfl, hB3.out⟩
  · go_enter Try.func15, Try.ntmps15
    go_wp2_with (first | (go_at_call 11; refine (r18check_yes _ _ _ HOK.out).mono ?_; rintro e w1 ⟨rfl, hb1⟩; have hB1 := Aside.mk ((below_new w _).trans (hb1.mono (by simp))); have hz := hb1.size; simp only [World.size_alloc] at hz; have c10 := cell_kept hb1 0; have c11 := cell_kept hb1 1; have f10 := frozen_kept hb1 0; have f11 := frozen_kept hb1 1; simp at c10 c11) | (go_at_call 45; refine (worded_any _ _ _).mono ?_; rintro e w2 ⟨rfl, hb2⟩; have hB2 := Aside.mk (hB1.out.trans (hb2.mono hB1.out.size)); have hz2 := hb2.size; have c20 := (hb2.cell (p := ⟨w.heap.size, 0, none⟩) (by show w.heap.size < _; omega)).trans c10; have f20 := (hb2.frozen (p := ⟨w.heap.size, 0, none⟩) (by show w.heap.size < _; omega)).trans f10; have c21 := (hb2.cell (p := ⟨w.heap.size, 1, none⟩) (by show w.heap.size < _; omega)).trans c11; have f21 := (hb2.frozen (p := ⟨w.heap.size, 1, none⟩) (by show w.heap.size < _; omega)).trans f11) | (go_at_call 51; refine (r5fits_yes _ _ h0 h1 _ (by omega)).mono ?_; rintro e w3 ⟨rfl, hb3⟩; have hB3 := Aside.mk (hB2.out.trans (hb3.mono hB2.out.size))))
    go_ret
    exact ⟨by rw [HF.out]; rfl, hB3.out⟩
  · go_enter Try.func15, Try.ntmps15
    go_wp2_with (first | (go_at_call 11; refine (r18check_yes _ _ _ HOK.out).mono ?_; rintro e w1 ⟨rfl, hb1⟩; have hB1 := Aside.mk ((below_new w _).trans (hb1.mono (by simp))); have hz := hb1.size; simp only [World.size_alloc] at hz; have c10 := cell_kept hb1 0; have c11 := cell_kept hb1 1; have f10 := frozen_kept hb1 0; have f11 := frozen_kept hb1 1; simp at c10 c11) | (go_at_call 45; refine (worded_any _ _ _).mono ?_; rintro e w2 ⟨rfl, hb2⟩; have hB2 := Aside.mk (hB1.out.trans (hb2.mono hB1.out.size)); have hz2 := hb2.size; have c20 := (hb2.cell (p := ⟨w.heap.size, 0, none⟩) (by show w.heap.size < _; omega)).trans c10; have f20 := (hb2.frozen (p := ⟨w.heap.size, 0, none⟩) (by show w.heap.size < _; omega)).trans f10; have c21 := (hb2.cell (p := ⟨w.heap.size, 1, none⟩) (by show w.heap.size < _; omega)).trans c11; have f21 := (hb2.frozen (p := ⟨w.heap.size, 1, none⟩) (by show w.heap.size < _; omega)).trans f11) | (go_at_call 51; refine (r5fits_yes _ _ h0 h1 _ (by omega)).mono ?_; rintro e w3 ⟨rfl, hb3⟩; have hB3 := Aside.mk (hB2.out.trans (hb3.mono hB2.out.size))))
    go_ret
    exact ⟨by rw [HF.out]; rfl, hB3.out⟩
  · go_enter Try.func15, Try.ntmps15
    go_wp2_with (first | (go_at_call 11; refine (r18check_yes _ _ _ HOK.out).mono ?_; rintro e w1 ⟨rfl, hb1⟩; have hB1 := Aside.mk ((below_new w _).trans (hb1.mono (by simp))); have hz := hb1.size; simp only [World.size_alloc] at hz; have c10 := cell_kept hb1 0; have c11 := cell_kept hb1 1; have f10 := frozen_kept hb1 0; have f11 := frozen_kept hb1 1; simp at c10 c11) | (go_at_call 45; refine (worded_any _ _ _).mono ?_; rintro e w2 ⟨rfl, hb2⟩; have hB2 := Aside.mk (hB1.out.trans (hb2.mono hB1.out.size)); have hz2 := hb2.size; have c20 := (hb2.cell (p := ⟨w.heap.size, 0, none⟩) (by show w.heap.size < _; omega)).trans c10; have f20 := (hb2.frozen (p := ⟨w.heap.size, 0, none⟩) (by show w.heap.size < _; omega)).trans f10; have c21 := (hb2.cell (p := ⟨w.heap.size, 1, none⟩) (by show w.heap.size < _; omega)).trans c11; have f21 := (hb2.frozen (p := ⟨w.heap.size, 1, none⟩) (by show w.heap.size < _; omega)).trans f11) | (go_at_call 51; refine (r5fits_yes _ _ h0 h1 _ (by omega)).mono ?_; rintro e w3 ⟨rfl, hb3⟩; have hB3 := Aside.mk (hB2.out.trans (hb3.mono hB2.out.size))))
    go_ret
    exact ⟨by rw [HF.out]; rfl, hB3.out⟩
  · by_cases hlt : b < 4294967296
    case neg =>
      have HL : Aside (bitsOK 9 b = false) := ⟨by simp [bitsOK, f32OK, hlt]⟩
      have hge : 4294967296 ≤ b := by omega
      clear hlt
      go_enter Try.func15, Try.ntmps15
      go_wp2_with (first | (go_at_call 11; refine (r18check_yes _ _ _ HOK.out).mono ?_; rintro e w1 ⟨rfl, hb1⟩; have hB1 := Aside.mk ((below_new w _).trans (hb1.mono (by simp))); have hz := hb1.size; simp only [World.size_alloc] at hz; have c10 := cell_kept hb1 0; have c11 := cell_kept hb1 1; have f10 := frozen_kept hb1 0; have f11 := frozen_kept hb1 1; simp at c10 c11) | (go_at_call 45; refine (worded_any _ _ _).mono ?_; rintro e w2 ⟨rfl, hb2⟩; have hB2 := Aside.mk (hB1.out.trans (hb2.mono hB1.out.size)); have hz2 := hb2.size; have c20 := (hb2.cell (p := ⟨w.heap.size, 0, none⟩) (by show w.heap.size < _; omega)).trans c10; have f20 := (hb2.frozen (p := ⟨w.heap.size, 0, none⟩) (by show w.heap.size < _; omega)).trans f10; have c21 := (hb2.cell (p := ⟨w.heap.size, 1, none⟩) (by show w.heap.size < _; omega)).trans c11; have f21 := (hb2.frozen (p := ⟨w.heap.size, 1, none⟩) (by show w.heap.size < _; omega)).trans f11) | (go_at_call 46; refine (r3class_32_no _ hge _).mono ?_; rintro e w3 ⟨rfl, rfl⟩) | (go_at_call 47; refine (r3nan_32 _).mono ?_; rintro e w4 ⟨rfl, rfl⟩))
      go_ret
      exact ⟨by rw [HF.out, HL.out]; rfl, hB2.out⟩
    have HL : Aside (bitsOK 9 b = (!nan32 b || b == 2143289344)) := ⟨by simp [bitsOK, f32OK, hlt]⟩
    cases hn : nan32 b
    all_goals
      cases he : (b == 2143289344)
      all_goals
        rw [hn, he] at HL
        have HN := Aside.mk hn
        clear hn
        go_enter Try.func15, Try.ntmps15
        go_wp2_with (first | (go_at_call 11; refine (r18check_yes _ _ _ HOK.out).mono ?_; rintro e w1 ⟨rfl, hb1⟩; have hB1 := Aside.mk ((below_new w _).trans (hb1.mono (by simp))); have hz := hb1.size; simp only [World.size_alloc] at hz; have c10 := cell_kept hb1 0; have c11 := cell_kept hb1 1; have f10 := frozen_kept hb1 0; have f11 := frozen_kept hb1 1; simp at c10 c11) | (go_at_call 45; refine (worded_any _ _ _).mono ?_; rintro e w2 ⟨rfl, hb2⟩; have hB2 := Aside.mk (hB1.out.trans (hb2.mono hB1.out.size)); have hz2 := hb2.size; have c20 := (hb2.cell (p := ⟨w.heap.size, 0, none⟩) (by show w.heap.size < _; omega)).trans c10; have f20 := (hb2.frozen (p := ⟨w.heap.size, 0, none⟩) (by show w.heap.size < _; omega)).trans f10; have c21 := (hb2.cell (p := ⟨w.heap.size, 1, none⟩) (by show w.heap.size < _; omega)).trans c11; have f21 := (hb2.frozen (p := ⟨w.heap.size, 1, none⟩) (by show w.heap.size < _; omega)).trans f11) | (go_at_call 46; refine (r3c_32 _ h0 hlt _).mono ?_; rw [HN.out]; rintro e w3 ⟨c, rfl, hc5, hb3⟩; (first | (obtain rfl := eq_of_beq hc5) | (have hc6 : (c != 5) = true := bne_of hc5; have hc7 : ¬ c = 5 := ne_of_beq_false hc5)); have hB3 := Aside.mk (hB2.out.trans (hb3.mono hB2.out.size)); have hz3 := hb3.size; have c30 := (hb3.cell (p := ⟨w.heap.size, 0, none⟩) (by show w.heap.size < _; omega)).trans c20; have f30 := (hb3.frozen (p := ⟨w.heap.size, 0, none⟩) (by show w.heap.size < _; omega)).trans f20; have c31 := (hb3.cell (p := ⟨w.heap.size, 1, none⟩) (by show w.heap.size < _; omega)).trans c21; have f31 := (hb3.frozen (p := ⟨w.heap.size, 1, none⟩) (by show w.heap.size < _; omega)).trans f21) | (go_at_call 47; refine (r3nan_32 _).mono ?_; rintro e w4 ⟨rfl, rfl⟩))
        go_ret
        exact ⟨by rw [HF.out, HL.out]; rfl, hB3.out⟩
  · have HL : Aside (bitsOK 10 b = (!nan64 b || b == 9221120237041090560)) := ⟨by simp [bitsOK, f64OK]⟩
    cases hn : nan64 b
    all_goals
      cases he : (b == 9221120237041090560)
      all_goals
        rw [hn, he] at HL
        have HN := Aside.mk hn
        clear hn
        go_enter Try.func15, Try.ntmps15
        go_wp2_with (first | (go_at_call 11; refine (r18check_yes _ _ _ HOK.out).mono ?_; rintro e w1 ⟨rfl, hb1⟩; have hB1 := Aside.mk ((below_new w _).trans (hb1.mono (by simp))); have hz := hb1.size; simp only [World.size_alloc] at hz; have c10 := cell_kept hb1 0; have c11 := cell_kept hb1 1; have f10 := frozen_kept hb1 0; have f11 := frozen_kept hb1 1; simp at c10 c11) | (go_at_call 45; refine (worded_any _ _ _).mono ?_; rintro e w2 ⟨rfl, hb2⟩; have hB2 := Aside.mk (hB1.out.trans (hb2.mono hB1.out.size)); have hz2 := hb2.size; have c20 := (hb2.cell (p := ⟨w.heap.size, 0, none⟩) (by show w.heap.size < _; omega)).trans c10; have f20 := (hb2.frozen (p := ⟨w.heap.size, 0, none⟩) (by show w.heap.size < _; omega)).trans f10; have c21 := (hb2.cell (p := ⟨w.heap.size, 1, none⟩) (by show w.heap.size < _; omega)).trans c11; have f21 := (hb2.frozen (p := ⟨w.heap.size, 1, none⟩) (by show w.heap.size < _; omega)).trans f11) | (go_at_call 46; refine (r3c_64 _ h0 h1 _).mono ?_; rw [HN.out]; rintro e w3 ⟨c, rfl, hc5, hb3⟩; (first | (obtain rfl := eq_of_beq hc5) | (have hc6 : (c != 5) = true := bne_of hc5; have hc7 : ¬ c = 5 := ne_of_beq_false hc5)); have hB3 := Aside.mk (hB2.out.trans (hb3.mono hB2.out.size)); have hz3 := hb3.size; have c30 := (hb3.cell (p := ⟨w.heap.size, 0, none⟩) (by show w.heap.size < _; omega)).trans c20; have f30 := (hb3.frozen (p := ⟨w.heap.size, 0, none⟩) (by show w.heap.size < _; omega)).trans f20; have c31 := (hb3.cell (p := ⟨w.heap.size, 1, none⟩) (by show w.heap.size < _; omega)).trans c21; have f31 := (hb3.frozen (p := ⟨w.heap.size, 1, none⟩) (by show w.heap.size < _; omega)).trans f21) | (go_at_call 47; refine (r3nan_64 _).mono ?_; rintro e w4 ⟨rfl, rfl⟩))
        go_ret
        exact ⟨by rw [HF.out, HL.out]; rfl, hB3.out⟩
  · go_enter Try.func15, Try.ntmps15
    go_wp2_with (first | (go_at_call 11; refine (r18check_yes _ _ _ HOK.out).mono ?_; rintro e w1 ⟨rfl, hb1⟩; have hB1 := Aside.mk ((below_new w _).trans (hb1.mono (by simp))); have hz := hb1.size; simp only [World.size_alloc] at hz; have c10 := cell_kept hb1 0; have c11 := cell_kept hb1 1; have f10 := frozen_kept hb1 0; have f11 := frozen_kept hb1 1; simp at c10 c11) | (go_at_call 45; refine (worded_any _ _ _).mono ?_; rintro e w2 ⟨rfl, hb2⟩; have hB2 := Aside.mk (hB1.out.trans (hb2.mono hB1.out.size)); have hz2 := hb2.size; have c20 := (hb2.cell (p := ⟨w.heap.size, 0, none⟩) (by show w.heap.size < _; omega)).trans c10; have f20 := (hb2.frozen (p := ⟨w.heap.size, 0, none⟩) (by show w.heap.size < _; omega)).trans f10; have c21 := (hb2.cell (p := ⟨w.heap.size, 1, none⟩) (by show w.heap.size < _; omega)).trans c11; have f21 := (hb2.frozen (p := ⟨w.heap.size, 1, none⟩) (by show w.heap.size < _; omega)).trans f11))
    go_ret
    exact ⟨by rw [HF.out]; exact ret_bool (by simp [bitsOK]), hB2.out⟩
  · cases hd : decOK b
    all_goals
      have HD := Aside.mk hd
      clear hd
      go_enter Try.func15, Try.ntmps15
      go_wp2_with (first | (go_at_call 11; refine (r18check_yes _ _ _ HOK.out).mono ?_; rintro e w1 ⟨rfl, hb1⟩; have hB1 := Aside.mk ((below_new w _).trans (hb1.mono (by simp))); have hz := hb1.size; simp only [World.size_alloc] at hz; have c10 := cell_kept hb1 0; have c11 := cell_kept hb1 1; have f10 := frozen_kept hb1 0; have f11 := frozen_kept hb1 1; simp at c10 c11) | (go_at_call 45; refine (worded_any _ _ _).mono ?_; rintro e w2 ⟨rfl, hb2⟩; have hB2 := Aside.mk (hB1.out.trans (hb2.mono hB1.out.size)); have hz2 := hb2.size; have c20 := (hb2.cell (p := ⟨w.heap.size, 0, none⟩) (by show w.heap.size < _; omega)).trans c10; have f20 := (hb2.frozen (p := ⟨w.heap.size, 0, none⟩) (by show w.heap.size < _; omega)).trans f10; have c21 := (hb2.cell (p := ⟨w.heap.size, 1, none⟩) (by show w.heap.size < _; omega)).trans c11; have f21 := (hb2.frozen (p := ⟨w.heap.size, 1, none⟩) (by show w.heap.size < _; omega)).trans f11) | (go_at_call 48; refine (r12fits_any _ h0 h1 _).mono ?_; unfold R12P; rw [HD.out]; rintro e w3 ⟨v, n, rfl, rfl⟩))
      go_ret
      exact ⟨by rw [HF.out]; simp [bitsOK, HD.out], hB2.out⟩
  · cases hd : dayOK b
    all_goals
      have HD := Aside.mk hd
      clear hd
      go_enter Try.func15, Try.ntmps15
      go_wp2_with (first | (go_at_call 11; refine (r18check_yes _ _ _ HOK.out).mono ?_; rintro e w1 ⟨rfl, hb1⟩; have hB1 := Aside.mk ((below_new w _).trans (hb1.mono (by simp))); have hz := hb1.size; simp only [World.size_alloc] at hz; have c10 := cell_kept hb1 0; have c11 := cell_kept hb1 1; have f10 := frozen_kept hb1 0; have f11 := frozen_kept hb1 1; simp at c10 c11) | (go_at_call 45; refine (worded_any _ _ _).mono ?_; rintro e w2 ⟨rfl, hb2⟩; have hB2 := Aside.mk (hB1.out.trans (hb2.mono hB1.out.size)); have hz2 := hb2.size; have c20 := (hb2.cell (p := ⟨w.heap.size, 0, none⟩) (by show w.heap.size < _; omega)).trans c10; have f20 := (hb2.frozen (p := ⟨w.heap.size, 0, none⟩) (by show w.heap.size < _; omega)).trans f10; have c21 := (hb2.cell (p := ⟨w.heap.size, 1, none⟩) (by show w.heap.size < _; omega)).trans c11; have f21 := (hb2.frozen (p := ⟨w.heap.size, 1, none⟩) (by show w.heap.size < _; omega)).trans f11) | (go_at_call 49; refine (r13isDay_any _ _).mono ?_; unfold WhenP; rw [HD.out]; rintro e w3 ⟨v, rfl, rfl⟩))
      go_ret
      exact ⟨by rw [HF.out]; simp [bitsOK, HD.out], hB2.out⟩
  · cases hd : momOK b
    all_goals
      have HD := Aside.mk hd
      clear hd
      go_enter Try.func15, Try.ntmps15
      go_wp2_with (first | (go_at_call 11; refine (r18check_yes _ _ _ HOK.out).mono ?_; rintro e w1 ⟨rfl, hb1⟩; have hB1 := Aside.mk ((below_new w _).trans (hb1.mono (by simp))); have hz := hb1.size; simp only [World.size_alloc] at hz; have c10 := cell_kept hb1 0; have c11 := cell_kept hb1 1; have f10 := frozen_kept hb1 0; have f11 := frozen_kept hb1 1; simp at c10 c11) | (go_at_call 45; refine (worded_any _ _ _).mono ?_; rintro e w2 ⟨rfl, hb2⟩; have hB2 := Aside.mk (hB1.out.trans (hb2.mono hB1.out.size)); have hz2 := hb2.size; have c20 := (hb2.cell (p := ⟨w.heap.size, 0, none⟩) (by show w.heap.size < _; omega)).trans c10; have f20 := (hb2.frozen (p := ⟨w.heap.size, 0, none⟩) (by show w.heap.size < _; omega)).trans f10; have c21 := (hb2.cell (p := ⟨w.heap.size, 1, none⟩) (by show w.heap.size < _; omega)).trans c11; have f21 := (hb2.frozen (p := ⟨w.heap.size, 1, none⟩) (by show w.heap.size < _; omega)).trans f11) | (go_at_call 50; refine (r13isMoment_any _ _).mono ?_; unfold WhenP; rw [HD.out]; rintro e w3 ⟨v, rfl, rfl⟩))
      go_ret
      exact ⟨by rw [HF.out]; simp [bitsOK, HD.out], hB2.out⟩
  · go_enter Try.func15, Try.ntmps15
    go_wp2_with (first | (go_at_call 11; refine (r18check_yes _ _ _ HOK.out).mono ?_; rintro e w1 ⟨rfl, hb1⟩; have hB1 := Aside.mk ((below_new w _).trans (hb1.mono (by simp))); have hz := hb1.size; simp only [World.size_alloc] at hz; have c10 := cell_kept hb1 0; have c11 := cell_kept hb1 1; have f10 := frozen_kept hb1 0; have f11 := frozen_kept hb1 1; simp at c10 c11) | (go_at_call 45; refine (worded_any _ _ _).mono ?_; rintro e w2 ⟨rfl, hb2⟩; have hB2 := Aside.mk (hB1.out.trans (hb2.mono hB1.out.size)); have hz2 := hb2.size; have c20 := (hb2.cell (p := ⟨w.heap.size, 0, none⟩) (by show w.heap.size < _; omega)).trans c10; have f20 := (hb2.frozen (p := ⟨w.heap.size, 0, none⟩) (by show w.heap.size < _; omega)).trans f10; have c21 := (hb2.cell (p := ⟨w.heap.size, 1, none⟩) (by show w.heap.size < _; omega)).trans c11; have f21 := (hb2.frozen (p := ⟨w.heap.size, 1, none⟩) (by show w.heap.size < _; omega)).trans f11))
    go_ret
    exact ⟨by rw [HF.out]; rfl, hB2.out⟩
  · go_enter Try.func15, Try.ntmps15
    go_wp2_with (first | (go_at_call 11; refine (r18check_yes _ _ _ HOK.out).mono ?_; rintro e w1 ⟨rfl, hb1⟩; have hB1 := Aside.mk ((below_new w _).trans (hb1.mono (by simp))); have hz := hb1.size; simp only [World.size_alloc] at hz; have c10 := cell_kept hb1 0; have c11 := cell_kept hb1 1; have f10 := frozen_kept hb1 0; have f11 := frozen_kept hb1 1; simp at c10 c11) | (go_at_call 45; refine (worded_any _ _ _).mono ?_; rintro e w2 ⟨rfl, hb2⟩; have hB2 := Aside.mk (hB1.out.trans (hb2.mono hB1.out.size)); have hz2 := hb2.size; have c20 := (hb2.cell (p := ⟨w.heap.size, 0, none⟩) (by show w.heap.size < _; omega)).trans c10; have f20 := (hb2.frozen (p := ⟨w.heap.size, 0, none⟩) (by show w.heap.size < _; omega)).trans f10; have c21 := (hb2.cell (p := ⟨w.heap.size, 1, none⟩) (by show w.heap.size < _; omega)).trans c11; have f21 := (hb2.frozen (p := ⟨w.heap.size, 1, none⟩) (by show w.heap.size < _; omega)).trans f11))
    go_ret
    exact ⟨by rw [HF.out]; rfl, hB2.out⟩
theorem r18fits_any (k s b : Int) (h0 : 0 ≤ b) (h1 : b ≤ 18446744073709551615) (w : World) : Calls Try.prog 15 #[.agg #[.int .i64 k, .int .i64 s], .int .u64 b] w (FitsP (fitsB k s b) w) := by
  cases h : okType k s
  · exact r18fits_no k s b w h
  · exact r18fits_yes k s b h0 h1 w h
theorem fits_any (k s b : Int) (h0 : 0 ≤ b) (h1 : b ≤ 18446744073709551615) (w : World) : Calls Try.prog 14 #[.agg #[.int .i64 k, .int .i64 s], .int .u64 b] w (FitsP (fitsB k s b) w) := by
  cases h : okType k s
  · exact fits_no k s b w h
  · exact fits_yes k s b h0 h1 w h
end Go.Proofs.Ytmhjjhaipcgbiaa


namespace Go.Proofs.Ytmhjjhaipcgbiaa
open Go.RowKit
set_option linter.unusedVariables false
set_option linter.unusedSimpArgs false
set_option maxRecDepth 100000
set_option maxHeartbeats 1000000
def valueC (c : Col) (i : Nat) : Nat × List Int :=
  if c.k = 15 then (0, (c.data.drop (aheadI c.ends i).toNat).take (c.ends.getD i 0 - aheadI c.ends i).toNat)
  else if c.k = 16 then (0, c.words.getD (wordAt c.data (i * 4) 4) [])
  else (wordAt c.data (i * (widthOf c.k).toNat) (widthOf c.k).toNat, [])
theorem built_null (k s : Int) (l : List V) (i : Nat) (h : i < l.length) : nullB ((CS.of k l).col k s).bits i = l[i].null := by
  show nullB (mof _) i = _
  rw [mof_bit, nulls_of, List.getElem?_map, List.getElem?_eq_getElem h]
  rfl
theorem all_range {n : Nat} {p : Nat → Bool} (h : ∀ i, i < n → p i = true) : (List.range n).all p = true := by
  rw [List.all_eq_true]
  intro i hi
  exact h i (List.mem_range.1 hi)
theorem running_may (s : Int) (l : List V) (hl : ∀ v ∈ l, vOK 15 s v) : mayRunning ((CS.of 15 l).col 15 s) = true := by
  have hE := (running_ends l).1
  have hn : (CS.of 15 l).nulls.length = l.length := by rw [nulls_of]; simp
  unfold mayRunning
  simp only [Bool.and_eq_true, beq_iff_eq]
  refine ⟨⟨⟨?_, ?_⟩, all_range fun i hi => ?_⟩, ?_⟩
  · show ((CS.of 15 l).ends.length : Int) = ((CS.of 15 l).nulls.length : Int)
    rw [hE, hn]
  · show (CS.of 15 l).words.isEmpty = true
    rw [(running_data l).2]; rfl
  · have hi : i < l.length := by rw [← hE]; exact hi
    rw [built_null 15 s l i hi]
    show (!(decide ((CS.of 15 l).ends.getD i 0 < aheadI (CS.of 15 l).ends i) || decide (((CS.of 15 l).data.length : Int) < (CS.of 15 l).ends.getD i 0) || (l[i].null && (CS.of 15 l).ends.getD i 0 != aheadI (CS.of 15 l).ends i))) = true
    rw [running_ahead l i (by omega), (running_ends l).2 i hi, (running_data l).1]
    obtain ⟨_, h2, h3⟩ := running_piece l i hi
    have hv := hl l[i] (List.getElem_mem _)
    simp only [Bool.not_eq_true', Bool.or_eq_false_iff, Bool.and_eq_false_iff, decide_eq_false_iff_not]
    refine ⟨⟨by omega, by omega⟩, ?_⟩
    cases hnl : l[i].null with
    | false => exact .inl rfl
    | true =>
      refine .inr ?_
      have := (hv.2.2.1 hnl).2
      rw [this] at h2
      simp at h2
      simp [h2]
  · show aheadI (CS.of 15 l).ends (CS.of 15 l).ends.length = ((CS.of 15 l).data.length : Int)
    rw [hE, running_ahead l _ (Nat.le_refl _), (running_data l).1, List.take_length]
theorem running_value (s : Int) (l : List V) (hl : ∀ v ∈ l, vOK 15 s v) (i : Nat) (h : i < l.length) : valueC ((CS.of 15 l).col 15 s) i = (l[i].bits, l[i].text) := by
  have hv := hl l[i] (List.getElem_mem _)
  have hb : l[i].bits = 0 := by
    cases hn : l[i].null with
    | true => exact (hv.2.2.1 hn).1
    | false => have := hv.2.2.2 hn; exact this
  rw [hb]
  unfold valueC
  rw [if_pos (show ((CS.of 15 l).col 15 s).k = 15 from rfl)]
  show (0, ((CS.of 15 l).data.drop (aheadI (CS.of 15 l).ends i).toNat).take ((CS.of 15 l).ends.getD i 0 - aheadI (CS.of 15 l).ends i).toNat) = _
  obtain ⟨h1, h2, h3⟩ := running_piece l i h
  rw [running_ahead l i (by omega), (running_ends l).2 i h, (running_data l).1, Int.toNat_natCast, show ((((l.take (i + 1)).flatMap (·.text)).length : Int) - (((l.take i).flatMap (·.text)).length : Int)).toNat = ((l.take (i + 1)).flatMap (·.text)).length - ((l.take i).flatMap (·.text)).length by omega, h1]
theorem coded_word (s : Int) (l : List V) (hm : l.length ≤ 100000000) (i : Nat) (h : i < l.length) : wordAt ((CS.of 16 l).col 16 s).data (i * 4) 4 = if l[i].null then 0 else codeOf (wordsOf [] (l.take i)) l[i].text := by
  show wordAt (CS.of 16 l).data (i * 4) 4 = _
  rw [coded_of]
  show wordAt ((codesOf [] l).flatMap fun x => lows x 4) (i * 4) 4 = _
  have hg := codes_get l [] i h
  have hi : i < (codesOf [] l).length := by rw [codes_len]; exact h
  rw [wordAt_flat _ 4 i hi]
  rw [List.getElem?_eq_getElem hi, Option.some.injEq] at hg
  rw [hg]
  refine Nat.mod_eq_of_lt ?_
  split
  · decide
  · have h1 := codeOf_le (wordsOf [] (l.take i)) l[i].text
    have h2 := words_len (l.take i) []
    simp only [List.length_nil, List.length_take] at h2
    omega
theorem coded_run (s : Int) (l : List V) (hm : l.length ≤ 100000000) : ∀ i, i ≤ l.length → codedRun ((CS.of 16 l).col 16 s) i = some (wordsOf [] (l.take i)).length
  | 0, _ => by simp [codedRun, wordsOf]
  | i + 1, h => by
    rw [codedRun, coded_run s l hm i (by omega), Option.bind_some]
    unfold codedStep
    rw [coded_word s l hm i (by omega), built_null 16 s l i (by omega), words_step l [] i (by omega)]
    cases hn : l[i].null with
    | true => simp
    | false =>
      simp only [Bool.false_eq_true, if_false, Bool.false_and, Bool.not_false, Bool.true_and, Bool.false_or]
      have hle := codeOf_le (wordsOf [] (l.take i)) l[i].text
      rw [if_neg (by simpa using hle)]
      cases hc : (wordsOf [] (l.take i)).contains l[i].text with
      | true =>
        have := (List.getElem?_eq_some_iff.1 (codeOf_get hc)).1
        rw [if_neg (by simp; omega), addWord_old hc]
      | false => rw [if_pos (by simp [codeOf_new hc]), addWord_new hc]; simp
theorem coded_may (s : Int) (l : List V) (hm : l.length ≤ 100000000) : mayCoded ((CS.of 16 l).col 16 s) = true := by
  have hn : (CS.of 16 l).nulls.length = l.length := by rw [nulls_of]; simp
  have hd : (CS.of 16 l).data.length = l.length * 4 := by rw [coded_of]; show ((codesOf [] l).flatMap fun x => lows x 4).length = _; rw [flatMap_len _ 4 (fun x => lows_len x 4), codes_len]
  unfold mayCoded sizedB
  simp only [Bool.and_eq_true, beq_iff_eq, decide_eq_true_eq]
  refine ⟨⟨⟨⟨?_, ?_⟩, ?_⟩, ?_⟩, ?_⟩
  · show (CS.of 16 l).data.length % 4 = 0
    omega
  · show (((CS.of 16 l).data.length / 4 : Nat) : Int) = ((CS.of 16 l).nulls.length : Int)
    omega
  · show (CS.of 16 l).ends.isEmpty = true
    rw [coded_of]; rfl
  · show (CS.of 16 l).words.Nodup
    rw [coded_of]; exact words_nodup l [] List.nodup_nil
  · show codedRun ((CS.of 16 l).col 16 s) (((CS.of 16 l).nulls.length : Int)).toNat = some (CS.of 16 l).words.length
    rw [hn, Int.toNat_natCast, coded_run s l hm _ (Nat.le_refl _), List.take_length, coded_of]
theorem coded_value (s : Int) (l : List V) (hm : l.length ≤ 100000000) (hl : ∀ v ∈ l, vOK 16 s v) (i : Nat) (h : i < l.length) (hn : l[i].null = false) : valueC ((CS.of 16 l).col 16 s) i = (l[i].bits, l[i].text) := by
  have hv := hl l[i] (List.getElem_mem _)
  have hb : l[i].bits = 0 := hv.2.2.2 hn
  rw [hb]
  unfold valueC
  rw [if_neg (show ¬ ((CS.of 16 l).col 16 s).k = 15 from (by decide : ¬ (16 : Int) = 15)), if_pos (show ((CS.of 16 l).col 16 s).k = 16 from rfl), coded_word s l hm i h, hn]
  show (0, (CS.of 16 l).words.getD (codeOf _ _) []) = _
  rw [coded_of]
  show (0, (wordsOf [] l).getD (codeOf _ _) []) = _
  rw [List.getD_eq_getElem?_getD, word_at_code l i h hn]
  rfl
theorem width_pos {k s : Int} (h : okType k s = true) (h1 : k ≠ 15) : ∃ W : Nat, widthOf k = (W : Int) ∧ 1 ≤ W ∧ W ≤ 8 := by
  unfold okType at h
  simp only [decide_eq_true_eq] at h
  unfold widthOf
  split
  · exact ⟨1, rfl, by omega⟩
  split
  · exact ⟨2, rfl, by omega⟩
  split
  · exact ⟨4, rfl, by omega⟩
  split
  · exact ⟨8, rfl, by omega⟩
  · omega
theorem f32_lt {b : Int} (h : f32OK b = true) : b < 4294967296 := by
  unfold f32OK at h
  simp only [Bool.and_eq_true, decide_eq_true_eq] at h
  exact h.1
theorem fits_width {k s : Int} {b W : Nat} (hf : fitsB k s (b : Int) = true) (hw : widthOf k = (W : Int)) (h1 : k ≠ 15) (h2 : k ≠ 16) (hb : b < 18446744073709551616) : b < 256 ^ W := by
  unfold fitsB at hf
  simp only [Bool.and_eq_true] at hf
  obtain ⟨ho, hf⟩ := hf
  unfold okType at ho
  simp only [decide_eq_true_eq] at ho
  have hk : k = 1 ∨ k = 2 ∨ k = 3 ∨ k = 4 ∨ k = 5 ∨ k = 6 ∨ k = 7 ∨ k = 8 ∨ k = 9 ∨ k = 10 ∨ k = 11 ∨ k = 12 ∨ k = 13 ∨ k = 14 := by omega
  clear ho h1 h2
  have e8 : ∀ W : Nat, (8 : Int) = (W : Int) → b < 256 ^ W := fun W e => (show W = 8 by omega) ▸ hb
  rcases hk with rfl | rfl | rfl | rfl | rfl | rfl | rfl | rfl | rfl | rfl | rfl | rfl | rfl | rfl
  case inr.inr.inr.inr.inr.inr.inr.inr.inl =>
    have e : (4 : Int) = (W : Int) := hw
    obtain rfl : W = 4 := by omega
    have := f32_lt (show f32OK b = true from hf)
    show b < 4294967296
    omega
  all_goals first
    | exact e8 W hw
    | (have e : (1 : Int) = (W : Int) := hw
       obtain rfl : W = 1 := by omega
       first
        | (have h3 : decide ((b : Int) ≤ 255) = true := hf
           rw [decide_eq_true_eq] at h3
           show b < 256; omega)
        | (have h3 : decide ((b : Int) ≤ 1) = true := hf
           rw [decide_eq_true_eq] at h3
           show b < 256; omega))
    | (have e : (2 : Int) = (W : Int) := hw
       obtain rfl : W = 2 := by omega
       have h3 : decide ((b : Int) ≤ 65535) = true := hf
       rw [decide_eq_true_eq] at h3
       show b < 65536; omega)
    | (have e : (4 : Int) = (W : Int) := hw
       obtain rfl : W = 4 := by omega
       have h3 : decide ((b : Int) ≤ 4294967295) = true := hf
       rw [decide_eq_true_eq] at h3
       show b < 4294967296; omega)
theorem fixed_word {k s : Int} (h1 : k ≠ 15) (h2 : k ≠ 16) {W : Nat} (hw : widthOf k = (W : Int)) (l : List V) (hl : ∀ v ∈ l, vOK k s v) (i : Nat) (h : i < l.length) : wordAt ((CS.of k l).col k s).data (i * W) W = l[i].bits := by
  show wordAt (CS.of k l).data (i * W) W = _
  rw [fixed_of h1 h2]
  show wordAt ((l.map (·.bits)).flatMap fun x => lows x (widthOf k).toNat) (i * W) W = _
  rw [hw, Int.toNat_natCast, wordAt_flat _ W i (by simpa using h), List.getElem_map]
  have hv := hl l[i] (List.getElem_mem _)
  refine Nat.mod_eq_of_lt ?_
  cases hn : l[i].null with
  | true => rw [(hv.2.2.1 hn).1]; exact Nat.pow_pos (by decide)
  | false =>
    have h3 := hv.2.2.2 hn
    rw [if_neg (by simp [wordedB, h1, h2])] at h3
    exact fits_width h3.1 hw h1 h2 hv.2.1
theorem fixed_may {k s : Int} (ho : okType k s = true) (h1 : k ≠ 15) (h2 : k ≠ 16) (l : List V) (hl : ∀ v ∈ l, vOK k s v) : mayFixed k s (widthOf k).toNat ((CS.of k l).col k s) = true := by
  obtain ⟨W, hw, hp, h8⟩ := width_pos ho h1
  have hn : (CS.of k l).nulls.length = l.length := by rw [nulls_of]; simp
  have hd : (CS.of k l).data.length = l.length * W := by rw [fixed_of h1 h2]; show ((l.map (·.bits)).flatMap fun x => lows x (widthOf k).toNat).length = _; rw [hw, Int.toNat_natCast, flatMap_len _ W (fun x => lows_len x W), List.length_map]
  have he : (CS.of k l).ends = [] := by rw [fixed_of h1 h2]
  have hwd : (CS.of k l).words = [] := by rw [fixed_of h1 h2]
  rw [hw, Int.toNat_natCast]
  unfold mayFixed sizedB
  simp only [Bool.and_eq_true, beq_iff_eq]
  refine ⟨⟨⟨⟨?_, ?_⟩, ?_⟩, ?_⟩, all_range fun i hi => ?_⟩
  · show (CS.of k l).data.length % W = 0
    rw [hd, Nat.mul_mod_left]
  · show (((CS.of k l).data.length / W : Nat) : Int) = ((CS.of k l).nulls.length : Int)
    rw [hd, Nat.mul_div_cancel _ hp, hn]
  · show (CS.of k l).ends.isEmpty = true
    rw [he]; rfl
  · show (CS.of k l).words.isEmpty = true
    rw [hwd]; rfl
  · have hi : i < l.length := by
      have : i < (((CS.of k l).nulls.length : Int)).toNat := hi
      omega
    rw [built_null k s l i hi, fixed_word h1 h2 hw l hl i hi]
    have hv := hl l[i] (List.getElem_mem _)
    cases hnl : l[i].null with
    | true => simp [(hv.2.2.1 hnl).1]
    | false =>
      have h3 := hv.2.2.2 hnl
      rw [if_neg (by simp [wordedB, h1, h2])] at h3
      simp [h3.1]
theorem built_ok {k s : Int} (ho : okType k s = true) (l : List V) (hl : ∀ v ∈ l, vOK k s v) (hm : l.length ≤ 100000000) : checkC ((CS.of k l).col k s) = 0 := by
  unfold checkC
  rw [if_neg (by show ¬ okType k s = false; rw [ho]; decide), if_pos]
  simp only [Bool.and_eq_true, beq_iff_eq]
  refine ⟨⟨mof_ok _, rfl⟩, ?_⟩
  unfold mayB
  by_cases h1 : k = 15
  · rw [if_pos (show ((CS.of k l).col k s).k = 15 from h1)]; subst h1; exact running_may s l hl
  by_cases h2 : k = 16
  · rw [if_neg (show ¬ ((CS.of k l).col k s).k = 15 from h1), if_pos (show ((CS.of k l).col k s).k = 16 from h2)]; subst h2; exact coded_may s l hm
  rw [if_neg (show ¬ ((CS.of k l).col k s).k = 15 from h1), if_neg (show ¬ ((CS.of k l).col k s).k = 16 from h2)]
  exact fixed_may ho h1 h2 l hl
theorem built_value {k s : Int} (ho : okType k s = true) (l : List V) (hl : ∀ v ∈ l, vOK k s v) (hm : l.length ≤ 100000000) (i : Nat) (h : i < l.length) (hn : l[i].null = false) : valueC ((CS.of k l).col k s) i = (l[i].bits, l[i].text) := by
  by_cases h1 : k = 15
  · subst h1; exact running_value s l hl i h
  by_cases h2 : k = 16
  · subst h2; exact coded_value s l hm hl i h hn
  obtain ⟨W, hw, hp, h8⟩ := width_pos ho h1
  unfold valueC
  rw [if_neg (show ((CS.of k l).col k s).k ≠ 15 from h1), if_neg (show ((CS.of k l).col k s).k ≠ 16 from h2)]
  show (wordAt _ (i * (widthOf k).toNat) (widthOf k).toNat, []) = _
  rw [hw, Int.toNat_natCast, fixed_word h1 h2 hw l hl i h]
  have hv := (hl l[i] (List.getElem_mem _)).2.2.2 hn
  rw [if_neg (by simp [wordedB, h1, h2])] at hv
  rw [hv.2]
end Go.Proofs.Ytmhjjhaipcgbiaa
