/- Texts of this claim, one behind the other: MayF, Add2. -/
import Derived.Test.YtmhjjhaipcgbiaaBakP10
import Derived.Test.YtmhjjhaipcgbiaaBakP8
import Derived.Test.YtmhjjhaipcgbiaaBakP6

namespace Go.Proofs.Ytmhjjhaipcgbiaa
open Go.RowKit
set_option linter.unusedVariables false
set_option linter.unusedSimpArgs false
set_option maxRecDepth 100000
set_option maxHeartbeats 4000000
def okAt (k s : Int) (W : Nat) (c : Col) (i : Nat) : Bool := if nullB c.bits i then wordAt c.data (i * W) W == 0 else fitsB k s (wordAt c.data (i * W) W)
theorem mayFixed_eq (k s : Int) (W : Nat) (c : Col) : mayFixed k s W c = (sizedB W c && c.words.isEmpty && (List.range c.n.toNat).all (okAt k s W c)) := rfl
theorem all_false {n : Nat} {p : Nat → Bool} {i : Nat} (hi : i < n) (h : p i = false) : (List.range n).all p = false := by
  rw [List.all_eq_false]
  exact ⟨i, List.mem_range.2 hi, by rw [h]; decide⟩
theorem sized_nat {W : Nat} {c : Col} (h : sizedB W c = true) : c.data.length % W = 0 ∧ c.n = ((c.data.length / W : Nat) : Int) := by
  unfold sizedB at h
  simp only [Bool.and_eq_true, beq_iff_eq] at h
  exact ⟨h.1.1, h.1.2.symm⟩
theorem sized_room {W : Nat} {c : Col} (h : sizedB W c = true) (i : Nat) (hi : i < c.n.toNat) : i * W + W ≤ c.data.length := by
  obtain ⟨h1, h2⟩ := sized_nat h
  have h3 : i + 1 ≤ c.data.length / W := by omega
  have h4 := Nat.mul_le_mul_right W h3
  have h5 := Nat.div_mul_le_self c.data.length W
  rw [Nat.add_mul] at h4
  omega
theorem mayF_any (W : Nat) (hW : W = 1 ∨ W = 2 ∨ W = 4 ∨ W = 8) (c : Col) (hc : COK c) (hn : c.n ≤ 8 * (c.bits.length : Int)) (B D E X : SL) (vals : List Value) (w : World) (h : RdC w c B D E X vals) :
    Calls Try.prog 139 #[.agg #[.int .i64 (W : Int)], colV c B D E X] w (BoolP (mayFixed c.k c.s W c) w) := by
  have HR := Aside.mk h
  have HC := Aside.mk hc
  clear h hc
  dsimp only [colV]
  go_enter Try.func139, Try.ntmps139
  go_wp2_with fail
  generalize hw1 : ((w.alloc (.cells #[.int .i64 (W : Int)] 128)).alloc (.cells #[.int .i64 c.k, .int .i64 c.s, .int .i64 c.n, .int .i64 c.m, .slice B.a c.bits.length B.c, .slice D.a c.data.length D.c, .slice E.a c.ends.length E.c, .slice X.a c.words.length X.c] 43)) = w1 at *
  have BW := Aside.mk (show Below w.heap.size w w1 from hw1 ▸ ((below_new w _).trans ((below_new _ _).mono (by simp))))
  have BF := Aside.mk (show w1.heap[w.heap.size]? = some (.cells #[.int .i64 (W : Int)] 128 (0, 0)) by
    rw [← hw1, Below.heap_alloc _ _ _ (by simp)]; exact heap_alloc_new _ _)
  have BX := Aside.mk (show w1.heap[w.heap.size + 1]? = some (.cells #[.int .i64 c.k, .int .i64 c.s, .int .i64 c.n, .int .i64 c.m, .slice B.a c.bits.length B.c, .slice D.a c.data.length D.c, .slice E.a c.ends.length E.c, .slice X.a c.words.length X.c] 43 (0, 0)) by
    rw [← hw1]; simpa using heap_alloc_new (w.alloc (.cells #[.int .i64 (W : Int)] 128)) (.cells #[.int .i64 c.k, .int .i64 c.s, .int .i64 c.n, .int .i64 c.m, .slice B.a c.bits.length B.c, .slice D.a c.data.length D.c, .slice E.a c.ends.length E.c, .slice X.a c.words.length X.c] 43))
  clear hw1
  refine (sized_any W hW c B D E X HC.out.ld w1).mono ?_
  rintro e w2 ⟨rfl, hb2⟩
  replace BW := Aside.mk (BW.out.trans (hb2.mono BW.out.size)); replace BF := Aside.mk ((hb2.block _ (lt_of_blk BF.out)).trans BF.out); replace BX := Aside.mk ((hb2.block _ (lt_of_blk BX.out)).trans BX.out); obtain ⟨c0, c1, c2, c3, c4, c5, c6, c7⟩ := box8 BX.out; have cf := cell_blk (k := 0) BF.out; simp at cf; clear hb2
  cases hs : sizedB W c with
  | false =>
    go_wp2
    go_ret
    exact ⟨ret_bool (by rw [mayFixed_eq, hs]; rfl), BW.out⟩
  | true =>
    cases hx : c.words.isEmpty with
    | false =>
      have hx3 : 0 < c.words.length := by
        cases hwd : c.words with
        | nil => rw [hwd] at hx; cases hx
        | cons a l => simp
      have hx2 : decide (0 < c.words.length) = true := decide_eq_true hx3
      go_wp2
      go_ret
      exact ⟨ret_bool (by rw [mayFixed_eq, hs, hx]; rfl), BW.out⟩
    | true =>
      have hx3 : c.words.length = 0 := by
        cases hwd : c.words with
        | nil => rfl
        | cons a l => rw [hwd] at hx; cases hx
      have hx2 : decide (0 < c.words.length) = false := by rw [hx3]; rfl
      clear hx3
      obtain ⟨s1, s2⟩ := sized_nat hs
      generalize hN : c.data.length / W = N at *
      have hNb : N ≤ 100000000 := by rw [← hN]; exact Nat.le_trans (Nat.div_le_self _ _) HC.out.ld
      clear hN
      have HM := Aside.mk (show mayFixed c.k c.s W c = (List.range N).all (okAt c.k c.s W c) by rw [mayFixed_eq, hs, hx, s2]; simp)
      have HS := Aside.mk hs
      have S2 := Aside.mk s2
      clear hs hx s1 s2
      go_wp2
      go_loopw [19] (fun iv wr => ∃ i : Nat, i ≤ N ∧ iv = .int .i64 (i : Int) ∧ Aside (Below w.heap.size w wr ∧ wr.heap[w.heap.size]? = some (.cells #[.int .i64 (W : Int)] 128 (0, 0)) ∧ wr.heap[w.heap.size + 1]? = some (.cells #[.int .i64 c.k, .int .i64 c.s, .int .i64 c.n, .int .i64 c.m, .slice B.a c.bits.length B.c, .slice D.a c.data.length D.c, .slice E.a c.ends.length E.c, .slice X.a c.words.length X.c] 43 (0, 0)) ∧ ∀ j, j < i → okAt c.k c.s W c j = true)) (fun iv _ => N - (intOf iv).toNat)
      case atStart => exact ⟨0, by omega, rfl, ⟨BW.out, BF.out, BX.out, fun j hj => by omega⟩⟩
      case round =>
        clear BW BF BX c0 c1 c2 c3 c4 c5 c6 c7 cf
        obtain ⟨i, hi, rfl, hp⟩ := hrel
        have BW := Aside.mk hp.out.1
        have BF := Aside.mk hp.out.2.1
        have BX := Aside.mk hp.out.2.2.1
        have HA := Aside.mk hp.out.2.2.2
        clear hp
        obtain ⟨c0, c1, c2, c3, c4, c5, c6, c7⟩ := box8 BX.out
        have cf := cell_blk (k := 0) BF.out
        simp at cf
        by_cases hlt : i < N
        · have hlt2 : (i : Int) < c.n := by have := S2.out; omega
          have hb8 : i / 8 < c.bits.length := by omega
          have hroom := sized_room HS.out i (by have := S2.out; omega)
          have hword := Aside.mk (fun (w2 : World) hb => fword_any W hW c B D E X i hroom HC.out.data HC.out.ld w2 (HR.out.data.below hb))
          have hnull := Aside.mk (fun (w2 : World) hb => null_any c B D E X i hb8 HC.out.bits HC.out.lb w2 (HR.out.bits.below hb))
          have hwl := wordAt_lt HC.out.data (i * W) W
          have hw8 : 256 ^ W ≤ 256 ^ 8 := Nat.pow_le_pow_right (by decide) (by omega)
          have h88 : (256 : Nat) ^ 8 = 18446744073709551616 := by decide
          have hx64 : wordAt c.data (i * W) W < 18446744073709551616 := by omega
          have hok := Aside.mk (show okAt c.k c.s W c i = if nullB c.bits i then wordAt c.data (i * W) W == 0 else fitsB c.k c.s (wordAt c.data (i * W) W) from rfl)
          have hfit := Aside.mk (fun (w2 : World) => fits_any c.k c.s (wordAt c.data (i * W) W) (by omega) (by omega) w2)
          clear hwl hw8 h88 hroom
          generalize wordAt c.data (i * W) W = x at *
          generalize nullB c.bits i = nb at *
          generalize fitsB c.k c.s (x : Int) = fb at *
          cases nb with
          | true =>
            by_cases hx0 : x = 0
            · subst hx0
              go_wp2_with (first | (go_at_call 70; refine (hword.out _ BW.out).mono ?_; rintro e w2 ⟨rfl, hb2⟩; replace BW := Aside.mk (BW.out.trans (hb2.mono BW.out.size)); replace BF := Aside.mk ((hb2.block _ (lt_of_blk BF.out)).trans BF.out); replace BX := Aside.mk ((hb2.block _ (lt_of_blk BX.out)).trans BX.out); obtain ⟨c0, c1, c2, c3, c4, c5, c6, c7⟩ := box8 BX.out; have cf := cell_blk (k := 0) BF.out; simp at cf; clear hb2) | (go_at_call 56; refine (hnull.out _ BW.out).mono ?_; rintro e w2 ⟨rfl, hb2⟩; replace BW := Aside.mk (BW.out.trans (hb2.mono BW.out.size)); replace BF := Aside.mk ((hb2.block _ (lt_of_blk BF.out)).trans BF.out); replace BX := Aside.mk ((hb2.block _ (lt_of_blk BX.out)).trans BX.out); obtain ⟨c0, c1, c2, c3, c4, c5, c6, c7⟩ := box8 BX.out; have cf := cell_blk (k := 0) BF.out; simp at cf; clear hb2))
              refine ⟨⟨i + 1, by omega, by simp, ⟨BW.out, BF.out, BX.out, fun j hj => ?_⟩⟩, by simp [intOf]; omega⟩
              rcases Nat.lt_or_ge j i with h | h
              · exact HA.out j h
              · obtain rfl : j = i := by omega
                rw [hok.out]; rfl
            · have hx1 : (((x : Int)) == 0) = false := by simp; omega
              go_wp2_with (first | (go_at_call 70; refine (hword.out _ BW.out).mono ?_; rintro e w2 ⟨rfl, hb2⟩; replace BW := Aside.mk (BW.out.trans (hb2.mono BW.out.size)); replace BF := Aside.mk ((hb2.block _ (lt_of_blk BF.out)).trans BF.out); replace BX := Aside.mk ((hb2.block _ (lt_of_blk BX.out)).trans BX.out); obtain ⟨c0, c1, c2, c3, c4, c5, c6, c7⟩ := box8 BX.out; have cf := cell_blk (k := 0) BF.out; simp at cf; clear hb2) | (go_at_call 56; refine (hnull.out _ BW.out).mono ?_; rintro e w2 ⟨rfl, hb2⟩; replace BW := Aside.mk (BW.out.trans (hb2.mono BW.out.size)); replace BF := Aside.mk ((hb2.block _ (lt_of_blk BF.out)).trans BF.out); replace BX := Aside.mk ((hb2.block _ (lt_of_blk BX.out)).trans BX.out); obtain ⟨c0, c1, c2, c3, c4, c5, c6, c7⟩ := box8 BX.out; have cf := cell_blk (k := 0) BF.out; simp at cf; clear hb2))
              go_ret
              exact ⟨ret_bool (by rw [HM.out]; exact (all_false hlt (by rw [hok.out]; first | rfl | (simp; omega))).symm), BW.out⟩
          | false =>
            cases fb with
            | true =>
              go_wp2_with (first | (go_at_call 70; refine (hword.out _ BW.out).mono ?_; rintro e w2 ⟨rfl, hb2⟩; replace BW := Aside.mk (BW.out.trans (hb2.mono BW.out.size)); replace BF := Aside.mk ((hb2.block _ (lt_of_blk BF.out)).trans BF.out); replace BX := Aside.mk ((hb2.block _ (lt_of_blk BX.out)).trans BX.out); obtain ⟨c0, c1, c2, c3, c4, c5, c6, c7⟩ := box8 BX.out; have cf := cell_blk (k := 0) BF.out; simp at cf; clear hb2) | (go_at_call 56; refine (hnull.out _ BW.out).mono ?_; rintro e w2 ⟨rfl, hb2⟩; replace BW := Aside.mk (BW.out.trans (hb2.mono BW.out.size)); replace BF := Aside.mk ((hb2.block _ (lt_of_blk BF.out)).trans BF.out); replace BX := Aside.mk ((hb2.block _ (lt_of_blk BX.out)).trans BX.out); obtain ⟨c0, c1, c2, c3, c4, c5, c6, c7⟩ := box8 BX.out; have cf := cell_blk (k := 0) BF.out; simp at cf; clear hb2) | (go_at_call 14; refine (hfit.out _).mono ?_; rintro e w2 ⟨rfl, hb2⟩; replace BW := Aside.mk (BW.out.trans (hb2.mono BW.out.size)); replace BF := Aside.mk ((hb2.block _ (lt_of_blk BF.out)).trans BF.out); replace BX := Aside.mk ((hb2.block _ (lt_of_blk BX.out)).trans BX.out); obtain ⟨c0, c1, c2, c3, c4, c5, c6, c7⟩ := box8 BX.out; have cf := cell_blk (k := 0) BF.out; simp at cf; clear hb2))
              refine ⟨⟨i + 1, by omega, by simp, ⟨BW.out, BF.out, BX.out, fun j hj => ?_⟩⟩, by simp [intOf]; omega⟩
              rcases Nat.lt_or_ge j i with h | h
              · exact HA.out j h
              · obtain rfl : j = i := by omega
                rw [hok.out]; rfl
            | false =>
              go_wp2_with (first | (go_at_call 70; refine (hword.out _ BW.out).mono ?_; rintro e w2 ⟨rfl, hb2⟩; replace BW := Aside.mk (BW.out.trans (hb2.mono BW.out.size)); replace BF := Aside.mk ((hb2.block _ (lt_of_blk BF.out)).trans BF.out); replace BX := Aside.mk ((hb2.block _ (lt_of_blk BX.out)).trans BX.out); obtain ⟨c0, c1, c2, c3, c4, c5, c6, c7⟩ := box8 BX.out; have cf := cell_blk (k := 0) BF.out; simp at cf; clear hb2) | (go_at_call 56; refine (hnull.out _ BW.out).mono ?_; rintro e w2 ⟨rfl, hb2⟩; replace BW := Aside.mk (BW.out.trans (hb2.mono BW.out.size)); replace BF := Aside.mk ((hb2.block _ (lt_of_blk BF.out)).trans BF.out); replace BX := Aside.mk ((hb2.block _ (lt_of_blk BX.out)).trans BX.out); obtain ⟨c0, c1, c2, c3, c4, c5, c6, c7⟩ := box8 BX.out; have cf := cell_blk (k := 0) BF.out; simp at cf; clear hb2) | (go_at_call 14; refine (hfit.out _).mono ?_; rintro e w2 ⟨rfl, hb2⟩; replace BW := Aside.mk (BW.out.trans (hb2.mono BW.out.size)); replace BF := Aside.mk ((hb2.block _ (lt_of_blk BF.out)).trans BF.out); replace BX := Aside.mk ((hb2.block _ (lt_of_blk BX.out)).trans BX.out); obtain ⟨c0, c1, c2, c3, c4, c5, c6, c7⟩ := box8 BX.out; have cf := cell_blk (k := 0) BF.out; simp at cf; clear hb2))
              go_ret
              exact ⟨ret_bool (by rw [HM.out]; exact (all_false hlt (by rw [hok.out]; first | rfl | (simp; omega))).symm), BW.out⟩
        · obtain rfl : i = N := by omega
          have hlt2 : ¬ (i : Int) < c.n := by have := S2.out; omega
          go_wp2
          go_ret
          exact ⟨ret_bool (by rw [HM.out]; exact (all_range HA.out).symm), BW.out⟩
end Go.Proofs.Ytmhjjhaipcgbiaa


namespace Go.Proofs.Ytmhjjhaipcgbiaa
open Go.RowKit
set_option linter.unusedVariables false
set_option linter.unusedSimpArgs false
set_option maxRecDepth 100000
set_option maxHeartbeats 1000000
theorem boolinfo : (Try.prog.info? 4).map (fun i => (i.zero, i.size, i.bytes)) = some (some (.bool false), 1, 1) := by kernel_rfl
end Go.Proofs.Ytmhjjhaipcgbiaa
