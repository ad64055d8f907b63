/- Texts of this claim, one behind the other: MayC, Eq, EqF. -/
import Derived.Test.YtmhjjhaipcgbiaaBakP12
import Derived.Test.YtmhjjhaipcgbiaaBakP9

namespace Go.Proofs.Ytmhjjhaipcgbiaa
open Go.RowKit
set_option linter.unusedVariables false
set_option linter.unusedSimpArgs false
set_option maxRecDepth 100000
set_option maxHeartbeats 1000000
theorem codedRun_none {c : Col} {i next : Nat} (h : codedRun c i = some next) (hs : codedStep c i next = none) : ∀ N, i < N → codedRun c N = none
  | 0, hN => by omega
  | N + 1, hN => by
    rw [codedRun]
    rcases Nat.lt_or_ge i N with hlt | hge
    · rw [codedRun_none h hs N hlt]; rfl
    · obtain rfl : N = i := by omega
      rw [h, Option.bind_some, hs]
theorem mayC_any (c : Col) (hc : COK c) (hn : c.n ≤ 8 * (c.bits.length : Int)) (B D E X : SL) (vals : List Value) (w : World) (h : RdC w c B D E X vals) :
    Calls Try.prog 142 #[.agg #[.int .i64 4], colV c B D E X] w (BoolP (mayCoded c) w) := by
  have HR := Aside.mk h
  have HC := Aside.mk hc
  have HN := Aside.mk hn
  clear h hc hn
  dsimp only [colV]
  go_enter Try.func142, Try.ntmps142
  go_wp2_with fail
  generalize hw1 : ((w.alloc (.cells #[.int .i64 4] 130)).alloc (.cells #[.int .i64 c.k, .int .i64 c.s, .int .i64 c.n, .int .i64 c.m, .slice B.a c.bits.length B.c, .slice D.a c.data.length D.c, .slice E.a c.ends.length E.c, .slice X.a c.words.length X.c] 43)) = w1 at *
  have BW := Aside.mk (show Below w.heap.size w w1 from hw1 ▸ ((below_new w _).trans ((below_new _ _).mono (by simp))))
  have BF := Aside.mk (show w1.heap[w.heap.size]? = some (.cells #[.int .i64 4] 130 (0, 0)) by
    rw [← hw1, Below.heap_alloc _ _ _ (by simp)]; exact heap_alloc_new _ _)
  have BX := Aside.mk (show w1.heap[w.heap.size + 1]? = some (.cells #[.int .i64 c.k, .int .i64 c.s, .int .i64 c.n, .int .i64 c.m, .slice B.a c.bits.length B.c, .slice D.a c.data.length D.c, .slice E.a c.ends.length E.c, .slice X.a c.words.length X.c] 43 (0, 0)) by
    rw [← hw1]; simpa using heap_alloc_new (w.alloc (.cells #[.int .i64 4] 130)) (.cells #[.int .i64 c.k, .int .i64 c.s, .int .i64 c.n, .int .i64 c.m, .slice B.a c.bits.length B.c, .slice D.a c.data.length D.c, .slice E.a c.ends.length E.c, .slice X.a c.words.length X.c] 43))
  clear hw1
  refine (sized_4 c B D E X HC.out.ld w1).mono ?_
  rintro e w2 ⟨rfl, hb2⟩
  replace BW := Aside.mk (BW.out.trans (hb2.mono BW.out.size)); replace BF := Aside.mk ((hb2.block _ (lt_of_blk BF.out)).trans BF.out); replace BX := Aside.mk ((hb2.block _ (lt_of_blk BX.out)).trans BX.out); obtain ⟨c0, c1, c2, c3, c4, c5, c6, c7⟩ := box8 BX.out; have cf := cell_blk (k := 0) BF.out; simp at cf; clear hb2
  cases hs : sizedB 4 c with
  | false =>
    go_wp2
    go_ret
    exact ⟨ret_bool (by unfold mayCoded; rw [hs]; rfl), BW.out⟩
  | true =>
    have hdict := Aside.mk (fun (w2 : World) hb => dictCheck_any c.words X vals HC.out.lw HC.out.words w2 (HR.out.words.below hb) (HR.out.each.below hb))
    by_cases hnd : c.words.Nodup
    rotate_left
    · have HD := Aside.mk (show dictErr c.words = 180 by rw [dictErr, if_neg hnd])
      have HM := Aside.mk (show false = mayCoded c by unfold mayCoded; simp [hnd])
      clear hs hnd
      go_wp2_with (go_at_call 144; refine (hdict.out _ BW.out).mono ?_; rintro e w2 ⟨rfl, hb2⟩; rw [HD.out]; replace BW := Aside.mk (BW.out.trans (hb2.mono BW.out.size)); replace BF := Aside.mk ((hb2.block _ (lt_of_blk BF.out)).trans BF.out); replace BX := Aside.mk ((hb2.block _ (lt_of_blk BX.out)).trans BX.out); obtain ⟨c0, c1, c2, c3, c4, c5, c6, c7⟩ := box8 BX.out; have cf := cell_blk (k := 0) BF.out; simp at cf; clear hb2)
      go_ret
      exact ⟨ret_bool HM.out, BW.out⟩
    · have HD := Aside.mk (show dictErr c.words = 0 by rw [dictErr, if_pos hnd])
      obtain ⟨s1, s2⟩ := sized_nat hs
      generalize hN : c.data.length / 4 = N at *
      have hNb : N ≤ 100000000 := by rw [← hN]; exact Nat.le_trans (Nat.div_le_self _ _) HC.out.ld
      have S2 := Aside.mk s2
      have HM := Aside.mk (show mayCoded c = (codedRun c N == some c.words.length) by unfold mayCoded; rw [hs, s2]; simp [hnd])
      have HS := Aside.mk hs
      clear hN s1 s2 hs hnd
      go_wp2_with (go_at_call 144; refine (hdict.out _ BW.out).mono ?_; rintro e w2 ⟨rfl, hb2⟩; rw [HD.out]; replace BW := Aside.mk (BW.out.trans (hb2.mono BW.out.size)); replace BF := Aside.mk ((hb2.block _ (lt_of_blk BF.out)).trans BF.out); replace BX := Aside.mk ((hb2.block _ (lt_of_blk BX.out)).trans BX.out); obtain ⟨c0, c1, c2, c3, c4, c5, c6, c7⟩ := box8 BX.out; have cf := cell_blk (k := 0) BF.out; simp at cf; clear hb2)
      go_loopw [5, 21] (fun nv iv wr => ∃ i next : Nat, i ≤ N ∧ next ≤ i ∧ nv = .int .i64 (next : Int) ∧ iv = .int .i64 (i : Int) ∧ Aside (Below w.heap.size w wr ∧ wr.heap[w.heap.size]? = some (.cells #[.int .i64 4] 130 (0, 0)) ∧ wr.heap[w.heap.size + 1]? = some (.cells #[.int .i64 c.k, .int .i64 c.s, .int .i64 c.n, .int .i64 c.m, .slice B.a c.bits.length B.c, .slice D.a c.data.length D.c, .slice E.a c.ends.length E.c, .slice X.a c.words.length X.c] 43 (0, 0)) ∧ codedRun c i = some next)) (fun nv iv _ => N - (intOf iv).toNat)
      case atStart => exact ⟨0, 0, by omega, by omega, rfl, rfl, ⟨BW.out, BF.out, BX.out, rfl⟩⟩
      case round =>
        clear BW BF BX c0 c1 c2 c3 c4 c5 c6 c7 cf hdict
        obtain ⟨i, next, hi, hni, rfl, rfl, hp⟩ := hrel
        have BW := Aside.mk hp.out.1
        have BF := Aside.mk hp.out.2.1
        have BX := Aside.mk hp.out.2.2.1
        have HA := Aside.mk hp.out.2.2.2
        clear hp
        obtain ⟨c0, c1, c2, c3, c4, c5, c6, c7⟩ := box8 BX.out
        have cf := cell_blk (k := 0) BF.out
        simp at cf
        by_cases hlt : i < N
        · have hlt2 : (i : Int) < c.n := by have := S2.out; omega
          have hb8 : i / 8 < c.bits.length := by have := S2.out; have := HN.out; omega
          have hroom := sized_room HS.out i (by have := S2.out; omega)
          have hword := Aside.mk (fun (w2 : World) hb => fword_4 c B D E X i hroom HC.out.data HC.out.ld w2 (HR.out.data.below hb))
          have hnull := Aside.mk (fun (w2 : World) hb => null_any c B D E X i hb8 HC.out.bits HC.out.lb w2 (HR.out.bits.below hb))
          have hx32 : wordAt c.data (i * 4) 4 < 4294967296 := by
            have h1 := wordAt_lt HC.out.data (i * 4) 4
            have h2 : (256 : Nat) ^ 4 = 4294967296 := by decide
            rw [h2] at h1
            exact h1
          have hok := Aside.mk (show codedStep c i next = if (nullB c.bits i && wordAt c.data (i * 4) 4 != 0) || decide (next < wordAt c.data (i * 4) 4) then none else if !nullB c.bits i && wordAt c.data (i * 4) 4 == next then some (next + 1) else some next from rfl)
          have HNO := Aside.mk (fun h => codedRun_none HA.out h N hlt)
          have HYES := Aside.mk (fun n2 h => show codedRun c (i + 1) = some n2 by rw [codedRun, HA.out, Option.bind_some]; exact h)
          clear hroom
          generalize wordAt c.data (i * 4) 4 = x at *
          generalize nullB c.bits i = nb at *
          cases nb with
          | true =>
            by_cases hx0 : x = 0
            · subst hx0
              have HY := Aside.mk (HYES.out next (by rw [hok.out]; simp))
              go_wp2_with (first | (go_at_call 70; refine (hword.out _ BW.out).mono ?_; rintro e w2 ⟨rfl, hb2⟩; replace BW := Aside.mk (BW.out.trans (hb2.mono BW.out.size)); replace BF := Aside.mk ((hb2.block _ (lt_of_blk BF.out)).trans BF.out); replace BX := Aside.mk ((hb2.block _ (lt_of_blk BX.out)).trans BX.out); obtain ⟨c0, c1, c2, c3, c4, c5, c6, c7⟩ := box8 BX.out; have cf := cell_blk (k := 0) BF.out; simp at cf; clear hb2) | (go_at_call 56; refine (hnull.out _ BW.out).mono ?_; rintro e w2 ⟨rfl, hb2⟩; replace BW := Aside.mk (BW.out.trans (hb2.mono BW.out.size)); replace BF := Aside.mk ((hb2.block _ (lt_of_blk BF.out)).trans BF.out); replace BX := Aside.mk ((hb2.block _ (lt_of_blk BX.out)).trans BX.out); obtain ⟨c0, c1, c2, c3, c4, c5, c6, c7⟩ := box8 BX.out; have cf := cell_blk (k := 0) BF.out; simp at cf; clear hb2))
              exact ⟨⟨i + 1, next, by omega, by omega, rfl, by simp, ⟨BW.out, BF.out, BX.out, HY.out⟩⟩, by simp [intOf]; omega⟩
            · have hx1 : (((x : Int)) == 0) = false := by simp; omega
              have HY := Aside.mk (HNO.out (by rw [hok.out]; simp [hx0]))
              have hx4 : ((x : Int) != 0) = true := by rw [bne, hx1]; rfl
              clear hx0 hx1
              go_wp2_with (first | (go_at_call 70; refine (hword.out _ BW.out).mono ?_; rintro e w2 ⟨rfl, hb2⟩; replace BW := Aside.mk (BW.out.trans (hb2.mono BW.out.size)); replace BF := Aside.mk ((hb2.block _ (lt_of_blk BF.out)).trans BF.out); replace BX := Aside.mk ((hb2.block _ (lt_of_blk BX.out)).trans BX.out); obtain ⟨c0, c1, c2, c3, c4, c5, c6, c7⟩ := box8 BX.out; have cf := cell_blk (k := 0) BF.out; simp at cf; clear hb2) | (go_at_call 56; refine (hnull.out _ BW.out).mono ?_; rintro e w2 ⟨rfl, hb2⟩; replace BW := Aside.mk (BW.out.trans (hb2.mono BW.out.size)); replace BF := Aside.mk ((hb2.block _ (lt_of_blk BF.out)).trans BF.out); replace BX := Aside.mk ((hb2.block _ (lt_of_blk BX.out)).trans BX.out); obtain ⟨c0, c1, c2, c3, c4, c5, c6, c7⟩ := box8 BX.out; have cf := cell_blk (k := 0) BF.out; simp at cf; clear hb2))
              go_ret
              exact ⟨ret_bool (by rw [HM.out, HY.out]; rfl), BW.out⟩
          | false =>
            by_cases hgt : next < x
            · have HY := Aside.mk (HNO.out (by rw [hok.out]; simp [hgt]))
              go_wp2_with (first | (go_at_call 70; refine (hword.out _ BW.out).mono ?_; rintro e w2 ⟨rfl, hb2⟩; replace BW := Aside.mk (BW.out.trans (hb2.mono BW.out.size)); replace BF := Aside.mk ((hb2.block _ (lt_of_blk BF.out)).trans BF.out); replace BX := Aside.mk ((hb2.block _ (lt_of_blk BX.out)).trans BX.out); obtain ⟨c0, c1, c2, c3, c4, c5, c6, c7⟩ := box8 BX.out; have cf := cell_blk (k := 0) BF.out; simp at cf; clear hb2) | (go_at_call 56; refine (hnull.out _ BW.out).mono ?_; rintro e w2 ⟨rfl, hb2⟩; replace BW := Aside.mk (BW.out.trans (hb2.mono BW.out.size)); replace BF := Aside.mk ((hb2.block _ (lt_of_blk BF.out)).trans BF.out); replace BX := Aside.mk ((hb2.block _ (lt_of_blk BX.out)).trans BX.out); obtain ⟨c0, c1, c2, c3, c4, c5, c6, c7⟩ := box8 BX.out; have cf := cell_blk (k := 0) BF.out; simp at cf; clear hb2))
              go_ret
              exact ⟨ret_bool (by rw [HM.out, HY.out]; rfl), BW.out⟩
            · by_cases hq : x = next
              · subst hq
                have HY := Aside.mk (HYES.out (x + 1) (by rw [hok.out]; simp))
                go_wp2_with (first | (go_at_call 70; refine (hword.out _ BW.out).mono ?_; rintro e w2 ⟨rfl, hb2⟩; replace BW := Aside.mk (BW.out.trans (hb2.mono BW.out.size)); replace BF := Aside.mk ((hb2.block _ (lt_of_blk BF.out)).trans BF.out); replace BX := Aside.mk ((hb2.block _ (lt_of_blk BX.out)).trans BX.out); obtain ⟨c0, c1, c2, c3, c4, c5, c6, c7⟩ := box8 BX.out; have cf := cell_blk (k := 0) BF.out; simp at cf; clear hb2) | (go_at_call 56; refine (hnull.out _ BW.out).mono ?_; rintro e w2 ⟨rfl, hb2⟩; replace BW := Aside.mk (BW.out.trans (hb2.mono BW.out.size)); replace BF := Aside.mk ((hb2.block _ (lt_of_blk BF.out)).trans BF.out); replace BX := Aside.mk ((hb2.block _ (lt_of_blk BX.out)).trans BX.out); obtain ⟨c0, c1, c2, c3, c4, c5, c6, c7⟩ := box8 BX.out; have cf := cell_blk (k := 0) BF.out; simp at cf; clear hb2))
                exact ⟨⟨i + 1, x + 1, by omega, by omega, by simp, by simp, ⟨BW.out, BF.out, BX.out, HY.out⟩⟩, by simp [intOf]; omega⟩
              · have HY := Aside.mk (HYES.out next (by rw [hok.out]; simp [hgt, hq]))
                have hq2 : (x == next) = false := by simpa using hq
                have hq3 : ((x : Int) == (next : Int)) = false := by simp; omega
                go_wp2_with (first | (go_at_call 70; refine (hword.out _ BW.out).mono ?_; rintro e w2 ⟨rfl, hb2⟩; replace BW := Aside.mk (BW.out.trans (hb2.mono BW.out.size)); replace BF := Aside.mk ((hb2.block _ (lt_of_blk BF.out)).trans BF.out); replace BX := Aside.mk ((hb2.block _ (lt_of_blk BX.out)).trans BX.out); obtain ⟨c0, c1, c2, c3, c4, c5, c6, c7⟩ := box8 BX.out; have cf := cell_blk (k := 0) BF.out; simp at cf; clear hb2) | (go_at_call 56; refine (hnull.out _ BW.out).mono ?_; rintro e w2 ⟨rfl, hb2⟩; replace BW := Aside.mk (BW.out.trans (hb2.mono BW.out.size)); replace BF := Aside.mk ((hb2.block _ (lt_of_blk BF.out)).trans BF.out); replace BX := Aside.mk ((hb2.block _ (lt_of_blk BX.out)).trans BX.out); obtain ⟨c0, c1, c2, c3, c4, c5, c6, c7⟩ := box8 BX.out; have cf := cell_blk (k := 0) BF.out; simp at cf; clear hb2))
                exact ⟨⟨i + 1, next, by omega, by omega, rfl, by simp, ⟨BW.out, BF.out, BX.out, HY.out⟩⟩, by simp [intOf]; omega⟩
        · obtain rfl : i = N := by omega
          have hlt2 : ¬ (i : Int) < c.n := by have := S2.out; omega
          go_wp2
          go_ret
          refine ⟨ret_bool ?_, BW.out⟩
          rw [HM.out, HA.out, Bool.eq_iff_iff]
          simp
          try omega
end Go.Proofs.Ytmhjjhaipcgbiaa


namespace Go.Proofs.Ytmhjjhaipcgbiaa
open Go.RowKit
set_option linter.unusedVariables false
set_option linter.unusedSimpArgs false
set_option maxRecDepth 100000
set_option maxHeartbeats 1000000
theorem take_ext {xs ys : List Int} {i : Nat} (h1 : i < xs.length) (h2 : i < ys.length) (h : xs.take i = ys.take i) (e : xs.getD i 0 = ys.getD i 0) : xs.take (i + 1) = ys.take (i + 1) := by
  rw [List.take_succ_eq_append_getElem h1, List.take_succ_eq_append_getElem h2, h]
  simp only [List.getD_eq_getElem?_getD, List.getElem?_eq_getElem h1, List.getElem?_eq_getElem h2, Option.getD_some] at e
  rw [e]
theorem getD_ne {xs ys : List Int} {i : Nat} (e : xs.getD i 0 ≠ ys.getD i 0) : xs ≠ ys := fun h => e (by rw [h])
theorem len_ne {xs ys : List Int} (h : xs.length ≠ ys.length) : xs ≠ ys := fun e => h (by rw [e])
theorem full_eq {xs ys : List Int} (hl : xs.length = ys.length) (h : xs.take xs.length = ys.take xs.length) : xs = ys := by
  rw [List.take_length, hl, List.take_length] at h
  exact h
theorem equal_bytes (xs ys : List Int) (A B : SL) (hl : xs.length ≤ 1000000000) (w : World) (ha : Rd w 1 (.slice A.a xs.length A.c) xs.length (xs.map (.int .u8))) (hb : Rd w 1 (.slice B.a ys.length B.c) ys.length (ys.map (.int .u8))) :
    Calls Try.prog 58 #[.slice A.a xs.length A.c, .slice B.a ys.length B.c] w (BoolP (decide (xs = ys)) w) := by
  obtain ⟨aa, ac⟩ := A
  obtain ⟨ba, bc⟩ := B
  have HA := Aside.mk ha
  have HB := Aside.mk hb
  clear ha hb
  by_cases hlen : xs.length = ys.length
  rotate_left
  · have h1 : ((xs.length : Int) != (ys.length : Int)) = true := by simp; omega
    have HD := Aside.mk (show true = true ∧ false = decide (xs = ys) from ⟨rfl, by simp [len_ne hlen]⟩)
    clear hlen
    generalize xs.length = n at *
    generalize ys.length = m at *
    go_enter Try.func58, Try.ntmps58
    go_wp2
    go_ret
    exact ⟨ret_bool HD.out.2, Below.refl _ _⟩
  · have h1 : ((xs.length : Int) != (ys.length : Int)) = false := by simp; omega
    have HL := Aside.mk hlen
    clear hlen
    go_enter Try.func58, Try.ntmps58
    go_wp2
    go_loopw [13] (fun iv wr => ∃ i : Nat, i ≤ xs.length ∧ iv = .int .i64 (i : Int) ∧ Aside (Below w.heap.size w wr ∧ xs.take i = ys.take i)) (fun iv _ => xs.length - (intOf iv).toNat)
    case atStart => exact ⟨0, by omega, rfl, ⟨Below.refl _ _, rfl⟩⟩
    case round =>
      obtain ⟨i, hi, rfl, hp⟩ := hrel
      by_cases hlt : i < xs.length
      · have hlt2 : i < ys.length := by have := HL.out; omega
        obtain ⟨g1, o1, k1, hs, hel, hecap, hc⟩ := rd_get HA.out i hlt
        simp only [Value.slice.injEq, true_and] at hs
        obtain ⟨rfl, rfl⟩ := hs
        obtain ⟨g2, o2, k2, hs, hel2, hecap2, hd⟩ := rd_get HB.out i hlt2
        simp only [Value.slice.injEq, true_and] at hs
        obtain ⟨rfl, rfl⟩ := hs
        have hc2 := (hp.out.1.cell (p := ⟨g1, o1 + i, none⟩) (World.block_lt_of_cell? _ _ hc)).trans hc
        have hd2 := (hp.out.1.cell (p := ⟨g2, o2 + i, none⟩) (World.block_lt_of_cell? _ _ hd)).trans hd
        have hlx := hlt
        clear hc hd
        by_cases hq : xs.getD i 0 = ys.getD i 0
        · have HT := Aside.mk (take_ext hlt hlt2 hp.out.2 hq)
          rw [← hq] at hd2
          clear hq
          generalize xs.getD i 0 = x at *
          go_wp2
          go_quiet (fail)
          go_wp2
          refine ⟨⟨i + 1, by omega, by simp, ⟨hp.out.1.trans (below_drewN _ _ _), HT.out⟩⟩, by simp [intOf]; omega⟩
        · have HT := Aside.mk (getD_ne hq)
          have hq2 : (xs.getD i 0 != ys.getD i 0) = true := by simpa using hq
          clear hq
          generalize xs.getD i 0 = x at *
          generalize ys.getD i 0 = y at *
          go_wp2
          go_quiet (fail)
          go_wp2
          go_ret
          exact ⟨ret_bool (by simp [HT.out]), hp.out.1.trans (below_drewN _ _ _)⟩
      · obtain rfl : i = xs.length := by omega
        have HD := Aside.mk (show true = decide (xs = ys) by simp [full_eq HL.out hp.out.2])
        go_wp2
        go_ret
        exact ⟨ret_bool HD.out, hp.out.1⟩
theorem equal_ints (xs ys : List Int) (A B : SL) (hl : xs.length ≤ 1000000000) (w : World) (ha : Rd w 1 (.slice A.a xs.length A.c) xs.length (xs.map (.int .i64))) (hb : Rd w 1 (.slice B.a ys.length B.c) ys.length (ys.map (.int .i64))) :
    Calls Try.prog 59 #[.slice A.a xs.length A.c, .slice B.a ys.length B.c] w (BoolP (decide (xs = ys)) w) := by
  obtain ⟨aa, ac⟩ := A
  obtain ⟨ba, bc⟩ := B
  have HA := Aside.mk ha
  have HB := Aside.mk hb
  clear ha hb
  by_cases hlen : xs.length = ys.length
  rotate_left
  · have h1 : ((xs.length : Int) != (ys.length : Int)) = true := by simp; omega
    have HD := Aside.mk (show true = true ∧ false = decide (xs = ys) from ⟨rfl, by simp [len_ne hlen]⟩)
    clear hlen
    generalize xs.length = n at *
    generalize ys.length = m at *
    go_enter Try.func59, Try.ntmps59
    go_wp2
    go_ret
    exact ⟨ret_bool HD.out.2, Below.refl _ _⟩
  · have h1 : ((xs.length : Int) != (ys.length : Int)) = false := by simp; omega
    have HL := Aside.mk hlen
    clear hlen
    go_enter Try.func59, Try.ntmps59
    go_wp2
    go_loopw [13] (fun iv wr => ∃ i : Nat, i ≤ xs.length ∧ iv = .int .i64 (i : Int) ∧ Aside (Below w.heap.size w wr ∧ xs.take i = ys.take i)) (fun iv _ => xs.length - (intOf iv).toNat)
    case atStart => exact ⟨0, by omega, rfl, ⟨Below.refl _ _, rfl⟩⟩
    case round =>
      obtain ⟨i, hi, rfl, hp⟩ := hrel
      by_cases hlt : i < xs.length
      · have hlt2 : i < ys.length := by have := HL.out; omega
        obtain ⟨g1, o1, k1, hs, hel, hecap, hc⟩ := rd_get HA.out i hlt
        simp only [Value.slice.injEq, true_and] at hs
        obtain ⟨rfl, rfl⟩ := hs
        obtain ⟨g2, o2, k2, hs, hel2, hecap2, hd⟩ := rd_get HB.out i hlt2
        simp only [Value.slice.injEq, true_and] at hs
        obtain ⟨rfl, rfl⟩ := hs
        have hc2 := (hp.out.1.cell (p := ⟨g1, o1 + i, none⟩) (World.block_lt_of_cell? _ _ hc)).trans hc
        have hd2 := (hp.out.1.cell (p := ⟨g2, o2 + i, none⟩) (World.block_lt_of_cell? _ _ hd)).trans hd
        have hlx := hlt
        clear hc hd
        by_cases hq : xs.getD i 0 = ys.getD i 0
        · have HT := Aside.mk (take_ext hlt hlt2 hp.out.2 hq)
          rw [← hq] at hd2
          clear hq
          generalize xs.getD i 0 = x at *
          go_wp2
          go_quiet (fail)
          go_wp2
          refine ⟨⟨i + 1, by omega, by simp, ⟨hp.out.1.trans (below_drewN _ _ _), HT.out⟩⟩, by simp [intOf]; omega⟩
        · have HT := Aside.mk (getD_ne hq)
          have hq2 : (xs.getD i 0 != ys.getD i 0) = true := by simpa using hq
          clear hq
          generalize xs.getD i 0 = x at *
          generalize ys.getD i 0 = y at *
          go_wp2
          go_quiet (fail)
          go_wp2
          go_ret
          exact ⟨ret_bool (by simp [HT.out]), hp.out.1.trans (below_drewN _ _ _)⟩
      · obtain rfl : i = xs.length := by omega
        have HD := Aside.mk (show true = decide (xs = ys) by simp [full_eq HL.out hp.out.2])
        go_wp2
        go_ret
        exact ⟨ret_bool HD.out, hp.out.1⟩
end Go.Proofs.Ytmhjjhaipcgbiaa


namespace Go.Proofs.Ytmhjjhaipcgbiaa
open Go.RowKit
set_option linter.unusedVariables false
set_option linter.unusedSimpArgs false
set_option maxRecDepth 100000
set_option maxHeartbeats 1000000
theorem take_extW {xs ys : List (List Int)} {i : Nat} (h1 : i < xs.length) (h2 : i < ys.length) (h : xs.take i = ys.take i) (e : xs[i] = ys[i]) : xs.take (i + 1) = ys.take (i + 1) := by
  rw [List.take_succ_eq_append_getElem h1, List.take_succ_eq_append_getElem h2, h, e]
theorem get_neW {xs ys : List (List Int)} {i : Nat} (h1 : i < xs.length) (h2 : i < ys.length) (e : xs[i] ≠ ys[i]) : xs ≠ ys := fun h => e (by subst h; rfl)
theorem len_neW {xs ys : List (List Int)} (h : xs.length ≠ ys.length) : xs ≠ ys := fun e => h (by rw [e])
theorem full_eqW {xs ys : List (List Int)} (hl : xs.length = ys.length) (h : xs.take xs.length = ys.take xs.length) : xs = ys := by
  rw [List.take_length, hl, List.take_length] at h
  exact h
theorem equal_words (xs ys : List (List Int)) (A B : SL) (v1 v2 : List Value) (hl : xs.length ≤ 1000000000) (hw : ∀ t ∈ xs, t.length ≤ 100000000) (w : World) (ha : Rd w 1 (.slice A.a xs.length A.c) xs.length v1) (hb : Rd w 1 (.slice B.a ys.length B.c) ys.length v2) (hA : RdWs w v1 xs) (hB : RdWs w v2 ys) :
    Calls Try.prog 60 #[.slice A.a xs.length A.c, .slice B.a ys.length B.c, .func (.func 58) #[] #[]] w (BoolP (decide (xs = ys)) w) := by
  obtain ⟨aa, ac⟩ := A
  obtain ⟨ba, bc⟩ := B
  have HA := Aside.mk ha
  have HB := Aside.mk hb
  have WA := Aside.mk hA
  have WB := Aside.mk hB
  clear ha hb hA hB
  by_cases hlen : xs.length = ys.length
  rotate_left
  · have h1 : ((xs.length : Int) != (ys.length : Int)) = true := by simp; omega
    have HD := Aside.mk (show true = true ∧ false = decide (xs = ys) from ⟨rfl, by simp [len_neW hlen]⟩)
    clear hlen
    generalize xs.length = n at *
    generalize ys.length = m at *
    go_enter Try.func60, Try.ntmps60
    go_wp2
    go_ret
    exact ⟨ret_bool HD.out.2, Below.refl _ _⟩
  · have h1 : ((xs.length : Int) != (ys.length : Int)) = false := by simp; omega
    have HL := Aside.mk hlen
    have hw := Aside.mk hw
    clear hlen
    go_enter Try.func60, Try.ntmps60
    go_wp2
    go_loopw [17] (fun iv wr => ∃ i : Nat, i ≤ xs.length ∧ iv = .int .i64 (i : Int) ∧ Aside (Below w.heap.size w wr ∧ xs.take i = ys.take i)) (fun iv _ => xs.length - (intOf iv).toNat)
    case atStart => exact ⟨0, by omega, rfl, ⟨Below.refl _ _, rfl⟩⟩
    case round =>
      obtain ⟨i, hi, rfl, hp⟩ := hrel
      by_cases hlt : i < xs.length
      · have hlt2 : i < ys.length := by have := HL.out; omega
        obtain ⟨ta, tc, hv, ht⟩ := WA.out.2 i _ (List.getElem?_eq_getElem hlt)
        obtain ⟨ua, uc, hu, hr⟩ := WB.out.2 i _ (List.getElem?_eq_getElem hlt2)
        have hvl := WA.out.1
        have hul := WB.out.1
        obtain ⟨g1, o1, k1, hs, hel, hecap, hc⟩ := HA.out.some_ (by omega)
        simp only [Value.slice.injEq, true_and] at hs
        obtain ⟨rfl, rfl⟩ := hs
        obtain ⟨g2, o2, k2, hs, hel2, hecap2, hd⟩ := HB.out.some_ (by omega)
        simp only [Value.slice.injEq, true_and] at hs
        obtain ⟨rfl, rfl⟩ := hs
        have hc2 := (hp.out.1.cell (p := ⟨g1, o1 + i, none⟩) (World.block_lt_of_cell? _ _ (hc i _ hv))).trans (hc i _ hv)
        have hd2 := (hp.out.1.cell (p := ⟨g2, o2 + i, none⟩) (World.block_lt_of_cell? _ _ (hd i _ hu))).trans (hd i _ hu)
        have HC := Aside.mk (equal_bytes xs[i] ys[i] ⟨ta, tc⟩ ⟨ua, uc⟩ (Nat.le_trans (hw.out _ (List.getElem_mem hlt)) (by decide)) wr (ht.below hp.out.1) (hr.below hp.out.1))
        have HT := Aside.mk (fun e => take_extW hlt hlt2 hp.out.2 e)
        have HU := Aside.mk (fun e => get_neW hlt hlt2 e)
        clear hc hd hv ht hu hr hvl hul
        generalize xs[i] = x at *
        generalize ys[i] = y at *
        by_cases hq : x = y
        · have HQ := Aside.mk (show decide (x = y) = true from decide_eq_true hq)
          have HT2 := Aside.mk (HT.out hq)
          clear hq
          go_wp2_with (go_at_call 58; refine HC.out.mono ?_; rintro e w2 ⟨rfl, hb2⟩; rw [HQ.out]; have B2 := Aside.mk hb2; clear hb2)
          exact ⟨⟨i + 1, by omega, by simp, ⟨hp.out.1.trans (B2.out.mono hp.out.1.size), HT2.out⟩⟩, by simp [intOf]; omega⟩
        · have HQ := Aside.mk (show decide (x = y) = false from decide_eq_false hq)
          have HT2 := Aside.mk (HU.out hq)
          clear hq
          go_wp2_with (go_at_call 58; refine HC.out.mono ?_; rintro e w2 ⟨rfl, hb2⟩; rw [HQ.out]; have B2 := Aside.mk hb2; clear hb2)
          go_ret
          exact ⟨ret_bool (by simp [HT2.out]), hp.out.1.trans (B2.out.mono hp.out.1.size)⟩
      · obtain rfl : i = xs.length := by omega
        have HD := Aside.mk (show true = decide (xs = ys) by simp [full_eqW HL.out hp.out.2])
        go_wp2
        go_ret
        exact ⟨ret_bool HD.out, hp.out.1⟩
def maskErr (m : Int) (bs : List Int) : Int := if maskOK m bs then 0 else 160
theorem maskOK_no {m : Int} {bs : List Int} (h : ¬ (0 ≤ m ∧ m ≤ 8 * (bs.length : Int) ∧ 8 * ((bs.length : Int) - 1) < m ∧ (0 < m % 8 → (bs.getD (bs.length - 1) 0).toNat / 2 ^ (m % 8).toNat = 0))) : (160 : Int) = maskErr m bs := by
  rw [maskErr, if_neg]
  unfold maskOK
  rw [decide_eq_true_eq]
  exact h
theorem maskOK_yes {m : Int} {bs : List Int} (h : 0 ≤ m ∧ m ≤ 8 * (bs.length : Int) ∧ 8 * ((bs.length : Int) - 1) < m ∧ (0 < m % 8 → (bs.getD (bs.length - 1) 0).toNat / 2 ^ (m % 8).toNat = 0)) : (0 : Int) = maskErr m bs := by
  rw [maskErr, if_pos]
  unfold maskOK
  rw [decide_eq_true_eq]
  exact h
theorem maskCheck_any (m : Int) (bs : List Int) (B : SL) (hl : bs.length ≤ 100000000) (hb : IsBytes bs) (w : World) (h : Rd w 1 (.slice B.a bs.length B.c) bs.length (bs.map (.int .u8))) :
    Calls Try.prog 72 #[.agg #[.int .i64 m, .slice B.a bs.length B.c]] w (IntP (maskErr m bs) w) := by
  obtain ⟨ba, bc⟩ := B
  have HB0 := Aside.mk (below_new w (.cells #[.int .i64 m, .slice ba bs.length bc] 39))
  have HR := Aside.mk h
  clear h
  dsimp only
  by_cases h1 : m < 0
  · have HD := Aside.mk (maskOK_no (m := m) (bs := bs) (by omega))
    go_enter Try.func72, Try.ntmps72
    go_wp2
    go_ret
    exact ⟨ret_int HD.out, HB0.out⟩
  by_cases h2 : 8 * (bs.length : Int) < m
  · have HD := Aside.mk (maskOK_no (m := m) (bs := bs) (by omega))
    go_enter Try.func72, Try.ntmps72
    go_wp2
    go_ret
    exact ⟨ret_int HD.out, HB0.out⟩
  by_cases h3 : m ≤ 8 * ((bs.length : Int) - 1)
  · have HD := Aside.mk (maskOK_no (m := m) (bs := bs) (by omega))
    go_enter Try.func72, Try.ntmps72
    go_wp2
    go_ret
    exact ⟨ret_int HD.out, HB0.out⟩
  by_cases h4 : 0 < m % 8
  · obtain ⟨g, off, cap, hs, hel, hecap, hc⟩ := rd_get HR.out (bs.length - 1) (by omega)
    simp only [Value.slice.injEq, true_and] at hs
    obtain ⟨rfl, rfl⟩ := hs
    have hc2 := (HB0.out.cell (p := ⟨g, off + (bs.length - 1), none⟩) (World.block_lt_of_cell? _ _ hc)).trans hc
    have hv := getD_byte hb (bs.length - 1)
    have HY := Aside.mk (fun (h : (bs.getD (bs.length - 1) 0).toNat / 2 ^ (m % 8).toNat = 0) => maskOK_yes (m := m) (bs := bs) ⟨by omega, by omega, by omega, fun _ => h⟩)
    have HZ := Aside.mk (fun (h : ¬ (bs.getD (bs.length - 1) 0).toNat / 2 ^ (m % 8).toNat = 0) => maskOK_no (m := m) (bs := bs) (fun h2 => h (h2.2.2.2 h4)))
    obtain ⟨M, rfl⟩ := Int.eq_ofNat_of_zero_le (show 0 ≤ m by omega)
    clear HR
    clear hc
    generalize bs.getD (bs.length - 1) 0 = y at *
    generalize bs.length = n at *
    cases n with
    | zero => omega
    | succ n =>
      simp only [Nat.add_sub_cancel] at hc2
      obtain ⟨Y, rfl⟩ := Int.eq_ofNat_of_zero_le hv.1
      have e1 : ((M : Int) % 8).toNat = M % 8 := by omega
      have e2 : (Y : Int) / 2 ^ (M % 8) = ((Y / 2 ^ (M % 8) : Nat) : Int) := by simp
      rw [e1, Int.toNat_natCast] at HY HZ
      by_cases hz : Y / 2 ^ (M % 8) = 0
      · have HQ := Aside.mk (HY.out hz)
        have hq : ((Y : Int) / 2 ^ (M % 8) != 0) = false := by rw [e2, hz]; rfl
        clear e1 e2 hz HY HZ
        go_enter Try.func72, Try.ntmps72
        go_wp2
        go_quiet (fail)
        go_wp2
        go_ret
        exact ⟨ret_int HQ.out, HB0.out.trans (below_drewN _ _ _)⟩
      · have HQ := Aside.mk (HZ.out hz)
        have hq : ((Y : Int) / 2 ^ (M % 8) != 0) = true := by rw [e2]; simp only [bne_iff_ne, ne_eq]; omega
        clear e1 e2 hz HY HZ
        go_enter Try.func72, Try.ntmps72
        go_wp2
        go_quiet (fail)
        go_wp2
        go_ret
        exact ⟨ret_int HQ.out, HB0.out.trans (below_drewN _ _ _)⟩
  · have HD := Aside.mk (maskOK_yes (m := m) (bs := bs) ⟨by omega, by omega, by omega, fun h => absurd h h4⟩)
    have h5 : decide (0 < m % 8) = false := decide_eq_false h4
    have h6 : 0 ≤ m := by omega
    go_enter Try.func72, Try.ntmps72
    go_wp2
    go_quiet (fail)
    go_wp2
    go_ret
    exact ⟨ret_int HD.out, HB0.out.trans (below_drewN _ _ _)⟩
end Go.Proofs.Ytmhjjhaipcgbiaa
