/- Texts of this claim, one behind the other: DictC, MayC. -/
import Derived.Test.YtmhjjhaipcgbiaaSpoP10
import Derived.Test.YtmhjjhaipcgbiaaSpoP11
import Derived.Test.YtmhjjhaipcgbiaaSpoP13

namespace Go.Proofs.Ytmhjjhaipcgbiaa
open Go.RowKit
set_option linter.unusedVariables false
set_option linter.unusedSimpArgs false
set_option maxRecDepth 100000
set_option maxHeartbeats 1000000
def dictErr (ws : List (List Int)) : Int := if ws.Nodup then 0 else 180
theorem take_nodup_no {ws : List (List Int)} {i : Nat} (hi : i < ws.length) (h : (ws.take i).contains ws[i] = true) : ¬ ws.Nodup := by
  intro hn
  rw [← List.take_append_drop i ws, List.nodup_append] at hn
  simp at h
  exact hn.2.2 _ h _ (by rw [List.drop_eq_getElem_cons hi]; exact List.mem_cons_self ..) rfl
theorem dictCheck_any (ws : List (List Int)) (W : SL) (vals : List Value) (hl : ws.length ≤ 100000000) (hb : ∀ t ∈ ws, IsBytes t ∧ t.length ≤ 100000000) (w : World) (h : Rd w 1 (.slice W.a ws.length W.c) ws.length vals) (hw : RdWs w vals ws) :
    Calls Try.prog 144 #[.slice W.a ws.length W.c] w (IntP (dictErr ws) w) := by
  obtain ⟨wa, wc⟩ := W
  have HR := Aside.mk h
  have HW := Aside.mk hw
  have HB := Aside.mk hb
  clear h hw hb
  go_enter Try.func144, Try.ntmps144
  go_wp2_with (go_at_call 62; refine (dictNew_any _).mono ?_; rintro e w1 ⟨rfl, rfl⟩)
  go_loopw [9] (fun iv wr => ∃ i : Nat, i ≤ ws.length ∧ iv = .int .i64 (i : Int) ∧ Aside (Below w.heap.size w wr ∧ WL wr (fun b => w.heap.size ≤ b) (w.heap.size + 1) (ws.take i))) (fun iv _ => ws.length - (intOf iv).toNat)
  case atStart => exact ⟨0, by omega, rfl, ⟨((Below.refl _ _).alloc (Nat.le_refl _) _).alloc (by simp) _, wl_new w⟩⟩
  case round =>
    obtain ⟨i, hi, rfl, hp⟩ := hrel
    by_cases hlt : i < ws.length
    · obtain ⟨ta, tc, hv, ht⟩ := HW.out.2 i _ (List.getElem?_eq_getElem hlt)
      have hvl := HW.out.1
      obtain ⟨eb, eo, ecap, hs, hel, hecap, hcE⟩ := HR.out.some_ (by omega)
      simp only [Value.slice.injEq, true_and] at hs
      obtain ⟨rfl, rfl⟩ := hs
      have hc2 := (hp.out.1.cell (p := ⟨eb, eo + i, none⟩) (World.block_lt_of_cell? _ _ (hcE i _ hv))).trans (hcE i _ hv)
      have HT := Aside.mk (ht.below hp.out.1)
      have HTB := Aside.mk (HB.out _ (List.getElem_mem hlt))
      have HTK := Aside.mk (show ws.take (i + 1) = ws.take i ++ [ws[i]] from List.take_succ_eq_append_getElem hlt)
      have HNO := Aside.mk (fun h => take_nodup_no hlt h)
      clear hcE hv ht hvl
      generalize ws[i] = t at *
      have HC := Aside.mk (code_any (fun b => w.heap.size ≤ b) (w.heap.size + 1) (ws.take i) t ta tc HTB.out.1 HTB.out.2 (by rw [List.length_take]; omega) wr hp.out.2 HT.out)
      cases hcon : (ws.take i).contains t with
      | true =>
        have hco := (List.getElem?_eq_some_iff.1 (codeOf_get hcon)).1
        rw [List.length_take] at hco
        have hres := Aside.mk (show (180 : Int) = dictErr ws by rw [dictErr, if_neg (HNO.out hcon)])
        have hd : codeOf (ws.take i) t < i := by omega
        clear hcon
        go_wp2_with (go_at_call 105; refine HC.out.mono ?_; rintro e w2 ⟨rfl, hw2, hk2⟩; have H2 := Aside.mk hk2; clear hw2 hk2)
        go_ret
        exact ⟨ret_int hres.out, hp.out.1.trans (H2.out.to_below hp.out.1.size (fun k h => h))⟩
      | false =>
        have hco := codeOf_new hcon
        rw [List.length_take, Nat.min_eq_left (by omega)] at hco
        have hcon := Aside.mk hcon
        have hcon2 := Aside.mk (addWord_new hcon.out)
        have hd : ¬ codeOf (ws.take i) t < i := by omega
        clear hco
        go_wp2_with (go_at_call 105; refine HC.out.mono ?_; rintro e w2 ⟨rfl, hw2, hk2⟩; have H2 := Aside.mk hk2; have W2 := Aside.mk hw2; clear hw2 hk2)
        refine ⟨⟨i + 1, by omega, by simp, ⟨hp.out.1.trans (H2.out.to_below hp.out.1.size (fun k h => h)), ?_⟩⟩, by simp [intOf]; omega⟩
        rw [HTK.out, ← hcon2.out]
        exact W2.out.mono (fun b h _ => by have := hp.out.1.size; rcases h with h | h <;> omega)
    · obtain rfl : i = ws.length := by omega
      have hnd := Aside.mk (show (0 : Int) = dictErr ws by
        have := hp.out.2.nodup
        rw [List.take_length] at this
        rw [dictErr, if_pos this])
      go_wp2
      go_ret
      exact ⟨ret_int hnd.out, hp.out.1⟩
end Go.Proofs.Ytmhjjhaipcgbiaa


namespace Go.Proofs.Ytmhjjhaipcgbiaa
open Go.RowKit
set_option linter.unusedVariables false
set_option linter.unusedSimpArgs false
set_option maxRecDepth 100000
set_option maxHeartbeats 1000000
theorem codedRun_none {c : Col} {i next : Nat} (h : codedRun c i = some next) (hs : codedStep c i next = none) : ∀ N, i < N → codedRun c N = none
  | 0, hN => by omega
  | N + 1, hN => by
    rw [codedRun]
    rcases Nat.lt_or_ge i N with hlt | hge
    · rw [codedRun_none h hs N hlt]; rfl
    · obtain rfl : N = i := by omega
      rw [h, Option.bind_some, hs]
theorem mayC_any (c : Col) (hc : COK c) (hn : c.n ≤ 8 * (c.bits.length : Int)) (B D E X : SL) (vals : List Value) (w : World) (h : RdC w c B D E X vals) :
    Calls Try.prog 142 #[.agg #[.int .i64 4], colV c B D E X] w (BoolP (mayCoded c) w) := by
  have HR := Aside.mk h
  have HC := Aside.mk hc
  have HN := Aside.mk hn
  clear h hc hn
  dsimp only [colV]
  go_enter Try.func142, Try.ntmps142
  go_wp2_with fail
  generalize hw1 : ((w.alloc (.cells #[.int .i64 4] 130)).alloc (.cells #[.int .i64 c.k, .int .i64 c.s, .int .i64 c.n, .int .i64 c.m, .slice B.a c.bits.length B.c, .slice D.a c.data.length D.c, .slice E.a c.ends.length E.c, .slice X.a c.words.length X.c] 43)) = w1 at *
  have BW := Aside.mk (show Below w.heap.size w w1 from hw1 ▸ ((below_new w _).trans ((below_new _ _).mono (by simp))))
  have BF := Aside.mk (show w1.heap[w.heap.size]? = some (.cells #[.int .i64 4] 130 (0, 0)) by
    rw [← hw1, Below.heap_alloc _ _ _ (by simp)]; exact heap_alloc_new _ _)
  have BX := Aside.mk (show w1.heap[w.heap.size + 1]? = some (.cells #[.int .i64 c.k, .int .i64 c.s, .int .i64 c.n, .int .i64 c.m, .slice B.a c.bits.length B.c, .slice D.a c.data.length D.c, .slice E.a c.ends.length E.c, .slice X.a c.words.length X.c] 43 (0, 0)) by
    rw [← hw1]; simpa using heap_alloc_new (w.alloc (.cells #[.int .i64 4] 130)) (.cells #[.int .i64 c.k, .int .i64 c.s, .int .i64 c.n, .int .i64 c.m, .slice B.a c.bits.length B.c, .slice D.a c.data.length D.c, .slice E.a c.ends.length E.c, .slice X.a c.words.length X.c] 43))
  clear hw1
  refine (sized_4 c B D E X HC.out.ld w1).mono ?_
  rintro e w2 ⟨rfl, hb2⟩
  replace BW := Aside.mk (BW.out.trans (hb2.mono BW.out.size)); replace BF := Aside.mk ((hb2.block _ (lt_of_blk BF.out)).trans BF.out); replace BX := Aside.mk ((hb2.block _ (lt_of_blk BX.out)).trans BX.out); obtain ⟨c0, c1, c2, c3, c4, c5, c6, c7⟩ := box8 BX.out; have cf := cell_blk (k := 0) BF.out; simp at cf; clear hb2
  cases hs : sizedB 4 c with
  | false =>
    go_wp2
    go_ret
    exact ⟨ret_bool (by unfold mayCoded; rw [hs]; rfl), BW.out⟩
  | true =>
    have hdict := Aside.mk (fun (w2 : World) hb => dictCheck_any c.words X vals HC.out.lw HC.out.words w2 (HR.out.words.below hb) (HR.out.each.below hb))
    by_cases hnd : c.words.Nodup
    rotate_left
    · have HD := Aside.mk (show dictErr c.words = 180 by rw [dictErr, if_neg hnd])
      have HM := Aside.mk (show false = mayCoded c by unfold mayCoded; simp [hnd])
      clear hs hnd
      go_wp2_with (go_at_call 144; refine (hdict.out _ BW.out).mono ?_; rintro e w2 ⟨rfl, hb2⟩; rw [HD.out]; replace BW := Aside.mk (BW.out.trans (hb2.mono BW.out.size)); replace BF := Aside.mk ((hb2.block _ (lt_of_blk BF.out)).trans BF.out); replace BX := Aside.mk ((hb2.block _ (lt_of_blk BX.out)).trans BX.out); obtain ⟨c0, c1, c2, c3, c4, c5, c6, c7⟩ := box8 BX.out; have cf := cell_blk (k := 0) BF.out; simp at cf; clear hb2)
      go_ret
      exact ⟨ret_bool HM.out, BW.out⟩
    · have HD := Aside.mk (show dictErr c.words = 0 by rw [dictErr, if_pos hnd])
      obtain ⟨s1, s2⟩ := sized_nat hs
      generalize hN : c.data.length / 4 = N at *
      have hNb : N ≤ 100000000 := by rw [← hN]; exact Nat.le_trans (Nat.div_le_self _ _) HC.out.ld
      have S2 := Aside.mk s2
      have HM := Aside.mk (show mayCoded c = (codedRun c N == some c.words.length) by unfold mayCoded; rw [hs, s2]; simp [hnd])
      have HS := Aside.mk hs
      clear hN s1 s2 hs hnd
      go_wp2_with (go_at_call 144; refine (hdict.out _ BW.out).mono ?_; rintro e w2 ⟨rfl, hb2⟩; rw [HD.out]; replace BW := Aside.mk (BW.out.trans (hb2.mono BW.out.size)); replace BF := Aside.mk ((hb2.block _ (lt_of_blk BF.out)).trans BF.out); replace BX := Aside.mk ((hb2.block _ (lt_of_blk BX.out)).trans BX.out); obtain ⟨c0, c1, c2, c3, c4, c5, c6, c7⟩ := box8 BX.out; have cf := cell_blk (k := 0) BF.out; simp at cf; clear hb2)
      go_loopw [5, 21] (fun nv iv wr => ∃ i next : Nat, i ≤ N ∧ next ≤ i ∧ nv = .int .i64 (next : Int) ∧ iv = .int .i64 (i : Int) ∧ Aside (Below w.heap.size w wr ∧ wr.heap[w.heap.size]? = some (.cells #[.int .i64 4] 130 (0, 0)) ∧ wr.heap[w.heap.size + 1]? = some (.cells #[.int .i64 c.k, .int .i64 c.s, .int .i64 c.n, .int .i64 c.m, .slice B.a c.bits.length B.c, .slice D.a c.data.length D.c, .slice E.a c.ends.length E.c, .slice X.a c.words.length X.c] 43 (0, 0)) ∧ codedRun c i = some next)) (fun nv iv _ => N - (intOf iv).toNat)
      case atStart => exact ⟨0, 0, by omega, by omega, rfl, rfl, ⟨BW.out, BF.out, BX.out, rfl⟩⟩
      case round =>
        clear BW BF BX c0 c1 c2 c3 c4 c5 c6 c7 cf hdict
        obtain ⟨i, next, hi, hni, rfl, rfl, hp⟩ := hrel
        have BW := Aside.mk hp.out.1
        have BF := Aside.mk hp.out.2.1
        have BX := Aside.mk hp.out.2.2.1
        have HA := Aside.mk hp.out.2.2.2
        clear hp
        obtain ⟨c0, c1, c2, c3, c4, c5, c6, c7⟩ := box8 BX.out
        have cf := cell_blk (k := 0) BF.out
        simp at cf
        by_cases hlt : i < N
        · have hlt2 : (i : Int) < c.n := by have := S2.out; omega
          have hb8 : i / 8 < c.bits.length := by have := S2.out; have := HN.out; omega
          have hroom := sized_room HS.out i (by have := S2.out; omega)
          have hword := Aside.mk (fun (w2 : World) hb => fword_4 c B D E X i hroom HC.out.data HC.out.ld w2 (HR.out.data.below hb))
          have hnull := Aside.mk (fun (w2 : World) hb => null_any c B D E X i hb8 HC.out.bits HC.out.lb w2 (HR.out.bits.below hb))
          have hx32 : wordAt c.data (i * 4) 4 < 4294967296 := by
            have h1 := wordAt_lt HC.out.data (i * 4) 4
            have h2 : (256 : Nat) ^ 4 = 4294967296 := by decide
            rw [h2] at h1
            exact h1
          have hok := Aside.mk (show codedStep c i next = if (nullB c.bits i && wordAt c.data (i * 4) 4 != 0) || decide (next < wordAt c.data (i * 4) 4) then none else if !nullB c.bits i && wordAt c.data (i * 4) 4 == next then some (next + 1) else some next from rfl)
          have HNO := Aside.mk (fun h => codedRun_none HA.out h N hlt)
          have HYES := Aside.mk (fun n2 h => show codedRun c (i + 1) = some n2 by rw [codedRun, HA.out, Option.bind_some]; exact h)
          clear hroom
          generalize wordAt c.data (i * 4) 4 = x at *
          generalize nullB c.bits i = nb at *
          cases nb with
          | true =>
            by_cases hx0 : x = 0
            · subst hx0
              have HY := Aside.mk (HYES.out next (by rw [hok.out]; simp))
              go_wp2_with (first | (go_at_call 70; refine (hword.out _ BW.out).mono ?_; rintro e w2 ⟨rfl, hb2⟩; replace BW := Aside.mk (BW.out.trans (hb2.mono BW.out.size)); replace BF := Aside.mk ((hb2.block _ (lt_of_blk BF.out)).trans BF.out); replace BX := Aside.mk ((hb2.block _ (lt_of_blk BX.out)).trans BX.out); obtain ⟨c0, c1, c2, c3, c4, c5, c6, c7⟩ := box8 BX.out; have cf := cell_blk (k := 0) BF.out; simp at cf; clear hb2) | (go_at_call 56; refine (hnull.out _ BW.out).mono ?_; rintro e w2 ⟨rfl, hb2⟩; replace BW := Aside.mk (BW.out.trans (hb2.mono BW.out.size)); replace BF := Aside.mk ((hb2.block _ (lt_of_blk BF.out)).trans BF.out); replace BX := Aside.mk ((hb2.block _ (lt_of_blk BX.out)).trans BX.out); obtain ⟨c0, c1, c2, c3, c4, c5, c6, c7⟩ := box8 BX.out; have cf := cell_blk (k := 0) BF.out; simp at cf; clear hb2))
              exact ⟨⟨i + 1, next, by omega, by omega, rfl, by simp, ⟨BW.out, BF.out, BX.out, HY.out⟩⟩, by simp [intOf]; omega⟩
            · have hx1 : (((x : Int)) == 0) = false := by simp; omega
              have HY := Aside.mk (HNO.out (by rw [hok.out]; simp [hx0]))
              have hx4 : ((x : Int) != 0) = true := by rw [bne, hx1]; rfl
              clear hx0 hx1
              go_wp2_with (first | (go_at_call 70; refine (hword.out _ BW.out).mono ?_; rintro e w2 ⟨rfl, hb2⟩; replace BW := Aside.mk (BW.out.trans (hb2.mono BW.out.size)); replace BF := Aside.mk ((hb2.block _ (lt_of_blk BF.out)).trans BF.out); replace BX := Aside.mk ((hb2.block _ (lt_of_blk BX.out)).trans BX.out); obtain ⟨c0, c1, c2, c3, c4, c5, c6, c7⟩ := box8 BX.out; have cf := cell_blk (k := 0) BF.out; simp at cf; clear hb2) | (go_at_call 56; refine (hnull.out _ BW.out).mono ?_; rintro e w2 ⟨rfl, hb2⟩; replace BW := Aside.mk (BW.out.trans (hb2.mono BW.out.size)); replace BF := Aside.mk ((hb2.block _ (lt_of_blk BF.out)).trans BF.out); replace BX := Aside.mk ((hb2.block _ (lt_of_blk BX.out)).trans BX.out); obtain ⟨c0, c1, c2, c3, c4, c5, c6, c7⟩ := box8 BX.out; have cf := cell_blk (k := 0) BF.out; simp at cf; clear hb2))
              go_ret
              exact ⟨ret_bool (by rw [HM.out, HY.out]; rfl), BW.out⟩
          | false =>
            by_cases hgt : next < x
            · have HY := Aside.mk (HNO.out (by rw [hok.out]; simp [hgt]))
              go_wp2_with (first | (go_at_call 70; refine (hword.out _ BW.out).mono ?_; rintro e w2 ⟨rfl, hb2⟩; replace BW := Aside.mk (BW.out.trans (hb2.mono BW.out.size)); replace BF := Aside.mk ((hb2.block _ (lt_of_blk BF.out)).trans BF.out); replace BX := Aside.mk ((hb2.block _ (lt_of_blk BX.out)).trans BX.out); obtain ⟨c0, c1, c2, c3, c4, c5, c6, c7⟩ := box8 BX.out; have cf := cell_blk (k := 0) BF.out; simp at cf; clear hb2) | (go_at_call 56; refine (hnull.out _ BW.out).mono ?_; rintro e w2 ⟨rfl, hb2⟩; replace BW := Aside.mk (BW.out.trans (hb2.mono BW.out.size)); replace BF := Aside.mk ((hb2.block _ (lt_of_blk BF.out)).trans BF.out); replace BX := Aside.mk ((hb2.block _ (lt_of_blk BX.out)).trans BX.out); obtain ⟨c0, c1, c2, c3, c4, c5, c6, c7⟩ := box8 BX.out; have cf := cell_blk (k := 0) BF.out; simp at cf; clear hb2))
              go_ret
              exact ⟨ret_bool (by rw [HM.out, HY.out]; rfl), BW.out⟩
            · by_cases hq : x = next
              · subst hq
                have HY := Aside.mk (HYES.out (x + 1) (by rw [hok.out]; simp))
                go_wp2_with (first | (go_at_call 70; refine (hword.out _ BW.out).mono ?_; rintro e w2 ⟨rfl, hb2⟩; replace BW := Aside.mk (BW.out.trans (hb2.mono BW.out.size)); replace BF := Aside.mk ((hb2.block _ (lt_of_blk BF.out)).trans BF.out); replace BX := Aside.mk ((hb2.block _ (lt_of_blk BX.out)).trans BX.out); obtain ⟨c0, c1, c2, c3, c4, c5, c6, c7⟩ := box8 BX.out; have cf := cell_blk (k := 0) BF.out; simp at cf; clear hb2) | (go_at_call 56; refine (hnull.out _ BW.out).mono ?_; rintro e w2 ⟨rfl, hb2⟩; replace BW := Aside.mk (BW.out.trans (hb2.mono BW.out.size)); replace BF := Aside.mk ((hb2.block _ (lt_of_blk BF.out)).trans BF.out); replace BX := Aside.mk ((hb2.block _ (lt_of_blk BX.out)).trans BX.out); obtain ⟨c0, c1, c2, c3, c4, c5, c6, c7⟩ := box8 BX.out; have cf := cell_blk (k := 0) BF.out; simp at cf; clear hb2))
                exact ⟨⟨i + 1, x + 1, by omega, by omega, by simp, by simp, ⟨BW.out, BF.out, BX.out, HY.out⟩⟩, by simp [intOf]; omega⟩
              · have HY := Aside.mk (HYES.out next (by rw [hok.out]; simp [hgt, hq]))
                have hq2 : (x == next) = false := by simpa using hq
                have hq3 : ((x : Int) == (next : Int)) = false := by simp; omega
                go_wp2_with (first | (go_at_call 70; refine (hword.out _ BW.out).mono ?_; rintro e w2 ⟨rfl, hb2⟩; replace BW := Aside.mk (BW.out.trans (hb2.mono BW.out.size)); replace BF := Aside.mk ((hb2.block _ (lt_of_blk BF.out)).trans BF.out); replace BX := Aside.mk ((hb2.block _ (lt_of_blk BX.out)).trans BX.out); obtain ⟨c0, c1, c2, c3, c4, c5, c6, c7⟩ := box8 BX.out; have cf := cell_blk (k := 0) BF.out; simp at cf; clear hb2) | (go_at_call 56; refine (hnull.out _ BW.out).mono ?_; rintro e w2 ⟨rfl, hb2⟩; replace BW := Aside.mk (BW.out.trans (hb2.mono BW.out.size)); replace BF := Aside.mk ((hb2.block _ (lt_of_blk BF.out)).trans BF.out); replace BX := Aside.mk ((hb2.block _ (lt_of_blk BX.out)).trans BX.out); obtain ⟨c0, c1, c2, c3, c4, c5, c6, c7⟩ := box8 BX.out; have cf := cell_blk (k := 0) BF.out; simp at cf; clear hb2))
                exact ⟨⟨i + 1, next, by omega, by omega, rfl, by simp, ⟨BW.out, BF.out, BX.out, HY.out⟩⟩, by simp [intOf]; omega⟩
        · obtain rfl : i = N := by omega
          have hlt2 : ¬ (i : Int) < c.n := by have := S2.out; omega
          go_wp2
          go_ret
          refine ⟨ret_bool ?_, BW.out⟩
          rw [HM.out, HA.out, Bool.eq_iff_iff]
          simp
          try omega
end Go.Proofs.Ytmhjjhaipcgbiaa
