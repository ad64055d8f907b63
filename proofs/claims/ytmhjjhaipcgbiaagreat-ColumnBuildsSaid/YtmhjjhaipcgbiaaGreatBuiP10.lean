/- Texts of this claim, one behind the other: Builds. -/
import Derived.Test.YtmhjjhaipcgbiaaGreatBuiP9
import Derived.Test.YtmhjjhaipcgbiaaGreatBuiP8
import Derived.Deep.RegionHeld3
import Derived.Deep.QuietTactic
import Derived.BigQuiet

/- ColumnBuilds: the walk. -/
namespace Go.Proofs.YtmhjjhaipcgbiaaGreat
open Go.RowKit
set_option linter.unusedVariables false
set_option linter.unusedSimpArgs false
set_option maxRecDepth 100000
set_option maxHeartbeats 40000000

theorem ct_yes (k s : Int) (h : okType k s = true) (W : World) : Calls Tryz.prog 13 #[.agg #[.int .i64 k, .int .i64 s]] W (IntP 0 W) := by have := r18check_any k s W; rwa [h] at this
theorem ct_no (k s : Int) (h : okType k s = false) (W : World) : Calls Tryz.prog 13 #[.agg #[.int .i64 k, .int .i64 s]] W (IntP 170 W) := by have := r18check_any k s W; rwa [h] at this

theorem builds_walk (k s : Int) (ss : List StM) (A : SL) (w : World) (h : RdSts w A ss) (hlen : ss.length ≤ 9223372036854775807) :
    Calls Tryz.prog 3 #[.agg #[.int .i64 k, .int .i64 s], .slice A.a ss.length A.c] w (BoolP true w) := by
  have HR := Aside.mk h
  clear h
  generalize hn : ss.length = n at *
  have HN := Aside.mk hn
  clear hn
  go_enter Tryz.func3, Tryz.ntmps3
  go_upto_region 1 with fail
  have ht1 := heap_alloc_new w (.cells #[.int .i64 k, .int .i64 s] 23)
  have hb1 := below_new w (.cells #[.int .i64 k, .int .i64 s] 23)
  have hz1 : (w.alloc (.cells #[.int .i64 k, .int .i64 s] 23)).heap.size = w.heap.size + 1 := by simp
  generalize w.alloc (.cells #[.int .i64 k, .int .i64 s] 23) = w1 at *
  have c0 := cell_blk (k := 0) ht1
  have c1 := cell_blk (k := 1) ht1
  simp at c0 c1
  have hlt1 : w.heap.size < w1.heap.size := by omega
  cases hok : okType k s with
  | false =>
    have HCT := Aside.mk (ct_no k s hok)
    go_upto_region 2 with (go_at_call 11; refine (new_no k s _ hok).mono ?_; rintro e w2 ⟨rfl, hb2⟩; have HB2 := Aside.mk hb2; have c20 := (hb2.cell (p := ⟨w.heap.size, 0, none⟩) hlt1).trans c0; have c21 := (hb2.cell (p := ⟨w.heap.size, 1, none⟩) hlt1).trans c1; clear hb2)
    have hlt2 : w.heap.size < w2.heap.size := by have := HB2.out.size; omega
    clear c0 c1 hok
    go_region_held3 (fun w' => w'.cell? ⟨w.heap.size, 0, none⟩ = some (.int .i64 k) ∧ w'.cell? ⟨w.heap.size, 1, none⟩ = some (.int .i64 s)) (first | go_keep | (refine ⟨?_, ?_⟩ <;> assumption))
      (first
        | (go_at_call 12; refine (num_any _ _).mono ?_; rintro e wn ⟨rfl, rfl⟩)
        | (go_at_call 13; refine (HCT.out _).mono ?_; rintro e w3 ⟨rfl, hb3⟩; (first | (replace hb3 := undrew hb3) | skip); have HB3 := Aside.mk hb3; have c30 := (hb3.cell (p := ⟨w.heap.size, 0, none⟩) hlt2).trans c20; have c31 := (hb3.cell (p := ⟨w.heap.size, 1, none⟩) hlt2).trans c21; have hlt3 : w.heap.size < w3.heap.size := (by have := hb3.size; omega); clear hb3)
        | (go_at_call 14; refine (wakes_any _).mono ?_; rintro e w4 ⟨rfl, hb4⟩; have HB4 := Aside.mk hb4; have c40 := (hb4.cell (p := ⟨w.heap.size, 0, none⟩) hlt3).trans c30; have c41 := (hb4.cell (p := ⟨w.heap.size, 1, none⟩) hlt3).trans c31; clear hb4))
    all_goals
      go_wp2_with fail
      go_ret
      exact ⟨rfl, below_chain (below_chain (below_chain hb1 HB2.out) HB3.out) HB4.out⟩
  | true =>
    have HCT := Aside.mk (ct_yes k s hok)
    have HOK := Aside.mk hok
    go_upto_region 2 with (go_at_call 11; refine (new_BS k s _ hok).mono ?_; rintro e w2 ⟨bl, rfl, hbs, hb2⟩; have HB2 := Aside.mk hb2; have HBS := Aside.mk hbs; have c20 := (hb2.cell (p := ⟨w.heap.size, 0, none⟩) hlt1).trans c0; have c21 := (hb2.cell (p := ⟨w.heap.size, 1, none⟩) hlt1).trans c1; clear hb2 hbs)
    have hlt2 : w.heap.size < w2.heap.size := by have := HB2.out.size; omega
    clear c0 c1 hok
    go_region_held3 (fun w' => w'.cell? ⟨w.heap.size, 0, none⟩ = some (.int .i64 k) ∧ w'.cell? ⟨w.heap.size, 1, none⟩ = some (.int .i64 s)) (first | go_keep | (refine ⟨?_, ?_⟩ <;> assumption))
      (first
        | (go_at_call 12; refine (num_any _ _).mono ?_; rintro e wn ⟨rfl, rfl⟩)
        | (go_at_call 13; refine (HCT.out _).mono ?_; rintro e w3 ⟨rfl, hb3⟩; (first | (replace hb3 := undrew hb3) | skip); have HB3 := Aside.mk hb3; have c30 := (hb3.cell (p := ⟨w.heap.size, 0, none⟩) hlt2).trans c20; have c31 := (hb3.cell (p := ⟨w.heap.size, 1, none⟩) hlt2).trans c21; have hlt3 : w.heap.size < w3.heap.size := (by have := hb3.size; omega); clear hb3)
        | (go_at_call 14; refine (wakes_any _).mono ?_; rintro e w4 ⟨rfl, hb4⟩; have HB4 := Aside.mk hb4; have c40 := (hb4.cell (p := ⟨w.heap.size, 0, none⟩) hlt3).trans c30; have c41 := (hb4.cell (p := ⟨w.heap.size, 1, none⟩) hlt3).trans c31; clear hb4))
    have hb24 := below_chain HB3.out HB4.out
    have ht4 := ((below_chain HB2.out hb24).block _ (lt_of_blk ht1)).trans ht1
    have hbs4 := HBS.out.below hb24
    rw [hz1] at hbs4
    have hb14 := below_chain (below_chain hb1 HB2.out) hb24
    have hl4 : w.heap.size + 1 ≤ w4.heap.size := lt_of_blk ht4
    have HCB := Aside.mk (cb_start hb14 hl4 hbs4)
    have HT4 := Aside.mk ht4
    clear hb24 hbs4 hb14 c20 c21 c30 c31 HB2 HB3 HB4 HBS hlt2 hlt3 hb1 ht1 hz1 hlt1
    go_upto_region 8 with fail
    have hb5 : Below w4.heap.size w4 ((w4.alloc (.cells #[.int .i64 k, .int .i64 s, .slice none 0 0] 35)).alloc (.cells #[.slice none 0 0, .slice none 0 0, .slice none 0 0, .slice none 0 0, .slice none 0 0, .slice none 0 0] 41)) := (below_new w4 _).trans ((below_new _ _).mono (by simp))
    have HT5 := Aside.mk ((hb5.block _ (lt_of_blk HT4.out)).trans HT4.out)
    clear HT4 c40 c41 hb5 hl4
    generalize w4.heap.size = rb at *
    generalize rb + 1 = bk at *
    generalize ((w4.alloc (.cells #[.int .i64 k, .int .i64 s, .slice none 0 0] 35)).alloc (.cells #[.slice none 0 0, .slice none 0 0, .slice none 0 0, .slice none 0 0, .slice none 0 0, .slice none 0 0] 41)) = w5 at *
    go_wp2_with fail
    go_loopw [9] (fun iv W => ∃ i : Nat, i ≤ n ∧ i ≤ 100 ∧ iv = .int .i64 (i : Int) ∧ Aside (BL w W bl rb bk k s i)) (fun iv _ => n - (intOf iv).toNat)
    case atStart => exact ⟨0, by omega, by omega, rfl, ⟨[], ⟨by simp, fun v hv => (by cases hv)⟩, HCB.out, HT5.out⟩⟩
    case round =>
      obtain ⟨i, hi, hi100, rfl, hp⟩ := hrel
      obtain ⟨l, hbr, hcb, ht⟩ := hp.out
      clear hp
      have HBR := Aside.mk hbr
      have HCB2 := Aside.mk hcb
      have HTT := Aside.mk ht
      have hbw := hcb.bel
      clear hbr hcb ht HCB HT5
      obtain ⟨wo, rfl⟩ : ∃ wo : World, wo = wr := ⟨_, rfl⟩
      by_cases hlt : i < n ∧ i < 100
      · obtain ⟨hlt, h100⟩ := hlt
        have hil : i < ss.length := by have := HN.out; omega
        obtain ⟨hst, g, off, ta, tc, L, hat0⟩ := HR.out i _ (List.getElem?_eq_getElem hil)
        have hat := hat0.below hbw
        have HRT0 := Aside.mk hat0.rt
        have HRL0 := Aside.mk hat0.rl
        have hgl := World.block_lt_of_cell? _ _ hat0.c0
        obtain ⟨aa, ac⟩ := A
        obtain ⟨e1, hq1, hq2, v0, v1, v2, v3, v4, v5, v6, hrt, hrl⟩ := hat
        dsimp only at e1 hq1 hq2
        subst e1
        rw [HN.out] at hq1
        have HST := Aside.mk hst
        have HRT := Aside.mk hrt
        have HRL := Aside.mk hrl
        clear hst hat0 hrt hrl
        generalize ss[i] = st at *
        clear hil
        obtain ⟨stk, stn, stt, ⟨vn, vb, vt⟩, sl⟩ := st
        dsimp only at v0 v1 v2 v3 v4 v5 v6 HRT HRL HRT0 HRL0
        obtain ⟨m, hm6, hm⟩ : ∃ m : Nat, m ≤ 6 ∧ withinI stk 0 6 = (m : Int) := by
          refine ⟨(withinI stk 0 6).toNat, ?_, ?_⟩ <;>
          · unfold withinI
            have h1 := Int.emod_nonneg stk (show ((6 : Int) - 0 + 1) ≠ 0 by omega)
            have h2 := Int.emod_lt_of_pos stk (show 0 < ((6 : Int) - 0 + 1) by omega)
            omega
        have HM := Aside.mk hm
        clear hm
        go_upto_region 12 with fail
        have hs1 := heap_alloc_new wo (.cells #[.int .i64 stk, .int .i64 stn, .int .i64 stt, .bool vn, .int .u64 (vb : Int), .slice ta vt.length tc, .slice L.a sl.length L.c] 48)
        have hbo := below_new wo (.cells #[.int .i64 stk, .int .i64 stn, .int .i64 stt, .bool vn, .int .u64 (vb : Int), .slice ta vt.length tc, .slice L.a sl.length L.c] 48)
        generalize wo.alloc (.cells #[.int .i64 stk, .int .i64 stn, .int .i64 stt, .bool vn, .int .u64 (vb : Int), .slice ta vt.length tc, .slice L.a sl.length L.c] 48) = W1 at *
        obtain ⟨s0, s1, s2, s3, s4, s5, s6⟩ := box7s hs1
        have HC1 := Aside.mk (HCB2.out.below hbo)
        have HT1 := Aside.mk ((hbo.block _ (lt_of_blk HTT.out)).trans HTT.out)
        have HRT1 := Aside.mk (HRT.out.below hbo)
        have HRL1 := Aside.mk (HRL.out.below hbo)
        have hwo := hbw.size
        have hls := lt_of_blk hs1
        have HS1 := Aside.mk hs1
        clear hs1 hbo HCB2 HTT HRT HRL v0 v1 v2 v3 v4 v5 v6
        generalize hsb : wo.heap.size = sb at *
        have HZ1 := Aside.mk (show ∀ b, Z0 w b → (Z0 w b ∨ (sb ≤ b ∧ b < W1.heap.size)) from fun b h => .inl h)
        have HZS := Aside.mk (show (Z0 w sb ∨ (sb ≤ sb ∧ sb < W1.heap.size)) from .inr ⟨Nat.le_refl _, hls⟩)
        generalize hZ : (fun b => Z0 w b ∨ (sb ≤ b ∧ b < W1.heap.size)) = Z1 at *
        have hZ1 : ∀ b, Z0 w b → Z1 b := by rw [← hZ]; exact HZ1.out
        have hZS : Z1 sb := by rw [← hZ]; exact HZS.out
        have HZZ := Aside.mk (And.intro hZ1 hZS)
        clear HZ1 HZS hZ hZ1 hZS hsb hbw
        go_wp2_with fail
        refine (within_any stk 0 6 (by omega) (by omega) (by omega) _).mono ?_
        rintro e wn ⟨rfl, rfl⟩
        rw [HM.out]
        -- CASES
        match m, hm6 with
        | 0, _ =>
          go_upto_region 19 with (go_at_call 16; refine (cb_null HC1.out HBR.out (by omega)).mono ?_; rintro e W2 ⟨rfl, hcb2, hk2⟩; have HC2 := Aside.mk hcb2; have HK2 := Aside.mk hk2; clear hcb2 hk2)
          obtain ⟨S2, T2, R2, hx2⟩ := HC2.out
          obtain ⟨⟨aa2, ac2⟩, xs2, hr2⟩ := hx2.rb
          obtain ⟨q0, q1, q2, q3⟩ := hr2.cells
          have HX2 := Aside.mk hx2
          have HR2 := Aside.mk hr2
          have hl20 := HBR.out.1
          clear hx2 hr2
          generalize hln : l.length = ln at *
          have HLN := Aside.mk hln
          clear hln
          dsimp only at q2
          have HROW := Aside.mk HR2.out.row
          dsimp only at HROW
          rw [HLN.out] at HROW
          go_wp2_with (at_builtin; go_loud (refine wpList_app2 _ rfl _ _ 33 33 rfl 0 50 (.agg #[.bool false, .int .u64 0, .slice none 0 0]) 3 40 Tryz.underlying33 valinfo rfl _ ln xs2 rfl (HROW.out.alloc _) _ 1 [.bool true, .int .u64 0, .slice none 0 0] rfl (src_val _ _ _ _ rfl rfl rfl) (by unfold maxLen; omega) (by omega) (Nat.zero_le _) ?_))
          intro v5 w5 hA
          obtain ⟨a5, c5, rfl⟩ := hA.own.form
          have HP := Aside.mk (went_r (r := .bool true) HX2.out ⟨rfl, HR2.out.push (v := ⟨true, 0, []⟩) (Below.refl _ _) (Own.nil W2 _ _ _) (by dsimp only; rw [HLN.out]; exact hA)⟩)
          have K5 : Kept (fun b => (Value.slice aa2 ln ac2).ownBlock = some b) W2 w5 := (Kept.of_below (below_new W2 _)).trans ((Kept.of_grown hA.grown).mono (fun b e _ => e.symm)) (fun _ e _ => e)
          have g5 := (K5.block rb (lt_of_blk HR2.out.blk) (HROW.out.blk_ne HR2.out.blk (by decide))).trans HR2.out.blk
          clear hA q0 q1 q2 q3 K5
          have q0 := cell_blk (k := 2) g5
          simp at q0
          have q3 := fun k => frozen_blk (k := k) g5
          clear g5
          go_wp2_with fail
          exact ⟨⟨i + 1, by omega, by omega, by simp, ⟨bl_next HZZ.out.1 HT1.out HP.out.2.1 (HK2.out.trans HP.out.2.2 (fun _ e _ => e)) (brought_null HBR.out)⟩⟩, by simp [intOf]; omega⟩
        | 1, _ =>
          have hvb : vb < 18446744073709551616 := HST.out.2.1.2.1
          have HPUT := Aside.mk (cb_put (HC1.out.same (below_drewN W1 _ 1)) HBR.out (by omega) vb hvb)
          have HBQ := Aside.mk (brought_put HBR.out vb hvb)
          go_upto_region 21 with fail
          go_region_held3 (fun w' => w'.cell? ⟨sb, 4, none⟩ = some (.int .u64 (vb : Int))) (first | go_keep | assumption)
            (first
              | (go_at_call 17; refine HPUT.out.mono ?_; rintro e W2 ⟨rfl, hcb2, hk2⟩; have s24 := hk2.cell (show W1.drew.cell? ⟨sb, 4, none⟩ = some (.int .u64 (vb : Int)) from s4) (fun e => e HZZ.out.2); have HRP := Aside.mk (cb_rput hcb2 (by have := HBR.out.1; omega) vb hvb); have HK2 := Aside.mk ((Kept.of_below (below_drewN W1 _ 1)).trans hk2 (fun _ e _ => e)); clear hcb2 hk2 HPUT)
              | (go_at_call 12; refine (num_any _ _).mono ?_; rintro e wn ⟨rfl, rfl⟩)
              | (go_at_call 18; refine HRP.out.mono ?_; rintro e W3 ⟨rfl, hcb3, hk3⟩; have s34 := hk3.cell s24 (fun e => e HZZ.out.2); have HC3 := Aside.mk hcb3; have HK3 := Aside.mk (HK2.out.trans hk3 (fun _ e _ => e)); clear hcb3 hk3 HRP))
          all_goals
            go_wp2_with fail
            exact ⟨⟨i + 1, by omega, by omega, by simp, ⟨bl_next HZZ.out.1 HT1.out HC3.out HK3.out HBQ.out⟩⟩, by simp [intOf]; omega⟩
        | 2, _ =>
          have hvt := HST.out.2.1.1
          have hvl := HST.out.2.1.2.2
          dsimp only at hvt hvl
          have HTB := Aside.mk (show IsBytes (vt.take 50) from fun x hx => hvt x (List.mem_of_mem_take hx))
          have ht50 : (vt.take 50).length ≤ 50 := by rw [List.length_take]; omega
          have HRV := Aside.mk (fun (W : World) (hb : Below w.heap.size w W) => cut50_bytes vt ⟨ta, tc⟩ hvl W (HRT0.out.below hb))
          have HBQ := Aside.mk (brought_text HBR.out (vt.take 50) HTB.out ht50)
          have HCT0 := Aside.mk (HRV.out W1 HC1.out.bel)
          generalize htx : vt.take 50 = tx at *
          clear htx hvt
          generalize htl : tx.length = tl at *
          have HTL := Aside.mk htl
          clear htl
          generalize hvtl : vt.length = vl at *
          clear hvtl
          go_wp2_with (go_at_call 20; refine HCT0.out.mono ?_; rintro e wx ⟨a1, cc1, rfl, hr1, rfl⟩; have HLD := Aside.mk (lend_bytes tx ⟨a1, cc1⟩ (by have := HTL.out; omega) W1 (by rw [HTL.out]; exact hr1)); clear hr1 HCT0)
          try dsimp only at HLD
          rw [HTL.out] at HLD
          refine HLD.out.mono ?_
          rintro e W2 ⟨a2, cc2, he, hcc, ho2, hb2⟩
          rw [HTL.out] at he hcc ho2
          subst he
          have HC2 := Aside.mk (HC1.out.below hb2)
          have HO2 := Aside.mk ho2
          have HB2 := Aside.mk hb2
          have s25 := (hb2.cell (p := ⟨sb, 5, none⟩) hls).trans s5
          have HZZ2 := Aside.mk (show (∀ b, Z0 w b → (Z1 b ∨ (W1.heap.size ≤ b ∧ b < W2.heap.size))) ∧ (Z1 sb ∨ (W1.heap.size ≤ sb ∧ sb < W2.heap.size)) ∧ ∀ b, (Value.slice a2 tl cc2).ownBlock = some b → (Z1 b ∨ (W1.heap.size ≤ b ∧ b < W2.heap.size)) ∧ w.heap.size ≤ b from
            ⟨fun b h => .inl (HZZ.out.1 b h), .inl HZZ.out.2, fun b e => by
              have e2 : (Value.slice a2 (tl + 2) cc2).ownBlock = some b := by cases a2 <;> exact e
              have h1 := ho2.lt b e2
              have h2 := HC1.out.bel.size
              exact ⟨.inr h1, by omega⟩⟩)
          generalize hZ2 : (fun b => Z1 b ∨ (W1.heap.size ≤ b ∧ b < W2.heap.size)) = Z2 at *
          have HZ2 := Aside.mk (show (∀ b, Z0 w b → Z2 b) ∧ Z2 sb ∧ (∀ b, (Value.slice a2 tl cc2).ownBlock = some b → Z2 b ∧ w.heap.size ≤ b) ∧ ∀ b, Z1 b → Z2 b from by rw [← hZ2]; exact ⟨HZZ2.out.1, HZZ2.out.2.1, HZZ2.out.2.2, fun b h => .inl h⟩)
          have HNE := Aside.mk (show ∀ b, (Value.slice a2 tl cc2).ownBlock = some b → b ≠ sb from fun b e e2 => by
            have e3 : (Value.slice a2 (tl + 2) cc2).ownBlock = some b := by cases a2 <;> exact e
            have h1 := ho2.lt b e3
            omega)
          have HNT := Aside.mk (show (Value.slice a2 tl cc2).ownBlock ≠ some w.heap.size from fun e => by
            have e3 : (Value.slice a2 (tl + 2) cc2).ownBlock = some w.heap.size := by cases a2 <;> exact e
            have h1 := ho2.lt _ e3
            have h2 := lt_of_blk HT1.out
            omega)
          have HK12 := Aside.mk (show Kept (fun b => ¬ Z2 b) W1 W2 from Kept.of_below hb2)
          clear hZ2 HZZ2 hcc ho2 hb2 HLD
          have HFR := Aside.mk (show Own W2 W1.heap.size 5 1 (.slice a2 tl cc2) tl (tx.map (.int .u8)) from own_front0 HO2.out (by simp [HTL.out]))
          have HTEXT := Aside.mk (cb_text (HC2.out.same (below_drewN W2 _ 1)) HBR.out (by omega) tx HTB.out (by rw [HTL.out]; exact ht50) ⟨a2, cc2⟩ (by rw [HTL.out]; exact HFR.out.rd.below (below_drewN W2 _ 1)))
          try dsimp only at HTEXT
          rw [HTL.out] at HTEXT
          go_upto_region 25 with fail
          go_region_held3 (fun w' => w'.cell? ⟨sb, 5, none⟩ = some (.slice ta vl tc)) (first | go_keep | assumption)
            (first
              | (go_at_call 21; refine HTEXT.out.mono ?_; rintro e W3 ⟨rfl, hcb3, hk3⟩; have s35 := hk3.cell (show W2.drew.cell? ⟨sb, 5, none⟩ = some (.slice ta vl tc) from s25) (fun e => e HZ2.out.2.1); have HC3 := Aside.mk hcb3; have HK3 := Aside.mk ((Kept.of_below (below_drewN W2 _ 1)).trans hk3 (fun _ e _ => e)); have HCUT := Aside.mk (HRV.out W3 hcb3.bel); clear hcb3 hk3 HTEXT)
              | (go_at_call 12; refine (num_any _ _).mono ?_; rintro e wn ⟨rfl, rfl⟩)
              | (go_at_call 20; refine HCUT.out.mono ?_; rintro e wx ⟨a4, cc4, rfl, hr4, rfl⟩; have HRTX := Aside.mk (cb_rtext HC3.out (by have := HBR.out.1; omega) tx (by rw [HTL.out]; exact ht50) ⟨a4, cc4⟩ (by rw [HTL.out]; exact hr4)); clear hr4 HCUT; try dsimp only at HRTX; rw [HTL.out] at HRTX)
              | (go_at_call 22; refine HRTX.out.mono ?_; rintro e W5 ⟨rfl, hcb5, hk5⟩; have s55 := hk5.cell s35 (fun e => e HZ2.out.2.1); have HC5 := Aside.mk hcb5; have HK5 := Aside.mk (HK3.out.trans hk5 (fun _ e _ => e)); have HCUTB := Aside.mk (HRV.out W5 hcb5.bel); clear hcb5 hk5 HRTX)
              | (go_at_call 20; refine HCUTB.out.mono ?_; rintro e wx ⟨a6, cc6, rfl, hr6, rfl⟩; have HBACK := Aside.mk (back_bytes tx HTB.out a2 cc2 ⟨a6, cc6⟩ (by have := HTL.out; omega) W5 (by rw [HTL.out]; exact (HO2.out.kept HK5.out (fun b e h => h (HZ2.out.2.2.1 b (by cases a2 <;> exact e)).1)).mono (Nat.zero_le _)) (by rw [HTL.out]; exact hr6)); clear hr6 HCUTB; try dsimp only at HBACK; rw [HTL.out] at HBACK)
              | (go_at_call 23; refine HBACK.out.mono ?_; rintro e W7 ⟨rfl, hk7⟩; have s75 := hk7.cell s55 (fun e => HNE.out _ e rfl); have HC7 := Aside.mk (HC5.out.keptZ hk7 HZ2.out.2.2.1); have HK7 := Aside.mk hk7; clear hk7 HBACK))
          all_goals
            go_wp2_with fail
            exact ⟨⟨i + 1, by omega, by omega, by simp, ⟨bl_next2 HZ2.out.1 HT1.out (HK12.out.trans HK5.out (fun _ e _ => e)) HK7.out HNT.out HC7.out HBQ.out⟩⟩, by simp [intOf]; omega⟩
        | 3, _ =>
          have t0 := cell_blk (k := 0) HT1.out
          have t1 := cell_blk (k := 1) HT1.out
          simp at t0 t1
          have hltt := lt_of_blk HT1.out
          have hww := HC1.out.bel
          have HKO := Aside.mk (kind_ok stt)
          have hkb1 := heap_alloc_new W1 (.cells #[.int .i64 k, .int .i64 s] 23)
          have hbk1 := below_new W1 (.cells #[.int .i64 k, .int .i64 s] 23)
          go_upto_if 137 with fail
          go_cut [12] from 137 to 140 (fun s12 wx => TyP W1 W1.heap.size s12 wx)
          case first =>
            have HKB1 := Aside.mk hkb1
            have HBK1 := Aside.mk hbk1
            clear hkb1 hbk1
            by_cases h0 : stt = 0
            · have hd : (stt != 0) = false := by simpa using h0
              clear h0
              go_wp2_with fail
              go_meet
              exact ⟨k, s, rfl, HOK.out, HBK1.out, HKB1.out⟩
            · have hd : (stt != 0) = true := by simpa using h0
              clear h0
              go_wp2_with (go_at_call 24; refine (kind_any _ _).mono ?_; rintro e W3 ⟨rfl, hb3⟩; have B3 := Aside.mk hb3; have hk3 := (hb3.block _ (lt_of_blk HKB1.out)).trans HKB1.out; have HK3 := Aside.mk hk3; have f0 := frozen_blk (k := 0) hk3; have f1 := frozen_blk (k := 1) hk3; have g0 := cell_blk (k := 0) hk3; have g1 := cell_blk (k := 1) hk3; simp at g0 g1; clear hk3 hb3)
              go_meet
              refine ⟨kindI stt, scaleI stt, rfl, HKO.out, ((below_chain HBK1.out B3.out).setCell (Nat.le_refl _) _).setCell (Nat.le_refl _) _, ?_⟩
              have h5 := heap_setCell_at (k := 1) (heap_setCell_at (k := 0) HK3.out (.int .i64 (kindI stt))) (.int .i64 (scaleI stt))
              simpa using h5
          case rest =>
          obtain ⟨k2, s2', rfl, hok2, hb2, hk2⟩ := hcut
          generalize wc = Wt at *
          have HOK2 := Aside.mk hok2
          have HB2 := Aside.mk hb2
          have HKB2 := Aside.mk hk2
          have hls2 : W1.heap.size < Wt.heap.size := lt_of_blk hk2
          have s26 := (hb2.cell (p := ⟨sb, 6, none⟩) hls).trans s6
          have y0 := cell_blk (k := 0) hk2
          have y1 := cell_blk (k := 1) hk2
          simp at y0 y1
          have HRL2 := Aside.mk (HRL1.out.below hb2)
          have hkne : W1.heap.size ≠ Wt.heap.size := Nat.ne_of_lt hls2
          have hsne : sb ≠ Wt.heap.size := by omega
          have hkne2 := Ne.symm hkne
          have hsne2 := Ne.symm hsne
          have hsln := HST.out.2.2.1
          have hslv := HST.out.2.2.2
          dsimp only at hsln hslv
          have HSLV := Aside.mk hslv
          have HFA := Aside.mk (fitsL_any k2 s2' hok2 sl hsln hslv L Wt.drew (HRL2.out.below (below_drewN Wt _ 1)))
          have hzb := below_new Wt (.cells #[.int .i64 0, .int .i64 0, .int .i64 0, .int .i64 0, .slice none 0 0, .slice none 0 0, .slice none 0 0, .slice none 0 0] 63)
          have hZ9 := heap_alloc_new Wt (.cells #[.int .i64 0, .int .i64 0, .int .i64 0, .int .i64 0, .slice none 0 0, .slice none 0 0, .slice none 0 0, .slice none 0 0] 63)
          have HFB := Aside.mk (fitsL_any k2 s2' hok2 sl hsln hslv L (Wt.alloc (.cells #[.int .i64 0, .int .i64 0, .int .i64 0, .int .i64 0, .slice none 0 0, .slice none 0 0, .slice none 0 0, .slice none 0 0] 63)).drew (HRL2.out.below (hzb.trans (below_drewN _ _ 1))))
          have HZB := Aside.mk (And.intro hzb hZ9)
          clear hb2 hk2 hok2 hslv t0 t1 hbk1 hkb1 hzb hZ9
          generalize hkbe : W1.heap.size = kb at *
          have HKE := Aside.mk hkbe
          clear hkbe
          generalize hsn : sl.length = ln2 at *
          clear hsn
          go_upto_region 31 with fail
          go_cut [13] from 141 to 146 (fun s13 wx => ColL Wt k2 s2' s13 wx)
          case first =>
            go_region_held3 (fun w' => w'.cell? ⟨kb, 0, none⟩ = some (.int .i64 k2) ∧ w'.cell? ⟨kb, 1, none⟩ = some (.int .i64 s2') ∧ w'.cell? ⟨sb, 6, none⟩ = some (.slice L.a ln2 L.c))
              (first | go_keep | (refine ⟨?_, ?_, ?_⟩ <;> assumption))
              (first
                | (go_at_call 26; (with_reducible refine Calls.mono HFA.out ?_); rintro e W3 ⟨r, RA, rxs, rfl, hr1, hr2, hov, hb3⟩; replace hb3 := undrew hb3; have HRR := Aside.mk (And.intro hr1 hr2); have B3 := Aside.mk hb3; have HFEW := Aside.mk (few_of3 hr1 hr2); obtain ⟨c, hc⟩ : ∃ c, c = colOf k2 s2' r := ⟨_, rfl⟩; have HEC := Aside.mk hc; have z0 := (hb3.cell (p := ⟨kb, 0, none⟩) hls2).trans y0; have z1 := (hb3.cell (p := ⟨kb, 1, none⟩) hls2).trans y1; have z6 := (hb3.cell (p := ⟨sb, 6, none⟩) (World.block_lt_of_cell? _ _ s26)).trans s26; have HLA := Aside.mk (lay_eq HOK2.out HFEW.out hc RA (n := r.length) rfl W3 hov.rd); have hzb3 := below_new W3 (.cells #[.int .i64 0, .int .i64 0, .int .i64 0, .int .i64 0, .slice none 0 0, .slice none 0 0, .slice none 0 0, .slice none 0 0] 63); have HZB3 := Aside.mk (And.intro hzb3 (heap_alloc_new W3 (.cells #[.int .i64 0, .int .i64 0, .int .i64 0, .int .i64 0, .slice none 0 0, .slice none 0 0, .slice none 0 0, .slice none 0 0] 63))); have HLB := Aside.mk (lay_eq HOK2.out HFEW.out hc RA (n := r.length) rfl (W3.alloc (.cells #[.int .i64 0, .int .i64 0, .int .i64 0, .int .i64 0, .slice none 0 0, .slice none 0 0, .slice none 0 0, .slice none 0 0] 63)) (hov.rd.below hzb3)); have hk3ne : kb ≠ W3.heap.size := (by have := hb3.size; omega); have hs3ne : sb ≠ W3.heap.size := (by have := hb3.size; omega); have hk3ne2 := Ne.symm hk3ne; have hs3ne2 := Ne.symm hs3ne; clear HFA HFB hr1 hr2 hov hb3 hc hzb3)
                | (go_at_call 26; (with_reducible refine Calls.mono HFB.out ?_); rintro e W3 ⟨r, RA, rxs, rfl, hr1, hr2, hov, hb3⟩; replace hb3 := undrew hb3; have HRR := Aside.mk (And.intro hr1 hr2); have HW3 := Aside.mk ((hb3.block Wt.heap.size (by simp)).trans HZB.out.2); have B3 := Aside.mk (below_chain HZB.out.1 hb3); have HFEW := Aside.mk (few_of3 hr1 hr2); obtain ⟨c, hc⟩ : ∃ c, c = colOf k2 s2' r := ⟨_, rfl⟩; have HEC := Aside.mk hc; have z0 := (B3.out.cell (p := ⟨kb, 0, none⟩) hls2).trans y0; have z1 := (B3.out.cell (p := ⟨kb, 1, none⟩) hls2).trans y1; have z6 := (B3.out.cell (p := ⟨sb, 6, none⟩) (World.block_lt_of_cell? _ _ s26)).trans s26; have HLC := Aside.mk (lay_eq HOK2.out HFEW.out hc RA (n := r.length) rfl W3 hov.rd); clear HFA HFB hr1 hr2 hov hb3 hc)
                | (go_at_call 25; (with_reducible refine Calls.mono HLA.out ?_); rintro e W4 ⟨B4, D4, E4, X4, va4, rfl, ho4, hb4⟩; have HO4 := Aside.mk ho4; have B4' := Aside.mk (below_chain B3.out hb4); have u0 := (hb4.cell (p := ⟨kb, 0, none⟩) (World.block_lt_of_cell? _ _ z0)).trans z0; have u1 := (hb4.cell (p := ⟨kb, 1, none⟩) (World.block_lt_of_cell? _ _ z1)).trans z1; have u6 := (hb4.cell (p := ⟨sb, 6, none⟩) (World.block_lt_of_cell? _ _ z6)).trans z6; have hk4ne : kb ≠ W4.heap.size := (by have := B4'.out.size; omega); have hs4ne : sb ≠ W4.heap.size := (by have := B4'.out.size; omega); have hl4 := hb4.size; clear HLA HLB ho4 hb4; dsimp only [colV])
                | (go_at_call 25; (with_reducible refine Calls.mono HLB.out ?_); rintro e W4 ⟨B4, D4, E4, X4, va4, rfl, ho4, hb4⟩; have HO4 := Aside.mk ho4; have hr4 := (hb4.block W3.heap.size (by simp)).trans HZB3.out.2; have B4' := Aside.mk (below_chain (below_chain B3.out HZB3.out.1) hb4); have u0 := (B4'.out.cell (p := ⟨kb, 0, none⟩) hls2).trans y0; have u1 := (B4'.out.cell (p := ⟨kb, 1, none⟩) hls2).trans y1; have u6 := (B4'.out.cell (p := ⟨sb, 6, none⟩) (World.block_lt_of_cell? _ _ s26)).trans s26; obtain ⟨r0, r1, r2, r3, r4, r5, r6, r7⟩ := box8 hr4; have f0 := frozen_blk (k := 0) hr4; have f1 := frozen_blk (k := 1) hr4; have f2 := frozen_blk (k := 2) hr4; have f3 := frozen_blk (k := 3) hr4; have f4 := frozen_blk (k := 4) hr4; have f5 := frozen_blk (k := 5) hr4; have f6 := frozen_blk (k := 6) hr4; have f7 := frozen_blk (k := 7) hr4; have HR4 := Aside.mk hr4; clear hr4; clear HLA HLB ho4 hb4; dsimp only [colV])
                | (go_at_call 25; (with_reducible refine Calls.mono HLC.out ?_); rintro e W4 ⟨B4, D4, E4, X4, va4, rfl, ho4, hb4⟩; have HO4 := Aside.mk ho4; have hr4 := (hb4.block Wt.heap.size (lt_of_blk HW3.out)).trans HW3.out; have B4' := Aside.mk (below_chain B3.out hb4); have HLT3 := Aside.mk (lt_of_blk HW3.out); have u0 := (B4'.out.cell (p := ⟨kb, 0, none⟩) hls2).trans y0; have u1 := (B4'.out.cell (p := ⟨kb, 1, none⟩) hls2).trans y1; have u6 := (B4'.out.cell (p := ⟨sb, 6, none⟩) (World.block_lt_of_cell? _ _ s26)).trans s26; obtain ⟨r0, r1, r2, r3, r4, r5, r6, r7⟩ := box8 hr4; have f0 := frozen_blk (k := 0) hr4; have f1 := frozen_blk (k := 1) hr4; have f2 := frozen_blk (k := 2) hr4; have f3 := frozen_blk (k := 3) hr4; have f4 := frozen_blk (k := 4) hr4; have f5 := frozen_blk (k := 5) hr4; have f6 := frozen_blk (k := 6) hr4; have f7 := frozen_blk (k := 7) hr4; have HR4 := Aside.mk hr4; clear hr4; clear HLC ho4 hb4; dsimp only [colV]))
            all_goals
              go_wp2_with fail
              go_meet
              first
                | (have htok := HLT3; exact colL_ahead HEC.out HRR.out HO4.out B4'.out (Nat.le_refl _) HLT3.out HR4.out)
                | (have htok := HR4; exact colL_ahead HEC.out HRR.out HO4.out B4'.out B3.out.size (by simp) HR4.out)
                | exact colL_after HEC.out HRR.out HO4.out B4'.out B3.out.size
          case rest =>
          obtain ⟨cb, r, B3, D3, E3, X3, va3, rfl, hr, hb3, hcb3, hh3⟩ := hcut
          generalize wc = Wc at *
          obtain ⟨c, hc⟩ : ∃ c, c = colOf k2 s2' r := ⟨_, rfl⟩
          rw [← hc] at hh3
          have HEC := Aside.mk hc
          have HRR := Aside.mk hr
          have HFEW := Aside.mk (few_of3 hr.1 hr.2)
          have HCOK := Aside.mk (show COK c from by rw [hc]; exact built_cok HOK2.out HFEW.out.1 HFEW.out.2)
          have HB13 := Aside.mk (below_chain (show Below W1.heap.size W1 Wt from by rw [HKE.out]; exact HB2.out) hb3)
          have HH3 := Aside.mk hh3
          have HBQ := Aside.mk (brought_app (k2 := k2) (s2 := s2') HBR.out hr)
          have HTW := Aside.mk (twin18 c B3 D3 E3 X3 va3 HCOK.out.ld HCOK.out.lb HCOK.out.le HCOK.out.lw (fun t ht => (HCOK.out.words t ht).2) _ hh3.own.rd)
          obtain ⟨x0, x1, x2, x3, x4, x5, x6, x7⟩ := box8 hh3.box
          have hlcb := lt_of_blk hh3.box
          have hwcs := HB2.out.size
          have hwcs3 := hb3.size
          clear hc hr hb3 hh3 y0 y1 s26 hkne hsne hkne2 hsne2 HFA HFB HZB HKB2
          dsimp only [colV] at HTW
          go_upto_region 33 with (go_at_call 27; refine HTW.out.mono ?_; rintro e W4 ⟨B4, D4, E4, X4, va4, rfl, ho4, hb4⟩; have HO4 := Aside.mk ho4; have HB4 := Aside.mk hb4; clear HTW ho4 hb4; dsimp only [colV])
          have hx5 := heap_alloc_new W4 (.cells #[.int .i64 c.k, .int .i64 c.s, .int .i64 c.n, .int .i64 c.m, .slice B4.a c.bits.length B4.c, .slice D4.a c.data.length D4.c, .slice E4.a c.ends.length E4.c, .slice X4.a c.words.length X4.c] 63)
          have hb45 := below_new W4 (.cells #[.int .i64 c.k, .int .i64 c.s, .int .i64 c.n, .int .i64 c.m, .slice B4.a c.bits.length B4.c, .slice D4.a c.data.length D4.c, .slice E4.a c.ends.length E4.c, .slice X4.a c.words.length X4.c] 63)
          have HO5 := Aside.mk (HO4.out.below hb45)
          have hb35 := below_chain HB4.out hb45
          have HH5 := Aside.mk (HH3.out.below hb35)
          have HB15 := Aside.mk (below_chain HB13.out hb35)
          have hz13 := HB13.out.size
          have hz34 := HB4.out.size
          generalize W4.alloc (.cells #[.int .i64 c.k, .int .i64 c.s, .int .i64 c.n, .int .i64 c.m, .slice B4.a c.bits.length B4.c, .slice D4.a c.data.length D4.c, .slice E4.a c.ends.length E4.c, .slice X4.a c.words.length X4.c] 63) = W5 at *
          have hz5 := lt_of_blk hx5
          generalize W4.heap.size = lbx at *
          clear x0 x1 x2 x3 x4 x5 x6 x7 hb45 hb35
          have HC5 := Aside.mk (HC1.out.below HB15.out)
          have HZQ := Aside.mk (show (∀ b, Z0 w b → (Z1 b ∨ (W1.heap.size ≤ b ∧ b < W5.heap.size))) ∧ (∀ b, W1.heap.size ≤ b → b < W5.heap.size → (Z1 b ∨ (W1.heap.size ≤ b ∧ b < W5.heap.size))) from ⟨fun b h => .inl (HZZ.out.1 b h), fun b h1 h2 => .inr ⟨h1, h2⟩⟩)
          generalize hZ5 : (fun b => Z1 b ∨ (W1.heap.size ≤ b ∧ b < W5.heap.size)) = Z5 at *
          have HZ5 := Aside.mk (show (∀ b, Z0 w b → Z5 b) ∧ (∀ b, W1.heap.size ≤ b → b < W5.heap.size → Z5 b) from by rw [← hZ5]; exact HZQ.out)
          clear hZ5 HZQ
          have hw1 := HC1.out.bel.size
          have HLB5 := Aside.mk (show Z5 lbx ∧ Z5 cb from ⟨HZ5.out.2 _ (by omega) hz5, HZ5.out.2 _ (by have := HKE.out; omega) (by omega)⟩)
          have HK15 := Aside.mk (show Kept (fun b => ¬ Z5 b) W1 W5 from Kept.of_below HB15.out)
          have HL4 := Aside.mk (show Lent Z5 W5 c B4 D4 E4 X4 va4 from lent_own HO5.out (fun b h1 h2 => HZ5.out.2 b (by omega) h2))
          have HL3 := Aside.mk (show Lent Z5 W5 c B3 D3 E3 X3 va3 from lent_own HH5.out.own (fun b h1 h2 => HZ5.out.2 b (by have := HKE.out; omega) h2))
          have HAPP := Aside.mk (cb_append HOK.out HOK2.out (HC5.out.same (below_drewN W5 _ 1)) HBR.out (by omega) HRR.out HEC.out (HL4.out.step (Kept.of_below (below_drewN W5 _ 1))))
          have HX5 := Aside.mk hx5
          have HX5C := Aside.mk HH5.out.box
          obtain ⟨x0, x1, x2, x3, x4, x5, x6, x7⟩ := box8 hx5
          obtain ⟨y0, y1, y2, y3, y4, y5, y6, y7⟩ := box8 HX5C.out
          clear hx5
          dsimp only [colV] at HAPP
          go_region_held3 (fun w' => w'.cell? ⟨lbx, 0, none⟩ = some (.int .i64 c.k) ∧ w'.cell? ⟨lbx, 1, none⟩ = some (.int .i64 c.s) ∧ w'.cell? ⟨lbx, 2, none⟩ = some (.int .i64 c.n) ∧ w'.cell? ⟨lbx, 3, none⟩ = some (.int .i64 c.m) ∧ w'.cell? ⟨lbx, 4, none⟩ = some (.slice B4.a c.bits.length B4.c) ∧ w'.cell? ⟨lbx, 5, none⟩ = some (.slice D4.a c.data.length D4.c) ∧ w'.cell? ⟨lbx, 6, none⟩ = some (.slice E4.a c.ends.length E4.c) ∧ w'.cell? ⟨lbx, 7, none⟩ = some (.slice X4.a c.words.length X4.c) ∧ w'.cell? ⟨cb, 0, none⟩ = some (.int .i64 c.k) ∧ w'.cell? ⟨cb, 1, none⟩ = some (.int .i64 c.s) ∧ w'.cell? ⟨cb, 2, none⟩ = some (.int .i64 c.n) ∧ w'.cell? ⟨cb, 3, none⟩ = some (.int .i64 c.m) ∧ w'.cell? ⟨cb, 4, none⟩ = some (.slice B3.a c.bits.length B3.c) ∧ w'.cell? ⟨cb, 5, none⟩ = some (.slice D3.a c.data.length D3.c) ∧ w'.cell? ⟨cb, 6, none⟩ = some (.slice E3.a c.ends.length E3.c) ∧ w'.cell? ⟨cb, 7, none⟩ = some (.slice X3.a c.words.length X3.c))
            (first | go_keep | (refine ⟨?_, ?_, ?_, ?_, ?_, ?_, ?_, ?_, ?_, ?_, ?_, ?_, ?_, ?_, ?_, ?_⟩ <;> assumption))
            (first
              | (go_at_call 28; refine HAPP.out.mono ?_; rintro e W6 ⟨rfl, hcb6, hk6⟩; have hk56 := (Kept.of_below (S := fun b => ¬ Z5 b) (below_drewN W5 _ 1)).trans hk6 (fun _ e _ => e); have hx6 := box8k HX5.out hk56 (fun e => e HLB5.out.1); have hy6 := box8k HX5C.out hk56 (fun e => e HLB5.out.2); have HX6 := Aside.mk hx6; have HY6 := Aside.mk hy6; have HRAP := Aside.mk (cb_rappend HOK.out HOK2.out hcb6 (by have := HBR.out.1; omega) HRR.out HEC.out (HL3.out.step hk56)); have HK6 := Aside.mk hk56; clear x0 x1 x2 x3 x4 x5 x6 x7 y0 y1 y2 y3 y4 y5 y6 y7; obtain ⟨x0, x1, x2, x3, x4, x5, x6, x7⟩ := box8 hx6; obtain ⟨y0, y1, y2, y3, y4, y5, y6, y7⟩ := box8 hy6; clear hcb6 hk6 hk56 hx6 hy6 HAPP; dsimp only [colV] at HRAP)
              | (go_at_call 12; refine (num_any _ _).mono ?_; rintro e wn ⟨rfl, rfl⟩)
              | (go_at_call 29; refine HRAP.out.mono ?_; rintro e W7 ⟨rfl, hcb7, hk7⟩; have hk57 := HK6.out.trans hk7 (fun _ e _ => e); have hx7 := box8k HX5.out hk57 (fun e => e HLB5.out.1); have hy7 := box8k HX5C.out hk57 (fun e => e HLB5.out.2); have HX7 := Aside.mk hx7; have HY7 := Aside.mk hy7; have HEQ := Aside.mk (equal_eq HOK2.out HEC.out HEC.out HFEW.out (HL4.out.step hk57).rd (HL3.out.step hk57).rd); have HK7 := Aside.mk hk57; have HC7 := Aside.mk hcb7; clear x0 x1 x2 x3 x4 x5 x6 x7 y0 y1 y2 y3 y4 y5 y6 y7; obtain ⟨x0, x1, x2, x3, x4, x5, x6, x7⟩ := box8 hx7; obtain ⟨y0, y1, y2, y3, y4, y5, y6, y7⟩ := box8 hy7; clear hcb7 hk7 hk57 hx7 hy7 HRAP; dsimp only [colV] at HEQ)
              | (go_at_call 30; refine HEQ.out.mono ?_; rintro e W8 ⟨rfl, hb8⟩; have hx8 := (hb8.block _ (lt_of_blk HX7.out)).trans HX7.out; have hy8 := (hb8.block _ (lt_of_blk HY7.out)).trans HY7.out; have HX8 := Aside.mk hx8; have HC8 := Aside.mk (HC7.out.same hb8); have HK8 := Aside.mk (HK7.out.trans (Kept.of_below (S := fun b => ¬ Z5 b) hb8) (fun _ e _ => e)); clear x0 x1 x2 x3 x4 x5 x6 x7 y0 y1 y2 y3 y4 y5 y6 y7; obtain ⟨x0, x1, x2, x3, x4, x5, x6, x7⟩ := box8 hx8; obtain ⟨y0, y1, y2, y3, y4, y5, y6, y7⟩ := box8 hy8; clear hb8 hx8 hy8 HEQ))
          all_goals
            have hod := HO5.out.data.kept (HK8.out) (fun b e h => h (HZ5.out.2 b (by have := (HO5.out.data.lt b e).1; omega) (HO5.out.data.lt b e).2))
            have HOD := Aside.mk (hod.mono (Nat.zero_le _))
            have HTN := Aside.mk (show (Value.slice D4.a c.data.length D4.c).ownBlock ≠ some w.heap.size from fun e => by have h1 := (HO5.out.data.lt _ e).1; have h2 := lt_of_blk HT1.out; omega)
            have HQZ := Aside.mk (show ∀ b, (Value.slice D4.a c.data.length D4.c).ownBlock = some b → Z5 b ∧ w.heap.size ≤ b from fun b e => ⟨HZ5.out.2 b (by have := (HO5.out.data.lt b e).1; omega) (HO5.out.data.lt b e).2, by have := (HO5.out.data.lt b e).1; omega⟩)
            have hdl := HCOK.out.ld
            clear hod x0 x1 x2 x3 x4 x5 x6 x7 y0 y1 y2 y3 y4 y5 y6 y7 s0 s1 s2 s3 s4 s5 s6
            generalize hdn : c.data.length = dn at *
            have HDN := Aside.mk hdn
            clear hdn
            obtain ⟨da, dc⟩ := D4
            dsimp only at HOD HTN HQZ
            go_wp2_with fail
            go_loopw [15] (fun jv W => ∃ j : Nat, j ≤ dn ∧ jv = .int .i64 (j : Int) ∧ Aside (Kept (fun b => (Value.slice da dn dc).ownBlock = some b) W8 W ∧ ∃ ys : List Int, ys.length = dn ∧ Own W 0 5 1 (.slice da dn dc) dn (ys.map (.int .u8)))) (fun jv _ => dn - (intOf jv).toNat)
            case atStart => exact ⟨0, by omega, rfl, ⟨Kept.refl _ _, c.data, HDN.out, HOD.out⟩⟩
            case round =>
              obtain ⟨j, hj, rfl, hp⟩ := hrel
              obtain ⟨hk, ys, hy, ho⟩ := hp.out
              have hxw := box8k HX8.out hk (fun e => HOD.out.blk_ne HX8.out (by decide) e)
              have z5 := cell_blk (k := 5) hxw
              simp at z5
              try dsimp only at z5
              try rw [HDN.out] at z5
              clear hxw
              by_cases hlj : j < dn
              · obtain ⟨g', o', cp, e4, _, _, hx1, hx2, hc, hf0⟩ := ho.some_ (by omega)
                simp only [Value.slice.injEq, true_and] at e4
                obtain ⟨rfl, rfl⟩ := e4
                obtain ⟨x, hxi⟩ : ∃ x, ys[j]? = some x := ⟨_, List.getElem?_eq_getElem (by omega)⟩
                have d1 := hc j (.int .u8 x) (by rw [List.getElem?_map, hxi]; rfl)
                have HO2 := Aside.mk ho
                have HKJ := Aside.mk hk
                have HY := Aside.mk hy
                clear ho hk hc hy hp hxi
                go_wp2_with fail
                refine ⟨⟨j + 1, by omega, by simp, ⟨HKJ.out.trans (Kept.setCell _ _ _) (fun b e _ => by subst e; rfl), ?_⟩⟩, by simp [intOf]; omega⟩
                refine ⟨ys.set j ((x + 1) % 256), by rw [List.length_set]; exact HY.out, ?_⟩
                rw [List.map_set]
                exact HO2.out.stored j _
              · obtain rfl : j = dn := by omega
                have HKJ := Aside.mk hk
                clear ho hk hy hp
                go_wp2_with fail
                exact ⟨⟨i + 1, by omega, by omega, by simp, ⟨bl_next2 HZ5.out.1 HT1.out (HK15.out.trans HK8.out (fun _ e _ => e)) HKJ.out HTN.out (HC8.out.keptZ HKJ.out HQZ.out) HBQ.out⟩⟩, by simp [intOf]; omega⟩
        | 4, _ =>
          have HBK := Aside.mk (cb_back HOK.out (HC1.out.same (below_drewN W1 _ 1)) HBR.out (by omega) stn)
          have HBQ := Aside.mk (brought_back HBR.out stn)
          go_upto_region 40 with fail
          go_region_held3 (fun w' => w'.cell? ⟨sb, 1, none⟩ = some (.int .i64 stn)) (first | go_keep | assumption)
            (first
              | (go_at_call 31; refine HBK.out.mono ?_; rintro e W2 ⟨rfl, hcb2, hk2⟩; have s24 := hk2.cell (show W1.drew.cell? ⟨sb, 1, none⟩ = some (.int .i64 stn) from s1) (fun e => e HZZ.out.2); have HRP := Aside.mk (cb_rback hcb2 (by have := HBR.out.1; omega) stn); have HK2 := Aside.mk ((Kept.of_below (below_drewN W1 _ 1)).trans hk2 (fun _ e _ => e)); clear hcb2 hk2 HBK)
              | (go_at_call 12; refine (num_any _ _).mono ?_; rintro e wn ⟨rfl, rfl⟩)
              | (go_at_call 32; refine HRP.out.mono ?_; rintro e W3 ⟨rfl, hcb3, hk3⟩; have s34 := hk3.cell s24 (fun e => e HZZ.out.2); have HC3 := Aside.mk hcb3; have HK3 := Aside.mk (HK2.out.trans hk3 (fun _ e _ => e)); clear hcb3 hk3 HRP))
          all_goals
            go_wp2_with fail
            exact ⟨⟨i + 1, by omega, by omega, by simp, ⟨bl_next HZZ.out.1 HT1.out HC3.out HK3.out HBQ.out⟩⟩, by simp [intOf]; omega⟩
        | 5, _ =>
          obtain ⟨RA, q0, q1, q2, hrv⟩ := cb_rows HC1.out
          have HLEN := Aside.mk (fun W' (hb : Below W1.heap.size W1 W') => cb_len (HC1.out.same hb))
          have hlrb := World.block_lt_of_cell? _ _ q2
          clear hrv
          generalize l.length = ln at *
          go_upto_region 43 with fail
          go_region_held3 (fun w' => w'.cell? ⟨rb, 2, none⟩ = some (.slice RA.a ln RA.c)) (first | go_keep | assumption)
            (first | (go_at_call 33; refine (HLEN.out _ (below_drewN W1 _ 1)).mono ?_; rintro e wn ⟨rfl, rfl⟩))
          all_goals
            go_wp2_with fail
            exact ⟨⟨i + 1, by omega, by omega, by simp, ⟨bl_next HZZ.out.1 HT1.out (HC1.out.same (below_drewN W1 _ 1)) (Kept.of_below (below_drewN W1 _ 1)) (brought_same HBR.out)⟩⟩, by simp [intOf]; omega⟩
        | 6, _ =>
          obtain ⟨RA, q0, q1, q2, hrv⟩ := cb_rows HC1.out
          obtain ⟨c, hc⟩ : ∃ c, c = colOf k s l := ⟨_, rfl⟩
          have HEC := Aside.mk hc
          have HFEW := Aside.mk (HBR.out.few (by omega))
          have HCOK := Aside.mk (show COK c from by rw [hc]; exact built_cok HOK.out HFEW.out.1 HFEW.out.2)
          have HCOL := Aside.mk (cb_column HC1.out HBR.out (by omega) hc)
          have hlrb := World.block_lt_of_cell? _ _ q2
          have hltt := lt_of_blk HT1.out
          have t0 := cell_blk (k := 0) HT1.out
          have t1 := cell_blk (k := 1) HT1.out
          simp at t0 t1
          have HRV := Aside.mk hrv
          clear hrv hc
          generalize hln : l.length = ln at *
          have HLN := Aside.mk hln
          clear hln
          go_upto_region 14 with (go_at_call 34; refine HCOL.out.mono ?_; rintro e W2 ⟨B1, D1, E1, X1, va1, rfl, ho1, hb2⟩; have B2 := Aside.mk hb2; have HO1 := Aside.mk ho1; clear ho1 hb2 HCOL; dsimp only [colV])
          have hx3 := heap_alloc_new W2 (.cells #[.int .i64 c.k, .int .i64 c.s, .int .i64 c.n, .int .i64 c.m, .slice B1.a c.bits.length B1.c, .slice D1.a c.data.length D1.c, .slice E1.a c.ends.length E1.c, .slice X1.a c.words.length X1.c] 63)
          have hb3 := below_chain B2.out (below_new W2 (.cells #[.int .i64 c.k, .int .i64 c.s, .int .i64 c.n, .int .i64 c.m, .slice B1.a c.bits.length B1.c, .slice D1.a c.data.length D1.c, .slice E1.a c.ends.length E1.c, .slice X1.a c.words.length X1.c] 63))
          have HO3 := Aside.mk (HO1.out.below (below_new W2 (.cells #[.int .i64 c.k, .int .i64 c.s, .int .i64 c.n, .int .i64 c.m, .slice B1.a c.bits.length B1.c, .slice D1.a c.data.length D1.c, .slice E1.a c.ends.length E1.c, .slice X1.a c.words.length X1.c] 63)))
          generalize W2.alloc (.cells #[.int .i64 c.k, .int .i64 c.s, .int .i64 c.n, .int .i64 c.m, .slice B1.a c.bits.length B1.c, .slice D1.a c.data.length D1.c, .slice E1.a c.ends.length E1.c, .slice X1.a c.words.length X1.c] 63) = W3 at *
          generalize W2.heap.size = cb at *
          have B3 := Aside.mk hb3
          have HX3 := Aside.mk hx3
          have t30 := (hb3.cell (p := ⟨w.heap.size, 0, none⟩) hltt).trans t0
          have t31 := (hb3.cell (p := ⟨w.heap.size, 1, none⟩) hltt).trans t1
          have q32 := (hb3.cell (p := ⟨rb, 2, none⟩) hlrb).trans q2
          obtain ⟨x0, x1, x2, x3, x4, x5, x6, x7⟩ := box8 hx3
          have hlcb := lt_of_blk hx3
          have HLAY := Aside.mk (fun (W : World) (hb : Below W1.heap.size W1 W) => lay_eq HOK.out HFEW.out HEC.out RA (n := ln) HLN.out W (HRV.out.below hb))
          clear hx3 hb3 t0 t1 q2 q0 q1
          go_region_held3 (fun w' => w'.cell? ⟨w.heap.size, 0, none⟩ = some (.int .i64 k) ∧ w'.cell? ⟨w.heap.size, 1, none⟩ = some (.int .i64 s) ∧ w'.cell? ⟨rb, 2, none⟩ = some (.slice RA.a ln RA.c) ∧ w'.cell? ⟨cb, 0, none⟩ = some (.int .i64 c.k) ∧ w'.cell? ⟨cb, 1, none⟩ = some (.int .i64 c.s) ∧ w'.cell? ⟨cb, 2, none⟩ = some (.int .i64 c.n) ∧ w'.cell? ⟨cb, 3, none⟩ = some (.int .i64 c.m) ∧ w'.cell? ⟨cb, 4, none⟩ = some (.slice B1.a c.bits.length B1.c) ∧ w'.cell? ⟨cb, 5, none⟩ = some (.slice D1.a c.data.length D1.c) ∧ w'.cell? ⟨cb, 6, none⟩ = some (.slice E1.a c.ends.length E1.c) ∧ w'.cell? ⟨cb, 7, none⟩ = some (.slice X1.a c.words.length X1.c))
            (first | go_keep | (refine ⟨?_, ?_, ?_, ?_, ?_, ?_, ?_, ?_, ?_, ?_, ?_⟩ <;> assumption))
            (first
              | (go_at_call 25; refine (HLAY.out W3.drew (B3.out.trans (below_drewN W3 _ 1))).mono ?_; rintro e W4 ⟨B4, D4, E4, X4, va4, rfl, ho4, hb4⟩; replace hb4 := undrew hb4; have B4' := Aside.mk hb4; have HEQ := Aside.mk (equal_eq HOK.out HEC.out HEC.out HFEW.out (HO3.out.rd.below hb4) ho4.rd); have t40 := (hb4.cell (p := ⟨w.heap.size, 0, none⟩) (World.block_lt_of_cell? _ _ t30)).trans t30; have t41 := (hb4.cell (p := ⟨w.heap.size, 1, none⟩) (World.block_lt_of_cell? _ _ t31)).trans t31; have q42 := (hb4.cell (p := ⟨rb, 2, none⟩) (World.block_lt_of_cell? _ _ q32)).trans q32; have hx4 := (hb4.block _ (lt_of_blk HX3.out)).trans HX3.out; obtain ⟨y0, y1, y2, y3, y4, y5, y6, y7⟩ := box8 hx4; have HX4 := Aside.mk hx4; clear hx4 ho4 hb4 x0 x1 x2 x3 x4 x5 x6 x7 HLAY; dsimp only [colV] at HEQ ⊢)
              | (go_at_call 30; refine HEQ.out.mono ?_; rintro e W5 ⟨rfl, hb5⟩; have B5 := Aside.mk (below_chain B4'.out hb5); have t50 := (hb5.cell (p := ⟨w.heap.size, 0, none⟩) (World.block_lt_of_cell? _ _ t40)).trans t40; have t51 := (hb5.cell (p := ⟨w.heap.size, 1, none⟩) (World.block_lt_of_cell? _ _ t41)).trans t41; have q52 := (hb5.cell (p := ⟨rb, 2, none⟩) (World.block_lt_of_cell? _ _ q42)).trans q42; have hx5 := (hb5.block _ (lt_of_blk HX4.out)).trans HX4.out; obtain ⟨z0, z1, z2, z3, z4, z5, z6, z7⟩ := box8 hx5; clear hx5 hb5 y0 y1 y2 y3 y4 y5 y6 y7 HEQ))
          all_goals
            have HKEEP := Aside.mk (cb_keep HC1.out (below_chain B3.out B5.out) HCOK.out (HO3.out.below B5.out))
            have HKB := Aside.mk (show Kept (fun b => ¬ Z1 b) W1 W5 from Kept.of_below (below_chain B3.out B5.out))
            dsimp only [colV] at HKEEP
            go_wp2_with (go_at_call 35; refine HKEEP.out.mono ?_; rintro e W6 ⟨rfl, hcb6, hk6⟩; have HC6 := Aside.mk hcb6; have HK6 := Aside.mk (HKB.out.trans hk6 (fun _ e _ => e)); clear hcb6 hk6 HKEEP)
            exact ⟨⟨i + 1, by omega, by omega, by simp, ⟨bl_next HZZ.out.1 HT1.out HC6.out HK6.out (brought_same HBR.out)⟩⟩, by simp [intOf]; omega⟩
      · have HBR2 := Aside.mk (HBR.out.few (by omega))
        have hm20 : i * 120 ≤ 20000 := by omega
        obtain ⟨c, hc⟩ : ∃ c, c = colOf k s l := ⟨_, rfl⟩
        have HEC := Aside.mk hc
        have HCOK := Aside.mk (show COK c from by rw [hc]; exact built_cok HOK.out HBR2.out.1 HBR2.out.2)
        clear hc
        have hcn := HCB2.out.cn
        have HCN0 := Aside.mk (hcn.below (below_drewN wo _ 1))
        obtain ⟨RA, q2, hrv⟩ := cn_rows hcn
        have HCOL := Aside.mk (cn_column HCN0.out HBR.out hm20 HEC.out)
        have HLAY := Aside.mk (fun (W : World) (hb : Below wo.heap.size wo W) => lay_eq HOK.out HBR2.out HEC.out RA (n := l.length) rfl W (hrv.below hb))
        have HDIF := Aside.mk (show (i < n ∧ i = 100) ∨ (¬ i < n ∧ i = n) from by omega)
        have t0 := cell_blk (k := 0) HTT.out
        have t1 := cell_blk (k := 1) HTT.out
        simp at t0 t1
        have hltt := lt_of_blk HTT.out
        have hlrb := World.block_lt_of_cell? _ _ q2
        have HM20 := Aside.mk hm20
        clear hcn hrv hm20
        generalize hln : l.length = ln at *
        have HLN := Aside.mk hln
        clear hln
        clear hlt
        rcases HDIF.out with ⟨hin, rfl⟩ | ⟨hin, rfl⟩
        all_goals
          clear HDIF
          go_upto_region 45 with fail
          go_region_held3 (fun w' => w'.cell? ⟨w.heap.size, 0, none⟩ = some (.int .i64 k) ∧ w'.cell? ⟨w.heap.size, 1, none⟩ = some (.int .i64 s) ∧ w'.cell? ⟨rb, 2, none⟩ = some (.slice RA.a ln RA.c))
            (first | go_keep | (refine ⟨?_, ?_, ?_⟩ <;> assumption))
            (first
              | (go_at_call 34; refine HCOL.out.mono ?_; rintro e w7 ⟨B1, D1, E1, X1, va1, rfl, ho1, hb7⟩; replace hb7 := undrew hb7; have B7 := Aside.mk hb7; have HO1 := Aside.mk ho1; have t70 := (hb7.cell (p := ⟨w.heap.size, 0, none⟩) hltt).trans t0; have t71 := (hb7.cell (p := ⟨w.heap.size, 1, none⟩) hltt).trans t1; have q72 := (hb7.cell (p := ⟨rb, 2, none⟩) hlrb).trans q2; have HLAY7 := Aside.mk (HLAY.out w7 hb7); clear HCOL HLAY ho1 hb7; dsimp only [colV])
              | (go_at_call 25; refine HLAY7.out.mono ?_; rintro e w8 ⟨B2, D2, E2, X2, va2, rfl, ho2, hb8⟩; have B8 := Aside.mk (below_chain B7.out hb8); have HEQ := Aside.mk (equal_eq HOK.out HEC.out HEC.out HBR2.out (HO1.out.rd.below hb8) ho2.rd); have t80 := (B8.out.cell (p := ⟨w.heap.size, 0, none⟩) hltt).trans t0; have t81 := (B8.out.cell (p := ⟨w.heap.size, 1, none⟩) hltt).trans t1; have q82 := (B8.out.cell (p := ⟨rb, 2, none⟩) hlrb).trans q2; clear HLAY7 ho2 hb8 t70 t71 q72; dsimp only [colV] at HEQ ⊢)
              | (go_at_call 30; refine HEQ.out.mono ?_; rintro e w9 ⟨rfl, hb9⟩; have B9 := Aside.mk (below_chain B8.out hb9); have HCL := Aside.mk (cb_close (HCB2.out.same B9.out)); have t90 := (B9.out.cell (p := ⟨w.heap.size, 0, none⟩) hltt).trans t0; have t91 := (B9.out.cell (p := ⟨w.heap.size, 1, none⟩) hltt).trans t1; have q92 := (B9.out.cell (p := ⟨rb, 2, none⟩) hlrb).trans q2; clear HEQ hb9 t80 t81 q82)
              | (go_at_call 36; refine HCL.out.mono ?_; rintro e w10 ⟨rfl, hcn10, hk10, hq10⟩; have t100 := hk10.cell t90 (fun e => e (by unfold Z0; exact Nat.lt_succ_self _)); have t101 := hk10.cell t91 (fun e => e (by unfold Z0; exact Nat.lt_succ_self _)); have q102 := hq10.trans q92; have hltt10 := World.block_lt_of_cell? _ _ t100; have hlrb10 := World.block_lt_of_cell? _ _ q102; have HCN10 := Aside.mk hcn10; have HCOL := Aside.mk (cn_column hcn10 HBR.out HM20.out HEC.out); have HLAY := Aside.mk (fun (W : World) (hb : Below w10.heap.size w10 W) => lay_eq HOK.out HBR2.out HEC.out RA (n := ln) HLN.out W ((cn_rows_at hcn10 q102).below hb)); clear HCL hcn10 hk10 hq10 t90 t91 q92)
              | (go_at_call 34; refine HCOL.out.mono ?_; rintro e w11 ⟨B3, D3, E3, X3, va3, rfl, ho3, hb11⟩; have B11 := Aside.mk hb11; have HO3 := Aside.mk ho3; have t110 := (hb11.cell (p := ⟨w.heap.size, 0, none⟩) hltt10).trans t100; have t111 := (hb11.cell (p := ⟨w.heap.size, 1, none⟩) hltt10).trans t101; have q112 := (hb11.cell (p := ⟨rb, 2, none⟩) hlrb10).trans q102; have HLAY11 := Aside.mk (HLAY.out w11 hb11); clear HCOL HLAY ho3 hb11; dsimp only [colV])
              | (go_at_call 25; refine HLAY11.out.mono ?_; rintro e w12 ⟨B4, D4, E4, X4, va4, rfl, ho4, hb12⟩; have B12 := Aside.mk (below_chain B11.out hb12); have HEQ12 := Aside.mk (equal_eq HOK.out HEC.out HEC.out HBR2.out (HO3.out.rd.below hb12) ho4.rd); have t120 := (B12.out.cell (p := ⟨w.heap.size, 0, none⟩) hltt10).trans t100; have t121 := (B12.out.cell (p := ⟨w.heap.size, 1, none⟩) hltt10).trans t101; have q122 := (B12.out.cell (p := ⟨rb, 2, none⟩) hlrb10).trans q102; clear HLAY11 ho4 hb12 t110 t111 q112; dsimp only [colV] at HEQ12 ⊢)
              | (go_at_call 30; refine HEQ12.out.mono ?_; rintro e w13 ⟨rfl, hb13⟩; have B13 := Aside.mk (below_chain B12.out hb13); have t130 := (B13.out.cell (p := ⟨w.heap.size, 0, none⟩) hltt10).trans t100; have t131 := (B13.out.cell (p := ⟨w.heap.size, 1, none⟩) hltt10).trans t101; have q132 := (B13.out.cell (p := ⟨rb, 2, none⟩) hlrb10).trans q102; clear HEQ12 hb13 t120 t121 q122))
          all_goals
            go_wp2_with fail
            go_ret
            exact ⟨rfl, below_chain HCN10.out.bel B13.out⟩
end Go.Proofs.YtmhjjhaipcgbiaaGreat
