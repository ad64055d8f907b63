/- Texts of this claim, one behind the other: Fk, Gw. -/
import Derived.Test.YtmhjjhaipcgbiaaBakP37
import Derived.Test.YtmhjjhaipcgbiaaBakP32
import Derived.Test.YtmhjjhaipcgbiaaBakP36
import Derived.Test.YtmhjjhaipcgbiaaBakP14
import Derived.Test.YtmhjjhaipcgbiaaBakP38
import Derived.Test.YtmhjjhaipcgbiaaBakP39

namespace Go.Proofs.Ytmhjjhaipcgbiaa
open Go.RowKit
set_option linter.unusedVariables false
set_option linter.unusedSimpArgs false
set_option maxRecDepth 100000
set_option maxHeartbeats 1000000
theorem table_any (l : List Nm) (hb : ∀ v ∈ l, IsBytes v.name ∧ v.name.length ≤ 9223372036854775807) (rows : List (List V)) (hrv : ∀ r ∈ rows, ∀ v ∈ r, IsBytes v.text ∧ v.bits < 18446744073709551616 ∧ v.text.length ≤ 9223372036854775807) (wild : Bool) (bend : Int) (hbd : withinI bend 0 15 = 0) (A R : SL) (w : World) (h : RdNs w A l) (hr : RdRs w R rows) :
    Calls Try.prog 32 #[.agg #[.slice A.a l.length A.c, .slice R.a rows.length R.c, .bool wild, .int .i64 bend]] w (TableR w) := by
  have HR := Aside.mk h
  have HRR := Aside.mk hr
  have HBN := Aside.mk hb
  have HRV := Aside.mk hrv
  have HBD := Aside.mk hbd
  obtain ⟨Aa, Ac⟩ := A
  obtain ⟨Ra, Rc⟩ := R
  have hll : l.length ≤ 9223372036854775807 := by obtain ⟨xs, q, _⟩ := h; exact q.max
  have hcap : l.length ≤ Ac ∧ Ac ≤ 9223372036854775807 := by
    obtain ⟨xs, ⟨_, a, c, e, q1, q2, _⟩, _⟩ := h
    simp only [Value.slice.injEq, true_and] at e
    unfold maxLen at q2
    rw [e.2]; exact ⟨q1, by omega⟩
  obtain ⟨hc1, hc2⟩ := hcap
  clear h hr hb hrv hbd
  dsimp only
  go_enter Try.func32, Try.ntmps32
  go_upto_region 2 with fail
  have hx1 := heap_alloc_new w (.cells #[.slice Aa l.length Ac, .slice Ra rows.length Rc, .bool wild, .int .i64 bend] 67)
  have hb1 := below_new w (.cells #[.slice Aa l.length Ac, .slice Ra rows.length Rc, .bool wild, .int .i64 bend] 67)
  generalize hw1 : w.alloc (.cells #[.slice Aa l.length Ac, .slice Ra rows.length Rc, .bool wild, .int .i64 bend] 67) = w1 at *
  have hs1 : w1.heap.size = w.heap.size + 1 := by rw [← hw1]; simp
  have hx2 := heap_alloc_new w1 (.cells #[.slice none 0 0, .int .i64 0, .slice none 0 0] 73)
  have hb2 := below_new w1 (.cells #[.slice none 0 0, .int .i64 0, .slice none 0 0] 73)
  have HX1 := Aside.mk ((hb2.block _ (lt_of_blk hx1)).trans hx1)
  have HX2 := Aside.mk (show (w1.alloc (.cells #[.slice none 0 0, .int .i64 0, .slice none 0 0] 73)).heap[w.heap.size + 1]? = _ from hs1 ▸ hx2)
  have HB2 := Aside.mk (below_chain hb1 hb2)
  clear hx1 hx2 hb1 hb2 hw1
  generalize w1.alloc (.cells #[.slice none 0 0, .int .i64 0, .slice none 0 0] 73) = w2 at *
  clear hs1
  have HL8 := Aside.mk (show (l.take 8).length = min 8 l.length by rw [List.length_take])
  go_cut [14] from 12 to 14 (fun v wx => ∃ d : Bool, v = .bool d ∧ d = decide (8 < (l.length : Int)) ∧ wx = w2)
  case first =>
    go_wp2_with fail
    go_meet
    exact ⟨_, rfl, rfl, rfl⟩
  case rest =>
  obtain ⟨d, rfl, hd, rfl⟩ := hcut
  have HD8 := Aside.mk hd
  clear hd
  go_step
  go_cut [3] from 15 to 16 (fun v wx => v = .slice Aa (l.take 8).length Ac ∧ wx = wc)
  case first =>
    by_cases h8 : l.length ≤ 8
    · have hd8 : decide (8 < (l.length : Int)) = false := decide_eq_false (by omega)
      obtain rfl : d = false := by rw [HD8.out, hd8]
      go_wp2_with fail
      go_meet
      exact ⟨by rw [HL8.out, Nat.min_eq_right h8], rfl⟩
    · have hd8 : decide (8 < (l.length : Int)) = true := decide_eq_true (by omega)
      obtain rfl : d = true := by rw [HD8.out, hd8]
      go_wp2_with fail
      go_meet
      exact ⟨by rw [HL8.out, Nat.min_eq_left (by omega)], rfl⟩
  case rest =>
  obtain ⟨rfl, rfl⟩ := hcut
  generalize hl8 : l.take 8 = l8 at *
  have HH := Aside.mk (fun (W : World) (hb : Below w.heap.size w W) => heads_any l8 (by rw [HL8.out]; omega) (by rw [← hl8]; exact fun v hv => HBN.out v (List.mem_of_mem_take hv)) ⟨Aa, Ac⟩ W (by rw [← hl8]; exact (HR.out.below hb).takeMin 8))
  clear hl8 HBN HR
  go_wp2_with (go_at_call 77; refine (HH.out _ HB2.out).mono ?_; rintro e w3 ⟨hs, ha, hc, rfl, hown, hsp, hsl, hb3⟩)
  have HS := Aside.mk (And.intro hsp hsl)
  have hH : hs.length ≤ 8 := hsl
  have hz3 := hb3.size
  have HX1' := Aside.mk ((hb3.block _ (lt_of_blk HX1.out)).trans HX1.out)
  have HX2' := Aside.mk ((hb3.block _ (lt_of_blk HX2.out)).trans HX2.out)
  obtain ⟨cs, hcl, hck, hms⟩ := vals_make hs.length (by omega) (w3.alloc (.cells #[.slice ha hs.length hc, .int .i64 0, .slice none 0 0] 73))
  have hz4 : (w3.alloc (.cells #[.slice ha hs.length hc, .int .i64 0, .slice none 0 0] 73)).heap.size = w3.heap.size + 1 := by simp
  rw [hz4] at hms
  have HI0 := Aside.mk (TbI.start (below_chain HB2.out hb3) (Nat.le_refl _) HX1'.out HX2'.out (hown.mono HB2.out.size) hcl hck)
  have HW3 := Aside.mk (below_chain HB2.out hb3)
  clear hown hsp hsl hb3 hz3 hcl hck hz4 HX1 HX2 HX1' HX2' HB2 HH HD8 HL8
  rw [hms]
  go_simp
  go_upto_region 6 with fail
  clear hms
  generalize w3.heap.size = b4 at *
  generalize ((w3.alloc (.cells #[.slice ha hs.length hc, .int .i64 0, .slice none 0 0] 73)).alloc (.cells cs.toArray 35)) = w5 at *
  obtain ⟨b5, hb5⟩ : ∃ b5, b5 = b4 + 1 := ⟨_, rfl⟩
  rw [← hb5] at HI0 ⊢
  clear hb5 HW3
  obtain ⟨b2, hb2⟩ : ∃ b2, b2 = w.heap.size + 1 := ⟨_, rfl⟩
  rw [← hb2] at HI0 ⊢
  have HB2L := Aside.mk (show w.heap.size ≤ b2 by omega)
  clear hb2
  go_wp2_with fail
  go_loopw [6, 7, 8] (fun iv _ _ wr => ∃ (i : Nat) (L : Nat → List V) (A : Nat → SL), i ≤ rows.length ∧ i ≤ 40 ∧ iv = .int .i64 (i : Int) ∧ Aside (TbI w w.heap.size b2 b4 b5 #[.slice Aa l.length Ac, .slice Ra rows.length Rc, .bool wild, .int .i64 bend] hs ha hc (i : Int) (.slice none 0 0) (fun _ => i) L A wr)) (fun iv _ _ _ => rows.length - (intOf iv).toNat)
  case atStart => exact ⟨0, _, _, by omega, by omega, rfl, HI0⟩
  case round =>
    obtain ⟨i, L, A, hi, hi40, rfl, HI⟩ := hrel
    have hbx := HI.out.box
    obtain ⟨c0, c1, c2, c3⟩ := box4 hbx
    clear hbx
    go_upto_region 7 with fail
    go_cut [32] from 24 to 32 (fun v wx => v = .bool (decide (i < rows.length ∧ i < 40)) ∧ wx = wr)
    case first =>
      by_cases h1 : i < rows.length
      · have hd1 : decide ((i : Int) < (rows.length : Int)) = true := decide_eq_true (by omega)
        by_cases h2 : i < 40
        · have hd2 : decide ((i : Int) < 40) = true := decide_eq_true (by omega)
          go_wp2_with fail
          go_meet
          exact ⟨by rw [decide_eq_true (show i < rows.length ∧ i < 40 from ⟨h1, h2⟩)], rfl⟩
        · have hd2 : decide ((i : Int) < 40) = false := decide_eq_false (by omega)
          go_wp2_with fail
          go_meet
          exact ⟨by rw [decide_eq_false (show ¬ (i < rows.length ∧ i < 40) from fun h => h2 h.2)], rfl⟩
      · have hd1 : decide ((i : Int) < (rows.length : Int)) = false := decide_eq_false (by omega)
        go_wp2_with fail
        go_meet
        exact ⟨by rw [decide_eq_false (show ¬ (i < rows.length ∧ i < 40) from fun h => h1 h.1)], rfl⟩
    case rest =>
    obtain ⟨rfl, rfl⟩ := hcut
    clear c0 c1 c2 c3
    by_cases hlt : i < rows.length ∧ i < 40
    · rw [decide_eq_true hlt]
      obtain ⟨hl1, hl2⟩ := hlt
      have hw1 : IntKind.i64.wrap ((i : Int) + 1) = (i : Int) + 1 := by rw [IntWalk.i64_left, IntWalk.wrap64_in]; omega
      have htb := HI.out.tab
      obtain ⟨d0, d1, d2⟩ := box3t htb
      have fz := fun k => frozen_blk (k := k) htb
      clear htb
      go_upto_region 10 with fail
      clear d0 d1 d2 fz
      have HJ0 := Aside.mk ((HI.out.row ((i : Int) + 1)).congr (c' := fun j => if j < 0 then i + 1 else i) (fun k _ => by rw [if_neg (by omega)]))
      clear HI
      generalize wc.setCell ⟨b4, 1, none⟩ (.int .i64 ((i : Int) + 1)) = w6 at *
      go_wp2_with fail
      go_loopw [7, 8] (fun kv _ wr => ∃ (k : Nat) (L : Nat → List V) (A : Nat → SL), k ≤ hs.length ∧ kv = .int .i64 (k : Int) ∧ Aside (TbI w w.heap.size b2 b4 b5 #[.slice Aa l.length Ac, .slice Ra rows.length Rc, .bool wild, .int .i64 bend] hs ha hc ((i : Int) + 1) (.slice none 0 0) (fun j => if j < k then i + 1 else i) L A wr)) (fun kv _ _ => hs.length - (intOf kv).toNat)
      case atStart => exact ⟨0, L, A, by omega, rfl, HJ0⟩
      case round =>
        clear HJ0 L A
        obtain ⟨k, L, A, hk, rfl, HJ⟩ := hrel
        by_cases hkl : k < hs.length
        · have hd3 : decide ((k : Int) < (hs.length : Int)) = true := decide_eq_true (by omega)
          have hbx := HJ.out.box
          have htb := HJ.out.tab
          obtain ⟨c0, c1, c2, c3⟩ := box4 hbx
          obtain ⟨d0, d1, d2⟩ := box3t htb
          obtain ⟨gr, offr, ra, rc, er, qr1, qr2, hrow, hrv⟩ := HRR.out.at hl1
          replace hrow := (HJ.out.bel.cell (p := ⟨gr, offr + i, none⟩) (World.block_lt_of_cell? _ _ hrow)).trans hrow
          have HRW := Aside.mk hrv
          have HVV := Aside.mk (HRV.out _ (List.getElem_mem hl1))
          generalize hrr : rows[i] = r at *
          clear hbx htb hrv hrr
          dsimp only at er qr1 qr2
          have hER := Aside.mk er
          go_upto_region 14 with fail
          have h8 := heap_alloc_new wr (.cells #[.bool false, .int .u64 0, .slice none 0 0] 98)
          have hb8 := below_new wr (.cells #[.bool false, .int .u64 0, .slice none 0 0] 98)
          have hlo8 : w.heap.size ≤ wr.heap.size := HJ.out.bel.size
          have HJ7 := Aside.mk (HJ.out.below hb8)
          replace hrow := (hb8.cell (p := ⟨gr, offr + i, none⟩) (World.block_lt_of_cell? _ _ hrow)).trans hrow
          have H8 := Aside.mk h8
          clear h8 hb8 HJ c0 c1 c2 c3 d0 d1 d2
          generalize wr.alloc (.cells #[.bool false, .int .u64 0, .slice none 0 0] 98) = w7 at *
          generalize wr.heap.size = b8 at *
          obtain ⟨c0, c1, c2, c3⟩ := box4 HJ7.out.box
          go_cut [53] from 46 to 53 (fun v wx => ∃ e4 : Bool, v = .bool e4 ∧ e4 = decide (k < r.length) ∧ wx = w7)
          case first =>
            by_cases hkr : k < r.length
            · have hd4 : decide ((k : Int) < (r.length : Int)) = true := decide_eq_true (by omega)
              go_wp2_with fail
              go_meet
              exact ⟨_, rfl, (decide_eq_true hkr).symm, rfl⟩
            · have hd4 : decide ((k : Int) < (r.length : Int)) = false := decide_eq_false (by omega)
              go_wp2_with fail
              go_meet
              exact ⟨_, rfl, (decide_eq_false hkr).symm, rfl⟩
          case rest =>
          obtain ⟨e4, rfl, he4, rfl⟩ := hcut
          have HE4 := Aside.mk he4
          clear he4
          go_step
          go_cut [] from 54 to 61 (fun wx => Aside (ValB w b8 wx ∧ TbI w w.heap.size b2 b4 b5 #[.slice Aa l.length Ac, .slice Ra rows.length Rc, .bool wild, .int .i64 bend] hs ha hc ((i : Int) + 1) (.slice none 0 0) (fun j => if j < k then i + 1 else i) L A wx))
          case first =>
            by_cases hkr : k < r.length
            · obtain rfl : e4 = true := HE4.out.trans (decide_eq_true hkr)
              obtain ⟨gv, ov, cap, ta, tc, ea, ec, p1, p2, v0, v1, v2, hrt⟩ := HRW.out.at hkr
              have hvv := HVV.out _ (List.getElem_mem hkr)
              replace v0 := (HJ7.out.bel.cell (p := ⟨gv, ov + k * 3, none⟩) (World.block_lt_of_cell? _ _ v0)).trans v0
              replace v1 := (HJ7.out.bel.cell (p := ⟨gv, ov + k * 3 + 1, none⟩) (World.block_lt_of_cell? _ _ v1)).trans v1
              replace v2 := (HJ7.out.bel.cell (p := ⟨gv, ov + k * 3 + 2, none⟩) (World.block_lt_of_cell? _ _ v2)).trans v2
              have fz := fun k => frozen_blk (k := k) H8.out
              dsimp only at ea ec
              subst ea ec
              generalize r[k] = v at *
              obtain ⟨vn, vb, vt⟩ := v
              dsimp only at v0 v1 v2 hrt hvv
              have HRT := Aside.mk hrt
              have HVX := Aside.mk hvv
              clear hrt hvv
              have h8a := heap_setCell_at (k := 0) H8.out (.bool vn)
              have h8b := heap_setCell_at (k := 1) h8a (.int .u64 (vb : Int))
              have h8c := heap_setCell_at (k := 2) h8b (.slice ta vt.length tc)
              simp only [Array.setIfInBounds, List.setIfInBounds_toArray, List.set_cons_zero, List.set_cons_succ] at h8a h8b h8c
              have fa := fun k => frozen_blk (k := k) h8a
              have fb := fun k => frozen_blk (k := k) h8b
              have t0 := cell_blk (k := 0) H8.out
              have t1 := cell_blk (k := 1) h8a
              have t2 := cell_blk (k := 2) h8b
              simp at t0 t1 t2
              have H8C := Aside.mk h8c
              have HJC := Aside.mk (HJ7.out.other H8.out (by decide) hlo8 (((Kept.setCell wc ⟨b8, 0, none⟩ (.bool vn)).trans (Kept.setCell _ ⟨b8, 1, none⟩ (.int .u64 (vb : Int))) (fun k e _ => e)).trans (Kept.setCell _ ⟨b8, 2, none⟩ (.slice ta vt.length tc)) (fun k e _ => e)))
              clear h8a h8b h8c
              go_wp2_with fail
              go_meet
              exact ⟨⟨⟨vn, vb, vt, ta, tc, HVX.out.2.1, HVX.out.1, HVX.out.2.2, HRT.out, H8C.out⟩, HJC.out⟩⟩
            · obtain rfl : e4 = false := HE4.out.trans (decide_eq_false hkr)
              go_wp2_with fail
              go_meet
              exact ⟨⟨⟨false, 0, [], none, 0, by decide, isBytes_nil, by decide, (Own.nil w 0 5 1).rd, H8.out⟩, HJ7.out⟩⟩
          case rest =>
          clear hrow c0 c1 c2 c3 HJ7 H8 HRW HVV er qr1 qr2
          obtain ⟨⟨nl, b, tx, ta, tc, hb64, htb, htl, htr, h8⟩, hj8⟩ := hcut.out
          have HJ8 := Aside.mk hj8
          have HTX := Aside.mk (And.intro htb (And.intro htl htr))
          have HB8 := Aside.mk h8
          clear hcut hj8 htb htl htr h8
          generalize wc = w8 at *
          go_step
          obtain ⟨gh, oh, eh, qh1, qh2, x0, x1, x2, x3⟩ := (show RdH w8 ⟨ha, hc⟩ hs from HJ8.out.hd.rd).at hkl
          dsimp only at eh qh1 qh2
          subst eh
          obtain ⟨hd, hhd⟩ : ∃ hd, hd = hs[k] := ⟨_, rfl⟩
          rw [← hhd] at x0 x1 x2 x3
          have HHD := Aside.mk hhd
          have HOT := Aside.mk (show okType hd.k hd.s = true from hhd ▸ HS.out.1.2.2.2.1 _ (List.getElem_mem hkl))
          clear hhd
          obtain ⟨hdn, hdk, hds, hdl⟩ := hd
          dsimp only at x0 x1 x2 x3
          go_step
          go_cut [] from 62 to 76 (fun wx => Aside (ValB w b8 wx ∧ TbI w w.heap.size b2 b4 b5 #[.slice Aa l.length Ac, .slice Ra rows.length Rc, .bool wild, .int .i64 bend] hs (some ⟨gh, oh, none⟩) hc ((i : Int) + 1) (.slice none 0 0) (fun j => if j < k then i + 1 else i) L A wx))
          case first =>
            have v0 := cell_blk (k := 0) HB8.out
            simp at v0
            have fz := fun k => frozen_blk (k := k) HB8.out
            obtain ⟨c0, c1, c2, c3⟩ := box4 HJ8.out.box
            obtain ⟨d0, d1, d2⟩ := box3t HJ8.out.tab
            have HEND := Aside.mk (fun (z : Bool) => (⟨⟨z, b, tx, ta, tc, hb64, HTX.out.1, HTX.out.2.1, HTX.out.2.2, by have := heap_setCell_at (k := 0) HB8.out (.bool z); simpa using this⟩, HJ8.out.other HB8.out (by decide) hlo8 (Kept.setCell _ ⟨b8, 0, none⟩ (.bool z))⟩ : ValB w b8 (w8.setCell ⟨b8, 0, none⟩ (.bool z)) ∧ TbI w w.heap.size b2 b4 b5 #[.slice Aa l.length Ac, .slice Ra rows.length Rc, .bool wild, .int .i64 bend] hs (some ⟨gh, oh, none⟩) hc ((i : Int) + 1) (.slice none 0 0) (fun j => if j < k then i + 1 else i) L A (w8.setCell ⟨b8, 0, none⟩ (.bool z))))
            cases nl
            · go_wp2_with fail
              go_meet
              exact ⟨HEND.out _⟩
            · cases wild
              · cases hdl
                · go_wp2_with fail
                  go_meet
                  exact ⟨HEND.out _⟩
                · go_wp2_with fail
                  go_meet
                  exact ⟨HEND.out _⟩
              · go_wp2_with fail
                go_meet
                exact ⟨HEND.out _⟩
          case rest =>
          clear x0 x1 x2 x3 HJ8 HTX HB8 hb64
          clear tx
          clear ta tc b nl
          obtain ⟨⟨nl, b, tx, ta, tc, hb64, htb, htl, htr, h8⟩, hj8⟩ := hcut.out
          have HJ8 := Aside.mk hj8
          have HTX := Aside.mk (And.intro htb (And.intro htl htr))
          have HB8 := Aside.mk h8
          clear hcut hj8 htb htl htr h8
          generalize wc = w8 at *
          go_step
          obtain ⟨xs, ho⟩ := HJ8.out.each k hkl
          obtain ⟨vl, hvl, hvb, hvk⟩ := HJ8.out.vals
          have e5 : w8.cell? ⟨b5, k, none⟩ = some (.slice (A k).a (L k).length (A k).c) := by rw [cell_blk hvb]; simpa [slV] using hvk k hkl
          have n5 := ho.row.blk_ne hvb (by decide)
          have n4 := ho.row.blk_ne HJ8.out.tab (by decide)
          have n8 := ho.row.blk_ne HB8.out (by decide)
          obtain ⟨cur, hcur⟩ := own_blk HJ8.out.hd (show Value.ownBlock (.slice (some ⟨gh, oh, none⟩) hs.length hc) = some gh from rfl)
          have ng := ho.row.blk_ne hcur (by decide)
          obtain ⟨d0, d1, d2⟩ := box3t HJ8.out.tab
          have y0 := cell_blk (k := 0) HB8.out
          have y1 := cell_blk (k := 1) HB8.out
          have y2 := cell_blk (k := 2) HB8.out
          simp at y0 y1 y2
          obtain ⟨gh', oh', eh', _, _, x0, x1, x2, x3⟩ := (show RdH w8 ⟨some ⟨gh, oh, none⟩, hc⟩ hs from HJ8.out.hd.rd).at hkl
          cases eh'
          rw [← HHD.out] at x0 x1 x2 x3
          dsimp only at x0 x1 x2 x3
          have HSX := Aside.mk (fun (U : World) (hK : Kept (fun b => (slV (A k) (L k).length).ownBlock = some b) w8 U) => (⟨hK.cell e5 n5, hK.cell d0 n4, hK.cell x1 ng, hK.cell x2 ng, hK.cell y0 n8, hK.cell y1 n8, hK.cell y2 n8⟩ : (fun U : World => U.cell? ⟨b5, k, none⟩ = some (.slice (A k).a (L k).length (A k).c) ∧ U.cell? ⟨b4, 0, none⟩ = some (.slice (some ⟨gh, oh, none⟩) hs.length hc) ∧ U.cell? ⟨gh, oh + k * 4 + 1, none⟩ = some (.int .i64 hdk) ∧ U.cell? ⟨gh, oh + k * 4 + 2, none⟩ = some (.int .i64 hds) ∧ U.cell? ⟨b8, 0, none⟩ = some (.bool nl) ∧ U.cell? ⟨b8, 1, none⟩ = some (.int .u64 (b : Int)) ∧ U.cell? ⟨b8, 2, none⟩ = some (.slice ta tx.length tc)) U))
          have HO := Aside.mk ho
          have HVB := Aside.mk hvb
          have HN5 := Aside.mk n5
          have hlen : (L k).length = i := by have := HJ8.out.len k hkl; simpa using this
          have HLN := Aside.mk hlen
          have HFIT := Aside.mk (fun (W : World) (hW : Below w.heap.size w W) => fit_any hdk hds HOT.out nl b hb64 tx HTX.out.1 ⟨ta, tc⟩ HTX.out.2.1 W (HTX.out.2.2.below hW))
          clear hcur hvl hvk n5 n4 n8 ng d0 d1 d2 y0 y1 y2 x0 x1 x2 x3 e5 ho hvb hlen
          dsimp only at HFIT
          refine wp_regionO (fun U : World => U.cell? ⟨b5, k, none⟩ = some (.slice (A k).a (L k).length (A k).c) ∧ U.cell? ⟨b4, 0, none⟩ = some (.slice (some ⟨gh, oh, none⟩) hs.length hc) ∧ U.cell? ⟨gh, oh + k * 4 + 1, none⟩ = some (.int .i64 hdk) ∧ U.cell? ⟨gh, oh + k * 4 + 2, none⟩ = some (.int .i64 hds) ∧ U.cell? ⟨b8, 0, none⟩ = some (.bool nl) ∧ U.cell? ⟨b8, 1, none⟩ = some (.int .u64 (b : Int)) ∧ U.cell? ⟨b8, 2, none⟩ = some (.slice ta tx.length tc)) 17 18 (by kernel_rfl) rfl ?_
          have hS : (fun U : World => U.cell? ⟨b5, k, none⟩ = some (.slice (A k).a (L k).length (A k).c) ∧ U.cell? ⟨b4, 0, none⟩ = some (.slice (some ⟨gh, oh, none⟩) hs.length hc) ∧ U.cell? ⟨gh, oh + k * 4 + 1, none⟩ = some (.int .i64 hdk) ∧ U.cell? ⟨gh, oh + k * 4 + 2, none⟩ = some (.int .i64 hds) ∧ U.cell? ⟨b8, 0, none⟩ = some (.bool nl) ∧ U.cell? ⟨b8, 1, none⟩ = some (.int .u64 (b : Int)) ∧ U.cell? ⟨b8, 2, none⟩ = some (.slice ta tx.length tc)) w8.drew := HSX.out _ (Kept.of_below (below_drewN w8 _ 1))
          refine wpE_take (k := 0) (o := ⟨some 77, _, _, _, _, _⟩) (v := ?_) rfl (by kernel_rfl) (by kernel_rfl) (by kernel_rfl) (by kernel_rfl) (fun _ _ _ h => absurd h.1 (by simp)) (Or.inl ⟨by rfl, ?_⟩) (by assumption) ?_
          rotate_left
          · (intro w hSw; obtain ⟨s1, s2, s3, s4, s5, s6, s7⟩ := hSw; go_simp; (try with_reducible rfl))
          (try simp only [Act.put, List.setIfInBounds_toArray, List.set_cons_zero, List.set_cons_succ])
          refine wpE_take (k := 1) (o := ⟨some 78, _, _, _, _, _⟩) (v := ?_) rfl (by kernel_rfl) (by kernel_rfl) (by kernel_rfl) (by kernel_rfl) (fun _ _ _ h => absurd h.1 (by simp)) (Or.inl ⟨by rfl, ?_⟩) (by assumption) ?_
          rotate_left
          · (intro w hSw; obtain ⟨s1, s2, s3, s4, s5, s6, s7⟩ := hSw; go_simp; (try with_reducible rfl))
          (try simp only [Act.put, List.setIfInBounds_toArray, List.set_cons_zero, List.set_cons_succ])
          refine wpE_take (k := 2) (o := ⟨some 79, _, _, _, _, _⟩) (v := ?_) rfl (by kernel_rfl) (by kernel_rfl) (by kernel_rfl) (by kernel_rfl) (fun _ _ _ h => absurd h.1 (by simp)) (Or.inl ⟨by rfl, ?_⟩) (by assumption) ?_
          rotate_left
          · (intro w hSw; obtain ⟨s1, s2, s3, s4, s5, s6, s7⟩ := hSw; go_simp; (try with_reducible rfl))
          (try simp only [Act.put, List.setIfInBounds_toArray, List.set_cons_zero, List.set_cons_succ])
          refine wpE_take (k := 3) (o := ⟨some 80, _, _, _, _, _⟩) (v := ?_) rfl (by kernel_rfl) (by kernel_rfl) (by kernel_rfl) (by kernel_rfl) (fun _ _ _ h => absurd h.1 (by simp)) (Or.inl ⟨by rfl, ?_⟩) (by assumption) ?_
          rotate_left
          · (intro w hSw; obtain ⟨s1, s2, s3, s4, s5, s6, s7⟩ := hSw; go_simp; (try with_reducible rfl))
          (try simp only [Act.put, List.setIfInBounds_toArray, List.set_cons_zero, List.set_cons_succ])
          refine wpE_take (k := 4) (o := ⟨some 81, _, _, _, _, _⟩) (v := ?_) rfl (by kernel_rfl) (by kernel_rfl) (by kernel_rfl) (by kernel_rfl) (fun _ _ _ h => absurd h.1 (by simp)) (Or.inl ⟨by rfl, ?_⟩) (by assumption) ?_
          rotate_left
          · (intro w hSw; obtain ⟨s1, s2, s3, s4, s5, s6, s7⟩ := hSw; go_simp; (try with_reducible rfl))
          (try simp only [Act.put, List.setIfInBounds_toArray, List.set_cons_zero, List.set_cons_succ])
          refine wpE_take (k := 5) (o := ⟨some 82, _, _, _, _, _⟩) (v := ?_) rfl (by kernel_rfl) (by kernel_rfl) (by kernel_rfl) (by kernel_rfl) (fun _ _ _ h => absurd h.1 (by simp)) (Or.inl ⟨by rfl, ?_⟩) (by assumption) ?_
          rotate_left
          · (intro w hSw; obtain ⟨s1, s2, s3, s4, s5, s6, s7⟩ := hSw; go_simp; (try with_reducible rfl))
          (try simp only [Act.put, List.setIfInBounds_toArray, List.set_cons_zero, List.set_cons_succ])
          refine wpE_take (k := 6) (o := ⟨some 83, _, _, _, _, _⟩) (v := ?_) rfl (by kernel_rfl) (by kernel_rfl) (by kernel_rfl) (by kernel_rfl) (fun _ _ _ h => absurd h.1 (by simp)) (Or.inl ⟨by rfl, ?_⟩) (by assumption) ?_
          rotate_left
          · (intro w hSw; obtain ⟨s1, s2, s3, s4, s5, s6, s7⟩ := hSw; go_simp; (try with_reducible rfl))
          (try simp only [Act.put, List.setIfInBounds_toArray, List.set_cons_zero, List.set_cons_succ])
          refine wpE_take (k := 7) (o := ⟨some 84, _, _, _, _, _⟩) (v := ?_) rfl (by kernel_rfl) (by kernel_rfl) (by kernel_rfl) (by kernel_rfl) (fun _ _ _ h => absurd h.1 (by simp)) (Or.inl ⟨by rfl, ?_⟩) (by assumption) ?_
          rotate_left
          · (intro w hSw; obtain ⟨s1, s2, s3, s4, s5, s6, s7⟩ := hSw; go_simp; (try with_reducible rfl))
          (try simp only [Act.put, List.setIfInBounds_toArray, List.set_cons_zero, List.set_cons_succ])
          refine wpE_take (k := 8) (o := ⟨some 85, _, _, _, _, _⟩) (v := ?_) rfl (by kernel_rfl) (by kernel_rfl) (by kernel_rfl) (by kernel_rfl) (fun _ _ _ h => absurd h.1 (by simp)) (Or.inl ⟨by rfl, ?_⟩) (by assumption) ?_
          rotate_left
          · (intro w hSw; obtain ⟨s1, s2, s3, s4, s5, s6, s7⟩ := hSw; go_simp; (try with_reducible rfl))
          (try simp only [Act.put, List.setIfInBounds_toArray, List.set_cons_zero, List.set_cons_succ])
          refine wpE_take (k := 9) (o := ⟨some 86, _, _, _, _, _⟩) (v := ?_) rfl (by kernel_rfl) (by kernel_rfl) (by kernel_rfl) (by kernel_rfl) (fun _ _ _ h => absurd h.1 (by simp)) (Or.inl ⟨by rfl, ?_⟩) (by assumption) ?_
          rotate_left
          · (intro w hSw; obtain ⟨s1, s2, s3, s4, s5, s6, s7⟩ := hSw; go_simp; (try with_reducible rfl))
          (try simp only [Act.put, List.setIfInBounds_toArray, List.set_cons_zero, List.set_cons_succ])
          refine wpE_take (k := 10) (o := ⟨some 87, _, _, _, _, _⟩) (v := ?_) rfl (by kernel_rfl) (by kernel_rfl) (by kernel_rfl) (by kernel_rfl) (fun _ _ _ h => absurd h.1 (by simp)) (Or.inl ⟨by rfl, ?_⟩) (by assumption) ?_
          rotate_left
          · (intro w hSw; obtain ⟨s1, s2, s3, s4, s5, s6, s7⟩ := hSw; go_simp; (try with_reducible rfl))
          (try simp only [Act.put, List.setIfInBounds_toArray, List.set_cons_zero, List.set_cons_succ])
          refine wpE_take (k := 11) (o := ⟨some 88, _, _, _, _, _⟩) (v := ?_) rfl (by kernel_rfl) (by kernel_rfl) (by kernel_rfl) (by kernel_rfl) (fun _ _ _ h => absurd h.1 (by simp)) (Or.inl ⟨by rfl, ?_⟩) (by assumption) ?_
          rotate_left
          · (intro w hSw; obtain ⟨s1, s2, s3, s4, s5, s6, s7⟩ := hSw; go_simp; (try with_reducible rfl))
          (try simp only [Act.put, List.setIfInBounds_toArray, List.set_cons_zero, List.set_cons_succ])
          refine wpE_take (k := 12) (o := ⟨some 89, _, _, _, _, _⟩) (v := ?_) rfl (by kernel_rfl) (by kernel_rfl) (by kernel_rfl) (by kernel_rfl) (fun _ _ _ h => absurd h.1 (by simp)) (Or.inl ⟨by rfl, ?_⟩) (by assumption) ?_
          rotate_left
          · (intro w hSw; obtain ⟨s1, s2, s3, s4, s5, s6, s7⟩ := hSw; go_simp; (try with_reducible rfl))
          (try simp only [Act.put, List.setIfInBounds_toArray, List.set_cons_zero, List.set_cons_succ])
          refine wpE_one (k := 13) (o := ⟨some 90, _, _, _, _, _⟩) rfl (by kernel_rfl) (fun K hK => ?_)
          refine step_call (P := Try.prog) w8.drew (by rfl) 54 [.tmp 88, .tmp 89] _ (by rfl) [.agg #[.int .i64 hdk, .int .i64 hds], .agg #[.bool nl, .int .u64 (b : Int), .slice ta tx.length tc]] (by rfl) (fun _ _ => rfl) (HFIT.out _ (below_chain HJ8.out.bel (below_drewN w8 _ 1))) ?_
          rintro e w9 ⟨v9, tv, vc, rfl, hok, h40, hov, hb3⟩
          refine ⟨_, rfl, ?_⟩
          have HB9 := Aside.mk (undrew hb3)
          have HF9 := Aside.mk (And.intro hok (And.intro h40 hov))
          clear hok h40 hov hb3
          refine hK.out _ _ (HSX.out _ (Kept.of_below HB9.out)) (fun hS => ?_)
          clear hK K
          try simp only [Act.put, List.setIfInBounds_toArray, List.set_cons_zero, List.set_cons_succ]
          refine wpE_one (k := 14) (o := ⟨some 91, _, _, _, _, _⟩) rfl (by kernel_rfl) (fun K hK => ?_)
          go_simp
          have HB10 := Aside.mk (below_chain HB9.out (below_new w9 (.cells #[.bool v9.null, .int .u64 (v9.bits : Int), .slice tv v9.text.length vc] 49)))
          refine hK.out _ _ (HSX.out _ (Kept.of_below HB10.out)) (fun hS => ?_)
          clear hK K
          try simp only [Act.put, List.setIfInBounds_toArray, List.set_cons_zero, List.set_cons_succ]
          refine wpE_one (k := 15) (o := ⟨some 92, _, _, _, _, _⟩) rfl (by kernel_rfl) (fun K hK => ?_)
          refine step_app2 (P := Try.prog) (w9.alloc (.cells #[.bool v9.null, .int .u64 (v9.bits : Int), .slice tv v9.text.length vc] 49)) (.tmp 82) (.tmp 91) 35 35 (by rfl) (by rfl) w.heap.size 49 (.agg #[.bool false, .int .u64 0, .slice none 0 0]) 3 40 Try.underlying35 valinfo (by rfl) (.slice (A k).a (L k).length (A k).c) (L k).length xs (by rfl) (HO.out.row.below HB10.out) (.slice (some ⟨w9.heap.size, 0, none⟩) 1 1) 1 [.bool v9.null, .int .u64 (v9.bits : Int), .slice tv v9.text.length vc] (by rfl) (src_val w9 _ _ _ rfl rfl rfl) (by have := HLN.out; unfold maxLen; omega) (by have := HLN.out; omega) (by have := HJ8.out.bel.size; have := HB10.out.size; omega) ?_
          intro v' w11 hA
          obtain ⟨a5, c5, rfl⟩ := hA.own.form
          have HA := Aside.mk hA
          clear hA
          have HK11 := Aside.mk ((Kept.of_below (S := fun b => (slV (A k) (L k).length).ownBlock = some b) HB10.out).trans (Kept.of_grown HA.out.grown) (fun _ e _ => e.symm))
          refine hK.out _ _ (HSX.out _ HK11.out) (fun hS => ?_)
          clear hK K
          try simp only [Act.put, List.setIfInBounds_toArray, List.set_cons_zero, List.set_cons_succ]
          refine wpE_take (k := 16) (o := ⟨some 93, _, _, _, _, _⟩) (v := ?_) rfl (by kernel_rfl) (by kernel_rfl) (by kernel_rfl) (by kernel_rfl) (fun _ _ _ h => absurd h.1 (by simp)) (Or.inl ⟨by rfl, ?_⟩) (by assumption) ?_
          rotate_left
          · (intro w hSw; obtain ⟨s1, s2, s3, s4, s5, s6, s7⟩ := hSw; go_simp; (try with_reducible rfl))
          (try simp only [Act.put, List.setIfInBounds_toArray, List.set_cons_zero, List.set_cons_succ])
          refine wpE_last (k := 17) (o := ⟨none, _, _, _, _, _⟩) rfl (by kernel_rfl) (by kernel_rfl) rfl (fun K hK => ?_)
          have hv11 := (HK11.out.block _ (lt_of_blk HVB.out) HN5.out).trans HVB.out
          have fz11 := fun k => frozen_blk (k := k) hv11
          obtain ⟨s1, s2, s3, s4, s5, s6, s7⟩ := hS
          clear hv11
          go_simp
          refine hK.out _ _ ?_
          clear hK K s1 s2 s3 s4 s5 s6 s7 fz11
          refine ⟨rfl, ?_⟩
          have HST := Aside.mk ((HJ8.out.step hkl HO.out HB9.out (v := v9) (by rw [← HHD.out]; exact HF9.out.1) HF9.out.2.1 HF9.out.2.2 HA.out).congr (c' := fun j => if j < k + 1 then i + 1 else i) (fun j hj => by (try dsimp only); split <;> (try subst_vars) <;> (repeat' split) <;> omega))
          go_wp2_with fail
          exact ⟨⟨k + 1, _, _, by omega, by simp, HST⟩, by simp [intOf]; omega⟩
        · obtain rfl : k = hs.length := by omega
          have hd3 : decide ((hs.length : Int) < (hs.length : Int)) = false := decide_eq_false (by omega)
          have htb := HJ.out.tab
          obtain ⟨d0, d1, d2⟩ := box3t htb
          have HX := Aside.mk (HJ.out.congr (c' := fun _ => i + 1) (fun j hj => if_pos hj))
          clear htb HJ
          go_wp2_with fail
          exact ⟨⟨i + 1, L, A, by omega, by omega, by simp, ⟨by rw [show ((i + 1 : Nat) : Int) = (i : Int) + 1 by omega]; exact HX.out⟩⟩, by simp [intOf]; omega⟩
    · rw [decide_eq_false hlt]
      have hlast := HI
      go_upto_region 18 with fail
      clear hlt
      go_wp2_with fail
      have HL0 := Aside.mk (show TbI w w.heap.size b2 b4 b5 #[.slice Aa l.length Ac, .slice Ra rows.length Rc, .bool wild, .int .i64 bend] hs ha hc (i : Int) (.slice none ([] : List Col).length 0) (fun _ => i) L A wc ∧ OwnCs wc w.heap.size none 0 [] [] ∧ ColsI hs L 0 [] from ⟨HI.out, OwnCs.nil _ _, ColsI.zero _ _⟩)
      go_loopw [9] (fun iv wr => ∃ (m : Nat) (ks : List Col) (ca : Option Addr) (kc : Nat) (ys : List Value), m ≤ hs.length ∧ iv = .int .i64 (m : Int) ∧ Aside (TbI w w.heap.size b2 b4 b5 #[.slice Aa l.length Ac, .slice Ra rows.length Rc, .bool wild, .int .i64 bend] hs ha hc (i : Int) (.slice ca ks.length kc) (fun _ => i) L A wr ∧ OwnCs wr w.heap.size ca kc ks ys ∧ ColsI hs L m ks)) (fun iv _ => hs.length - (intOf iv).toNat)
      case atStart => exact ⟨0, [], none, 0, [], by omega, rfl, HL0⟩
      case round =>
        obtain ⟨m, ks, ca, kc, ys, hm, rfl, HM⟩ := hrel
        clear HL0 HI hlast
        by_cases hml : m < hs.length
        · have hd1 : decide ((m : Int) < (hs.length : Int)) = true := decide_eq_true (by omega)
          obtain ⟨d0, d1, d2⟩ := box3t HM.out.1.tab
          go_upto_region 21 with fail
          clear d0 d1 d2
          obtain ⟨xs, ho⟩ := HM.out.1.each m hml
          obtain ⟨vl, hvl, hvb, hvk⟩ := HM.out.1.vals
          obtain ⟨gh, oh, eh, qh1, qh2, x0, x1, x2, x3⟩ := (show RdH wr ⟨ha, hc⟩ hs from HM.out.1.hd.rd).at hml
          dsimp only at eh qh1 qh2
          subst eh
          have e5 : wr.cell? ⟨b5, m, none⟩ = some (.slice (A m).a (L m).length (A m).c) := by rw [cell_blk hvb]; simpa [slV] using hvk m hml
          have n5 := HM.out.2.1.row.blk_ne hvb (by decide)
          have n4 := HM.out.2.1.row.blk_ne HM.out.1.tab (by decide)
          obtain ⟨cur, hcur⟩ := own_blk HM.out.1.hd (show Value.ownBlock (.slice (some ⟨gh, oh, none⟩) hs.length hc) = some gh from rfl)
          have ng := HM.out.2.1.row.blk_ne hcur (by decide)
          obtain ⟨d0, d1, d2⟩ := box3t HM.out.1.tab
          obtain ⟨hd, hhd⟩ : ∃ hd, hd = hs[m] := ⟨_, rfl⟩
          rw [← hhd] at x0 x1 x2 x3
          have HHD := Aside.mk hhd
          have hot : okType hd.k hd.s = true := hhd ▸ HS.out.1.2.2.2.1 _ (List.getElem_mem hml)
          have hlen := HM.out.1.len m hml
          have HFW := Aside.mk (few3 (k := hd.k) (s := hd.s) (r := L m) (by omega) (by rw [hhd]; exact HM.out.1.ok m hml))
          clear hhd hlen
          obtain ⟨hdn, hdk, hds, hdl⟩ := hd
          dsimp only at x0 x1 x2 x3 hot HFW
          have HSX := Aside.mk (fun (U : World) (hK : Kept (fun b => (Value.slice ca ks.length kc).ownBlock = some b) wr U) => (⟨hK.cell d2 n4, hK.cell d0 n4, hK.cell x1 ng, hK.cell x2 ng, hK.cell e5 n5⟩ : (fun U : World => U.cell? ⟨b4, 2, none⟩ = some (.slice ca ks.length kc) ∧ U.cell? ⟨b4, 0, none⟩ = some (.slice (some ⟨gh, oh, none⟩) hs.length hc) ∧ U.cell? ⟨gh, oh + m * 4 + 1, none⟩ = some (.int .i64 hdk) ∧ U.cell? ⟨gh, oh + m * 4 + 2, none⟩ = some (.int .i64 hds) ∧ U.cell? ⟨b5, m, none⟩ = some (.slice (A m).a (L m).length (A m).c)) U))
          have HRD := Aside.mk ho.rd
          obtain ⟨c, hcc⟩ : ∃ c, c = (CS.of hdk (L m)).col hdk hds := ⟨_, rfl⟩
          have HCC := Aside.mk hcc
          have HLAY := Aside.mk (fun (W : World) (hW : Below wr.heap.size wr W) => (hcc ▸ lay_any hdk hds (L m) hot HFW.out.1 HFW.out.2 (A m) W (HRD.out.below hW) : Calls Try.prog 78 #[.agg #[.int .i64 hdk, .int .i64 hds], .slice (A m).a (L m).length (A m).c] W (ColBP c W)))
          have HN4 := Aside.mk n4
          have HKL := Aside.mk (show ks.length ≤ 8 from by rw [HM.out.2.2.1]; omega)
          clear hcur hvl hvk n5 n4 ng d0 d1 d2 x0 x1 x2 x3 e5 ho hvb hcc hot
          refine wp_regionO (fun U : World => U.cell? ⟨b4, 2, none⟩ = some (.slice ca ks.length kc) ∧ U.cell? ⟨b4, 0, none⟩ = some (.slice (some ⟨gh, oh, none⟩) hs.length hc) ∧ U.cell? ⟨gh, oh + m * 4 + 1, none⟩ = some (.int .i64 hdk) ∧ U.cell? ⟨gh, oh + m * 4 + 2, none⟩ = some (.int .i64 hds) ∧ U.cell? ⟨b5, m, none⟩ = some (.slice (A m).a (L m).length (A m).c)) 16 17 (by kernel_rfl) rfl ?_
          have hS : (fun U : World => U.cell? ⟨b4, 2, none⟩ = some (.slice ca ks.length kc) ∧ U.cell? ⟨b4, 0, none⟩ = some (.slice (some ⟨gh, oh, none⟩) hs.length hc) ∧ U.cell? ⟨gh, oh + m * 4 + 1, none⟩ = some (.int .i64 hdk) ∧ U.cell? ⟨gh, oh + m * 4 + 2, none⟩ = some (.int .i64 hds) ∧ U.cell? ⟨b5, m, none⟩ = some (.slice (A m).a (L m).length (A m).c)) wr.drew := HSX.out _ (Kept.of_below (below_drewN wr _ 1))
          refine wpE_take (k := 0) (o := ⟨some 101, _, _, _, _, _⟩) (v := ?_) rfl (by kernel_rfl) (by kernel_rfl) (by kernel_rfl) (by kernel_rfl) (fun _ _ _ h => absurd h.1 (by simp)) (Or.inl ⟨by rfl, ?_⟩) (by assumption) ?_
          rotate_left
          · (intro w hSw; obtain ⟨s1, s2, s3, s4, s5⟩ := hSw; go_simp; (try with_reducible rfl))
          (try simp only [Act.put, List.setIfInBounds_toArray, List.set_cons_zero, List.set_cons_succ])
          refine wpE_take (k := 1) (o := ⟨some 102, _, _, _, _, _⟩) (v := ?_) rfl (by kernel_rfl) (by kernel_rfl) (by kernel_rfl) (by kernel_rfl) (fun _ _ _ h => absurd h.1 (by simp)) (Or.inl ⟨by rfl, ?_⟩) (by assumption) ?_
          rotate_left
          · (intro w hSw; obtain ⟨s1, s2, s3, s4, s5⟩ := hSw; go_simp; (try with_reducible rfl))
          (try simp only [Act.put, List.setIfInBounds_toArray, List.set_cons_zero, List.set_cons_succ])
          refine wpE_take (k := 2) (o := ⟨some 103, _, _, _, _, _⟩) (v := ?_) rfl (by kernel_rfl) (by kernel_rfl) (by kernel_rfl) (by kernel_rfl) (fun _ _ _ h => absurd h.1 (by simp)) (Or.inl ⟨by rfl, ?_⟩) (by assumption) ?_
          rotate_left
          · (intro w hSw; obtain ⟨s1, s2, s3, s4, s5⟩ := hSw; go_simp; (try with_reducible rfl))
          (try simp only [Act.put, List.setIfInBounds_toArray, List.set_cons_zero, List.set_cons_succ])
          refine wpE_take (k := 3) (o := ⟨some 104, _, _, _, _, _⟩) (v := ?_) rfl (by kernel_rfl) (by kernel_rfl) (by kernel_rfl) (by kernel_rfl) (fun _ _ _ h => absurd h.1 (by simp)) (Or.inl ⟨by rfl, ?_⟩) (by assumption) ?_
          rotate_left
          · (intro w hSw; obtain ⟨s1, s2, s3, s4, s5⟩ := hSw; go_simp; (try with_reducible rfl))
          (try simp only [Act.put, List.setIfInBounds_toArray, List.set_cons_zero, List.set_cons_succ])
          refine wpE_take (k := 4) (o := ⟨some 105, _, _, _, _, _⟩) (v := ?_) rfl (by kernel_rfl) (by kernel_rfl) (by kernel_rfl) (by kernel_rfl) (fun _ _ _ h => absurd h.1 (by simp)) (Or.inl ⟨by rfl, ?_⟩) (by assumption) ?_
          rotate_left
          · (intro w hSw; obtain ⟨s1, s2, s3, s4, s5⟩ := hSw; go_simp; (try with_reducible rfl))
          (try simp only [Act.put, List.setIfInBounds_toArray, List.set_cons_zero, List.set_cons_succ])
          refine wpE_take (k := 5) (o := ⟨some 106, _, _, _, _, _⟩) (v := ?_) rfl (by kernel_rfl) (by kernel_rfl) (by kernel_rfl) (by kernel_rfl) (fun _ _ _ h => absurd h.1 (by simp)) (Or.inl ⟨by rfl, ?_⟩) (by assumption) ?_
          rotate_left
          · (intro w hSw; obtain ⟨s1, s2, s3, s4, s5⟩ := hSw; go_simp; (try with_reducible rfl))
          (try simp only [Act.put, List.setIfInBounds_toArray, List.set_cons_zero, List.set_cons_succ])
          refine wpE_take (k := 6) (o := ⟨some 107, _, _, _, _, _⟩) (v := ?_) rfl (by kernel_rfl) (by kernel_rfl) (by kernel_rfl) (by kernel_rfl) (fun _ _ _ h => absurd h.1 (by simp)) (Or.inl ⟨by rfl, ?_⟩) (by assumption) ?_
          rotate_left
          · (intro w hSw; obtain ⟨s1, s2, s3, s4, s5⟩ := hSw; go_simp; (try with_reducible rfl))
          (try simp only [Act.put, List.setIfInBounds_toArray, List.set_cons_zero, List.set_cons_succ])
          refine wpE_take (k := 7) (o := ⟨some 108, _, _, _, _, _⟩) (v := ?_) rfl (by kernel_rfl) (by kernel_rfl) (by kernel_rfl) (by kernel_rfl) (fun _ _ _ h => absurd h.1 (by simp)) (Or.inl ⟨by rfl, ?_⟩) (by assumption) ?_
          rotate_left
          · (intro w hSw; obtain ⟨s1, s2, s3, s4, s5⟩ := hSw; go_simp; (try with_reducible rfl))
          (try simp only [Act.put, List.setIfInBounds_toArray, List.set_cons_zero, List.set_cons_succ])
          refine wpE_take (k := 8) (o := ⟨some 109, _, _, _, _, _⟩) (v := ?_) rfl (by kernel_rfl) (by kernel_rfl) (by kernel_rfl) (by kernel_rfl) (fun _ _ _ h => absurd h.1 (by simp)) (Or.inl ⟨by rfl, ?_⟩) (by assumption) ?_
          rotate_left
          · (intro w hSw; obtain ⟨s1, s2, s3, s4, s5⟩ := hSw; go_simp; (try with_reducible rfl))
          (try simp only [Act.put, List.setIfInBounds_toArray, List.set_cons_zero, List.set_cons_succ])
          refine wpE_take (k := 9) (o := ⟨some 110, _, _, _, _, _⟩) (v := ?_) rfl (by kernel_rfl) (by kernel_rfl) (by kernel_rfl) (by kernel_rfl) (fun _ _ _ h => absurd h.1 (by simp)) (Or.inl ⟨by rfl, ?_⟩) (by assumption) ?_
          rotate_left
          · (intro w hSw; obtain ⟨s1, s2, s3, s4, s5⟩ := hSw; go_simp; (try with_reducible rfl))
          (try simp only [Act.put, List.setIfInBounds_toArray, List.set_cons_zero, List.set_cons_succ])
          refine wpE_take (k := 10) (o := ⟨some 111, _, _, _, _, _⟩) (v := ?_) rfl (by kernel_rfl) (by kernel_rfl) (by kernel_rfl) (by kernel_rfl) (fun _ _ _ h => absurd h.1 (by simp)) (Or.inl ⟨by rfl, ?_⟩) (by assumption) ?_
          rotate_left
          · (intro w hSw; obtain ⟨s1, s2, s3, s4, s5⟩ := hSw; go_simp; (try with_reducible rfl))
          (try simp only [Act.put, List.setIfInBounds_toArray, List.set_cons_zero, List.set_cons_succ])
          refine wpE_take (k := 11) (o := ⟨some 112, _, _, _, _, _⟩) (v := ?_) rfl (by kernel_rfl) (by kernel_rfl) (by kernel_rfl) (by kernel_rfl) (fun _ _ _ h => absurd h.1 (by simp)) (Or.inl ⟨by rfl, ?_⟩) (by assumption) ?_
          rotate_left
          · (intro w hSw; obtain ⟨s1, s2, s3, s4, s5⟩ := hSw; go_simp; (try with_reducible rfl))
          (try simp only [Act.put, List.setIfInBounds_toArray, List.set_cons_zero, List.set_cons_succ])
          refine wpE_one (k := 12) (o := ⟨some 113, _, _, _, _, _⟩) rfl (by kernel_rfl) (fun K hK => ?_)
          refine step_call (P := Try.prog) wr.drew (by rfl) 78 [.tmp 108, .tmp 112] _ (by rfl) [.agg #[.int .i64 hdk, .int .i64 hds], .slice (A m).a (L m).length (A m).c] (by rfl) (fun _ _ => rfl) (HLAY.out _ (below_drewN wr _ 1)) ?_
          rintro e w9 ⟨B, D, E, X, va, rfl, hoc, hb3⟩
          dsimp only [colV]
          refine ⟨_, rfl, ?_⟩
          have HB9 := Aside.mk (undrew hb3)
          have HOC := Aside.mk hoc
          clear hoc hb3
          refine hK.out _ _ (HSX.out _ (Kept.of_below HB9.out)) (fun hS => ?_)
          clear hK K
          try simp only [Act.put, List.setIfInBounds_toArray, List.set_cons_zero, List.set_cons_succ]
          refine wpE_one (k := 13) (o := ⟨some 114, _, _, _, _, _⟩) rfl (by kernel_rfl) (fun K hK => ?_)
          go_simp
          have HB10 := Aside.mk (below_chain HB9.out (below_new w9 (.cells #[.int .i64 c.k, .int .i64 c.s, .int .i64 c.n, .int .i64 c.m, .slice B.a c.bits.length B.c, .slice D.a c.data.length D.c, .slice E.a c.ends.length E.c, .slice X.a c.words.length X.c] 43)))
          refine hK.out _ _ (HSX.out _ (Kept.of_below HB10.out)) (fun hS => ?_)
          clear hK K
          try simp only [Act.put, List.setIfInBounds_toArray, List.set_cons_zero, List.set_cons_succ]
          refine wpE_one (k := 14) (o := ⟨some 115, _, _, _, _, _⟩) rfl (by kernel_rfl) (fun K hK => ?_)
          refine step_app2 (P := Try.prog) (w9.alloc (.cells #[.int .i64 c.k, .int .i64 c.s, .int .i64 c.n, .int .i64 c.m, .slice B.a c.bits.length B.c, .slice D.a c.data.length D.c, .slice E.a c.ends.length E.c, .slice X.a c.words.length X.c] 43)) (.tmp 102) (.tmp 114) 71 71 (by rfl) (by rfl) w.heap.size 43 (.agg #[.int .i64 0, .int .i64 0, .int .i64 0, .int .i64 0, .slice none 0 0, .slice none 0 0, .slice none 0 0, .slice none 0 0]) 8 128 Try.underlying71 colinfo (by rfl) (.slice ca ks.length kc) ks.length ys (by rfl) (HM.out.2.1.row.below HB10.out) (.slice (some ⟨w9.heap.size, 0, none⟩) 1 1) 1 (colL c B D E X) (by rfl) (src_col w9 c B D E X) (by have := HKL.out; unfold maxLen; omega) (by have := HKL.out; omega) (by have := HM.out.1.bel.size; have := HB10.out.size; omega) ?_
          intro v' w11 hA
          obtain ⟨a5, c5, rfl⟩ := hA.own.form
          have HA := Aside.mk hA
          clear hA
          have HK11 := Aside.mk ((Kept.of_below (S := fun b => (Value.slice ca ks.length kc).ownBlock = some b) HB10.out).trans (Kept.of_grown HA.out.grown) (fun _ e _ => e.symm))
          refine hK.out _ _ (HSX.out _ HK11.out) (fun hS => ?_)
          clear hK K
          try simp only [Act.put, List.setIfInBounds_toArray, List.set_cons_zero, List.set_cons_succ]
          refine wpE_take (k := 15) (o := ⟨some 116, _, _, _, _, _⟩) (v := ?_) rfl (by kernel_rfl) (by kernel_rfl) (by kernel_rfl) (by kernel_rfl) (fun _ _ _ h => absurd h.1 (by simp)) (Or.inl ⟨by rfl, ?_⟩) (by assumption) ?_
          rotate_left
          · (intro w hSw; obtain ⟨s1, s2, s3, s4, s5⟩ := hSw; go_simp; (try with_reducible rfl))
          (try simp only [Act.put, List.setIfInBounds_toArray, List.set_cons_zero, List.set_cons_succ])
          refine wpE_last (k := 16) (o := ⟨none, _, _, _, _, _⟩) rfl (by kernel_rfl) (by kernel_rfl) rfl (fun K hK => ?_)
          have hv11 := (HK11.out.block _ (lt_of_blk HM.out.1.tab) HN4.out).trans HM.out.1.tab
          have fz11 := fun k => frozen_blk (k := k) hv11
          obtain ⟨s1, s2, s3, s4, s5⟩ := hS
          clear hv11
          go_simp
          refine hK.out _ _ ?_
          clear hK K s1 s2 s3 s4 s5 fz11
          refine ⟨rfl, ?_⟩
          have HT := Aside.mk ((HM.out.1.grownCs HM.out.2.1.row HK11.out).setC (.slice a5 (ks.length + 1) c5))
          have HO := Aside.mk (HM.out.2.1.app HM.out.1.bel.size HB9.out HOC.out HA.out HM.out.1.tab (.slice a5 (ks.length + 1) c5))
          have HC := Aside.mk (HM.out.2.2.step (hcl := hml) (c := c) (by rw [HCC.out, ← HHD.out]))
          go_wp2_with fail
          exact ⟨⟨m + 1, ks ++ [c], a5, c5, _, by omega, by simp, ⟨by rw [List.length_append]; exact HT.out, by first | exact HO.out | simpa using HO.out, HC.out⟩⟩, by simp [intOf]; omega⟩
        · obtain rfl : m = hs.length := by omega
          have hd1 : decide ((hs.length : Int) < (hs.length : Int)) = false := decide_eq_false (by omega)
          obtain ⟨d0, d1, d2⟩ := box3t HM.out.1.tab
          obtain ⟨c0, c1, c2, c3⟩ := box4 HM.out.1.box
          have hfr := fun k => frozen_blk (k := k) HM.out.1.res
          obtain ⟨r0, r1, r2⟩ := box3t HM.out.1.res
          go_wp2_with (go_at_call 21; refine (within_any bend 0 15 (by omega) (by omega) (by omega) _).mono ?_; rintro e wz ⟨rfl, rfl⟩; rw [HBD.out])
          have ha0 := heap_setCell_at (k := 0) HM.out.1.res (.slice ha hs.length hc)
          have ha1 := heap_setCell_at (k := 1) ha0 (.int .i64 (i : Int))
          have ha2 := heap_setCell_at (k := 2) ha1 (.slice ca ks.length kc)
          simp only [Array.setIfInBounds, List.setIfInBounds_toArray, List.set_cons_zero, List.set_cons_succ] at ha0 ha1 ha2
          obtain ⟨g0, g1, g2⟩ := box3t (by simpa using ha2)
          refine bodyPost_ret (v := .agg #[.slice ha hs.length hc, .int .i64 (i : Int), .slice ca ks.length kc]) (by simp [results, Try.results32, go_sem, g0, g1, g2]) rfl ?_
          exact table_end HM.out.1 HM.out.2.1 HM.out.2.2 HB2L.out HS.out hi40 _ _ _
end Go.Proofs.Ytmhjjhaipcgbiaa


namespace Go.Proofs.Ytmhjjhaipcgbiaa
open Go.RowKit
set_option linter.unusedVariables false
set_option linter.unusedSimpArgs false
set_option maxRecDepth 100000
set_option maxHeartbeats 1000000
theorem enc_inj {t u : Tb} (hT : TableP t) (hE : TbE t) (hU : TableP u) (hE2 : TbE u) (h : encT t = encT u) : t = u := by
  have hl := congrArg List.length h
  rw [encT_len, encT_len] at hl
  have hb : encB t = encB u := by
    have := congrArg (List.take (encB t).length) h
    unfold encT at this
    rw [List.take_left' rfl, List.take_left' (by omega)] at this
    exact this
  have h1 := (parse_of hT hE).2.2.2.1
  have h2 := (parse_of hU hE2).2.2.2.1
  rw [← h1, ← h2, hb]
def DecB (t : Tb) (w : World) (e : Ending) (w' : World) : Prop := ∃ (H C : SL) (ys : List Value), e = .returned (.tuple #[tbV t H C, .int .i64 0]) ∧ Own w' w.heap.size 137 4 (.slice H.a t.hs.length H.c) t.hs.length (t.hs.flatMap hdCells) ∧ OwnDs w' w.heap.size C t.cs ys ∧ Below w.heap.size w w'
theorem dec_back {t : Tb} (hT : TableP t) (hE : TbE t) (hl : (encT t).length ≤ 1900000) (A : SL) (w : World) (h : Rd w 1 (.slice A.a (encT t).length A.c) (encT t).length ((encT t).map (.int .u8))) : Calls Try.prog 34 #[.slice A.a (encT t).length A.c] w (DecB t w) := by
  refine (dec_yes (encT t) (encT_bytes hE.ok.cok) (encB t).length (encT_len t).symm hl ?_ A w h).mono ?_
  · unfold encT
    rw [List.take_left' rfl, List.drop_left' rfl]
  · rintro e w' ⟨hb, ⟨u, H, C, ys, hU, hE2, he, rfl, h1, h2⟩ | ⟨hn, _⟩⟩
    · obtain rfl : u = t := enc_inj hU hE2 hT hE he
      exact ⟨H, C, ys, rfl, h1, h2, hb⟩
    · exact absurd rfl (hn t hT hE)
structure BkM (w : World) (t u : Tb) (H C H2 C2 : SL) (b3 b6 : Nat) (W : World) : Prop where
  x3 : W.heap[b3]? = some (.cells #[.slice H.a t.hs.length H.c, .int .i64 t.rows, .slice C.a t.cs.length C.c] 73 (0, 0))
  x6 : W.heap[b6]? = some (.cells #[.slice H2.a u.hs.length H2.c, .int .i64 u.rows, .slice C2.a u.cs.length C2.c] 73 (0, 0))
  r1 : RdTb W t H C
  r2 : RdTb W u H2 C2
  bel : Below w.heap.size w W
theorem BkM.below {w W W' : World} {t u : Tb} {H C H2 C2 : SL} {b3 b6 : Nat} (h : BkM w t u H C H2 C2 b3 b6 W) (hb : Below W.heap.size W W') : BkM w t u H C H2 C2 b3 b6 W' :=
  ⟨(hb.block _ (lt_of_blk h.x3)).trans h.x3, (hb.block _ (lt_of_blk h.x6)).trans h.x6, h.r1.below hb, h.r2.below hb, below_chain h.bel hb⟩
theorem back_walk (l : List Nm) (hb : ∀ v ∈ l, IsBytes v.name ∧ v.name.length ≤ 9223372036854775807) (rows : List (List V)) (hrv : ∀ r ∈ rows, ∀ v ∈ r, IsBytes v.text ∧ v.bits < 18446744073709551616 ∧ v.text.length ≤ 9223372036854775807) (wild : Bool) (bend : Int) (A R : SL) (w : World) (h : RdNs w A l) (hr : RdRs w R rows) :
    Calls Try.prog 7 #[.agg #[.slice A.a l.length A.c, .slice R.a rows.length R.c, .bool wild, .int .i64 bend]] w (BoolP true w) := by
  have HT := Aside.mk (fun W (hb' : Below w.heap.size w W) => table_any l hb rows hrv wild 0 (by decide) A R W (h.below hb') (hr.below hb'))
  clear h hr hb hrv
  generalize l.length = n1 at *
  generalize rows.length = n2 at *
  go_enter Try.func7, Try.ntmps7
  go_upto_region 2 with fail
  have HB1 := Aside.mk (below_new w (.cells #[.slice A.a n1 A.c, .slice R.a n2 R.c, .bool wild, .int .i64 0] 67))
  have hx1 := heap_alloc_new w (.cells #[.slice A.a n1 A.c, .slice R.a n2 R.c, .bool wild, .int .i64 0] 67)
  obtain ⟨c0, c1, c2, c3⟩ := box4 hx1
  clear hx1
  generalize w.alloc (.cells #[.slice A.a n1 A.c, .slice R.a n2 R.c, .bool wild, .int .i64 0] 67) = w1 at *
  go_upto_region 3 with (go_at_call 32; refine (HT.out _ HB1.out).mono ?_; rintro e w2 ⟨t, H, C, ys, rfl, hp, hoh, hoc, hb2⟩; have HP := Aside.mk hp; have HB2 := Aside.mk (below_chain HB1.out hb2); have HR2 := Aside.mk (show RdTb w2 t H C from ⟨hoh.rd, hoc.rd⟩); clear hp hoh hoc hb2 HT; dsimp only [tbV])
  clear c0 c1 c2 c3
  have hb3 := below_new w2 (.cells #[.slice H.a t.hs.length H.c, .int .i64 t.rows, .slice C.a t.cs.length C.c] 73)
  have HX3 := Aside.mk (heap_alloc_new w2 (.cells #[.slice H.a t.hs.length H.c, .int .i64 t.rows, .slice C.a t.cs.length C.c] 73))
  replace HR2 := Aside.mk (HR2.out.below hb3)
  replace HB2 := Aside.mk (below_chain HB2.out hb3)
  clear hb3
  generalize w2.alloc (.cells #[.slice H.a t.hs.length H.c, .int .i64 t.rows, .slice C.a t.cs.length C.c] 73) = w3 at *
  generalize w2.heap.size = b3 at *
  have HTE := Aside.mk (And.intro HP.out.table.1 HP.out.sm)
  have HMX := Aside.mk (encT_max HP.out)
  have HE := Aside.mk (encode_yes t HTE.out.2 HTE.out.1 H C w3 HR2.out)
  dsimp only [tbV] at HE
  obtain ⟨t0, t1, t2⟩ := box3t HX3.out
  go_upto_region 4 with (go_at_call 31; refine HE.out.mono ?_; rintro e w4 ⟨ba, bc, rfl, ho, hb4⟩; have HO := Aside.mk ho.rd; replace HB2 := Aside.mk (below_chain HB2.out hb4); replace HR2 := Aside.mk (HR2.out.below hb4); replace HX3 := Aside.mk ((hb4.block _ (lt_of_blk HX3.out)).trans HX3.out); clear ho hb4 HE t0 t1 t2)
  have HD := Aside.mk (dec_back HTE.out.1 HTE.out.2 (Nat.le_trans HMX.out (by decide)) ⟨ba, bc⟩ w4 HO.out)
  unfold DecB at HD
  dsimp only [tbV] at HD
  go_upto_region 5 with (go_at_call 34; refine HD.out.mono ?_; rintro e w5 ⟨H2, C2, ys2, rfl, hoh, hoc, hb5⟩; replace HO := Aside.mk (HO.out.below hb5); replace HB2 := Aside.mk (below_chain HB2.out hb5); replace HR2 := Aside.mk (HR2.out.below hb5); replace HX3 := Aside.mk ((hb5.block _ (lt_of_blk HX3.out)).trans HX3.out); have HR5 := Aside.mk (show RdTb w5 t H2 C2 from ⟨hoh.rd, hoc.rd⟩); clear hoh hoc hb5 HD)
  have hb6 := below_new w5 (.cells #[.slice H2.a t.hs.length H2.c, .int .i64 t.rows, .slice C2.a t.cs.length C2.c] 73)
  have hx6 := heap_alloc_new w5 (.cells #[.slice H2.a t.hs.length H2.c, .int .i64 t.rows, .slice C2.a t.cs.length C2.c] 73)
  replace HO := Aside.mk (HO.out.below hb6)
  have HM : Aside (BkM w t t H C H2 C2 b3 w5.heap.size (w5.alloc (.cells #[.slice H2.a t.hs.length H2.c, .int .i64 t.rows, .slice C2.a t.cs.length C2.c] 73))) := ⟨(hb6.block _ (lt_of_blk HX3.out)).trans HX3.out, hx6, HR2.out.below hb6, HR5.out.below hb6, below_chain HB2.out hb6⟩
  clear hb6 hx6 HX3 HR2 HR5 HB2
  generalize w5.alloc (.cells #[.slice H2.a t.hs.length H2.c, .int .i64 t.rows, .slice C2.a t.cs.length C2.c] 73) = w6 at *
  generalize w5.heap.size = b6 at *
  have HE2 := Aside.mk (encode_yes t HTE.out.2 HTE.out.1 H2 C2 w6 HM.out.r2)
  dsimp only [tbV] at HE2
  obtain ⟨u0, u1, u2⟩ := box3t HM.out.x6
  go_upto_region 6 with (go_at_call 31; refine HE2.out.mono ?_; rintro e w7 ⟨ca, cc, rfl, ho, hb7⟩; have HO2 := Aside.mk ho.rd; replace HO := Aside.mk (HO.out.below hb7); replace HM := Aside.mk (HM.out.below hb7); clear ho hb7 HE2 u0 u1 u2)
  obtain ⟨t0, t1, t2⟩ := box3t HM.out.x3
  obtain ⟨u0, u1, u2⟩ := box3t HM.out.x6
  have HS1 := Aside.mk (fun (W : World) (hM : BkM w t t H C H2 C2 b3 b6 W) => tsame_any t t HTE.out.2.ok HTE.out.2.ok H C H2 C2 W hM.r1 hM.r2)
  have HS2 := Aside.mk (fun (W : World) (hM : BkM w t t H C H2 C2 b3 b6 W) => rsame24_any t t HTE.out.2.ok HTE.out.2.ok H C H2 C2 W hM.r1 hM.r2)
  have HS3 := Aside.mk (fun (W : World) (h1 : Rd W 1 (.slice ba (encT t).length bc) (encT t).length ((encT t).map (.int .u8))) (h2 : Rd W 1 (.slice ca (encT t).length cc) (encT t).length ((encT t).map (.int .u8))) => same_eq ba ca (encT t).length bc cc (encT t) rfl (by rw [encT_len]; omega) W h1 h2)
  dsimp only [tbV] at HS1 HS2
  go_wp2_with (first
    | (go_at_call 33; refine (num25_any _ _).mono ?_; rintro e w8 ⟨rfl, rfl⟩)
    | (go_at_call 36; refine (HS1.out _ HM.out).mono ?_; rintro e w9 ⟨r, rfl, hr, hb9⟩; obtain rfl : r = true := hr.2 ⟨HTE.out.1, HTE.out.1, (by trivial)⟩; replace HM := Aside.mk (HM.out.below hb9); replace HO := Aside.mk (HO.out.below hb9); replace HO2 := Aside.mk (HO2.out.below hb9); obtain ⟨t0, t1, t2⟩ := box3t HM.out.x3; obtain ⟨u0, u1, u2⟩ := box3t HM.out.x6; clear hr hb9)
    | (go_at_call 37; refine (HS2.out _ HM.out).mono ?_; rintro e w10 ⟨r, rfl, hr, hb9⟩; obtain rfl : r = true := hr.2 (by trivial); replace HM := Aside.mk (HM.out.below hb9); replace HO := Aside.mk (HO.out.below hb9); replace HO2 := Aside.mk (HO2.out.below hb9); clear hr hb9)
    | (go_at_call 20; refine (HS3.out _ HO.out HO2.out).mono ?_; rintro e w11 ⟨rfl, rfl⟩)
    | (go_at_call 35; refine (wakes25_any _).mono ?_; rintro e w12 ⟨rfl, hb9⟩; replace HM := Aside.mk (HM.out.below hb9); clear hb9))
  go_ret
  exact ⟨rfl, HM.out.bel⟩
end Go.Proofs.Ytmhjjhaipcgbiaa
