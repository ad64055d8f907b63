/- Texts of this claim, one behind the other: Zho, Zbu, Zmf. -/
import Derived.Test.YtmhjjhaipcgbiaaGreatZemP27
import Derived.Test.YtmhjjhaipcgbiaaGreatZemP36
import Derived.Test.YtmhjjhaipcgbiaaGreatZemP38
import Derived.Test.YtmhjjhaipcgbiaaGreatZemP37
import Derived.Test.YtmhjjhaipcgbiaaGreatZemP32

namespace Go.Proofs.YtmhjjhaipcgbiaaGreat
open Go.RowKit
set_option linter.unusedVariables false
set_option linter.unusedSimpArgs false
set_option maxRecDepth 100000
set_option maxHeartbeats 1000000
def holdE (k s v : Int) : Int := if okType k s && !wordedB k then (if fitsB k s v then 0 else 172) else 170
def holdB (k s : Int) (z : Zn) (v : Nat) : Bool := (okType k s && !wordedB k) && (fitsB k s v && (if oddB k v then decide (0 < z.odd) else z.has && decide (ordI k z.least v ≤ 0 ∧ ordI k v z.most ≤ 0)))
def HoldP (k s : Int) (z : Zn) (v : Nat) (w : World) (e : Ending) (w' : World) : Prop := e = .returned (.tuple #[.bool (holdB k s z v), .int .i64 (holdE k s v)]) ∧ Below w.heap.size w w'
theorem hold_type {k s : Int} {z : Zn} {v : Nat} (h : okType k s = false) : holdB k s z v = false ∧ holdE k s v = 170 := by unfold holdB holdE; simp [h]
theorem hold_text {k s : Int} {z : Zn} {v : Nat} (h : wordedB k = true) : holdB k s z v = false ∧ holdE k s v = 170 := by unfold holdB holdE; simp [h]
theorem hold_fits {k s : Int} {z : Zn} {v : Nat} (ho : okType k s = true) (hw : wordedB k = false) (h : fitsB k s v = false) : holdB k s z v = false ∧ holdE k s v = 172 := by unfold holdB holdE; simp [h, ho, hw]
theorem hold_odd {k s : Int} {z : Zn} {v : Nat} (ho : okType k s = true) (hw : wordedB k = false) (hf : fitsB k s v = true) (h : oddB k v = true) : holdB k s z v = decide (0 < z.odd) ∧ holdE k s v = 0 := by unfold holdB holdE; simp [h, ho, hw, hf]
theorem hold_has {k s : Int} {z : Zn} {v : Nat} (ho : okType k s = true) (hw : wordedB k = false) (hf : fitsB k s v = true) (h : oddB k v = false) : holdB k s z v = (z.has && decide (ordI k z.least v ≤ 0 ∧ ordI k v z.most ≤ 0)) ∧ holdE k s v = 0 := by unfold holdB holdE; simp [h, ho, hw, hf]
theorem zholds_any (k s : Int) (z : Zn) (hz : ZOK k z) (ho9 : z.odd ≤ 1000000) (F L : SL) (v : Nat) (hv : v < 18446744073709551616) (w : World) : Calls Tryz.prog 58 #[zV k s z F L, .int .u64 (v : Int)] w (HoldP k s z v w) := by
  obtain ⟨zn, zu, zo, zh, zl, zm, zf, zt⟩ := z
  have HCT := Aside.mk (fun w2 => checkType_any k s w2)
  have HTX := Aside.mk (fun w2 => texts_any k s w2)
  have HFT := Aside.mk (fun w2 => fits_any k s v (by omega) (by omega) w2)
  have HB := Aside.mk (below_new w (.cells #[.int .i64 k, .int .i64 s, .int .i64 (zn : Int), .int .i64 (zu : Int), .int .i64 (zo : Int), .bool zh, .int .u64 (zl : Int), .int .u64 (zm : Int), .slice F.a zf.length F.c, .slice L.a zt.length L.c] 79))
  dsimp only [zV] at *
  by_cases ho : okType k s = true
  rotate_left
  · have ho' : okType k s = false := by simpa using ho
    obtain ⟨e1, e2⟩ := hold_type (z := ⟨zn, zu, zo, zh, zl, zm, zf, zt⟩) (v := v) ho'
    have HE := Aside.mk (And.intro e1 e2)
    rw [ho'] at HCT
    clear e1 e2 ho ho' hz
    go_enter Tryz.func58, Tryz.ntmps58
    go_wp2_with (go_at_call 70; refine (HCT.out _).mono ?_; rintro e w2 ⟨rfl, hb⟩; have HB2 := Aside.mk hb; clear hb)
    go_ret2
    exact ⟨by rw [HE.out.1, HE.out.2]; rfl, below_chain HB.out HB2.out⟩
  rw [ho] at HCT
  have HO := Aside.mk ho
  clear ho
  by_cases hw : wordedB k = true
  · obtain ⟨e1, e2⟩ := hold_text (s := s) (z := ⟨zn, zu, zo, zh, zl, zm, zf, zt⟩) (v := v) hw
    have HE := Aside.mk (And.intro e1 e2)
    rw [hw] at HTX
    clear e1 e2 hw hz
    go_enter Tryz.func58, Tryz.ntmps58
    go_wp2_with (first
      | (go_at_call 70; refine (HCT.out _).mono ?_; rintro e w2 ⟨rfl, hb⟩; have HB2 := Aside.mk (below_chain HB.out hb); have hx := (hb.block w.heap.size (by simp)).trans (heap_alloc_new w _); obtain ⟨c0, c1, c2, c3, c4, c5, c6, c7, c8, c9⟩ := box10 hx; clear hb)
      | (go_at_call 99; refine (HTX.out _).mono ?_; rintro e w3 ⟨rfl, hb⟩; have HB3 := Aside.mk (below_chain HB2.out hb); clear hb))
    go_ret2
    exact ⟨by rw [HE.out.1, HE.out.2]; rfl, HB3.out⟩
  have hw' : wordedB k = false := by simpa using hw
  rw [hw'] at HTX
  have HW := Aside.mk hw'
  clear hw hw'
  by_cases hf : fitsB k s v = true
  rotate_left
  · have hf' : fitsB k s v = false := by simpa using hf
    obtain ⟨e1, e2⟩ := hold_fits (z := ⟨zn, zu, zo, zh, zl, zm, zf, zt⟩) HO.out HW.out hf'
    have HE := Aside.mk (And.intro e1 e2)
    rw [hf'] at HFT
    clear e1 e2 hf hf' hz
    go_enter Tryz.func58, Tryz.ntmps58
    go_wp2_with (first
      | (go_at_call 70; refine (HCT.out _).mono ?_; rintro e w2 ⟨rfl, hb⟩; have HB2 := Aside.mk (below_chain HB.out hb); have HX := Aside.mk ((hb.block w.heap.size (by simp)).trans (heap_alloc_new w _)); obtain ⟨c0, c1, c2, c3, c4, c5, c6, c7, c8, c9⟩ := box10 HX.out; clear hb)
      | (go_at_call 99; refine (HTX.out _).mono ?_; rintro e w3 ⟨rfl, hb⟩; have HB3 := Aside.mk (below_chain HB2.out hb); clear c0 c1 c2 c3 c4 c5 c6 c7 c8 c9; replace HX := Aside.mk ((hb.block _ (lt_of_blk HX.out)).trans HX.out); obtain ⟨c0, c1, c2, c3, c4, c5, c6, c7, c8, c9⟩ := box10 HX.out; clear hb)
      | (go_at_call 74; refine (HFT.out _).mono ?_; rintro e w4 ⟨rfl, hb⟩; have HB4 := Aside.mk (below_chain HB3.out hb); clear hb))
    go_ret2
    exact ⟨by rw [HE.out.1, HE.out.2]; rfl, HB4.out⟩
  rw [hf] at HFT
  have HF := Aside.mk hf
  have hb0 : bitsOK k v = true := by unfold fitsB at hf; simp at hf; exact hf.2
  have HOD := Aside.mk (fun w2 => odd_any k s v (by omega) (by omega) (fun e => fit_32 (e ▸ hb0)) w2)
  clear hf
  by_cases hd : oddB k v = true
  · obtain ⟨e1, e2⟩ := hold_odd (z := ⟨zn, zu, zo, zh, zl, zm, zf, zt⟩) HO.out HW.out HF.out hd
    have HE := Aside.mk (And.intro e1 e2)
    rw [hd] at HOD
    have HOC := Aside.mk (show decide (0 < (zo : Int)) = decide (0 < zo) by simp)
    clear e1 e2 hd hz hb0
    go_enter Tryz.func58, Tryz.ntmps58
    go_wp2_with (first
      | (go_at_call 70; refine (HCT.out _).mono ?_; rintro e w2 ⟨rfl, hb⟩; have HB2 := Aside.mk (below_chain HB.out hb); have HX := Aside.mk ((hb.block w.heap.size (by simp)).trans (heap_alloc_new w _)); obtain ⟨c0, c1, c2, c3, c4, c5, c6, c7, c8, c9⟩ := box10 HX.out; clear hb)
      | (go_at_call 99; refine (HTX.out _).mono ?_; rintro e w3 ⟨rfl, hb⟩; have HB3 := Aside.mk (below_chain HB2.out hb); clear c0 c1 c2 c3 c4 c5 c6 c7 c8 c9; replace HX := Aside.mk ((hb.block _ (lt_of_blk HX.out)).trans HX.out); obtain ⟨c0, c1, c2, c3, c4, c5, c6, c7, c8, c9⟩ := box10 HX.out; clear hb)
      | (go_at_call 74; refine (HFT.out _).mono ?_; rintro e w4 ⟨rfl, hb⟩; have HB4 := Aside.mk (below_chain HB3.out hb); clear c0 c1 c2 c3 c4 c5 c6 c7 c8 c9; replace HX := Aside.mk ((hb.block _ (lt_of_blk HX.out)).trans HX.out); obtain ⟨c0, c1, c2, c3, c4, c5, c6, c7, c8, c9⟩ := box10 HX.out; clear hb)
      | (go_at_call 100; refine (HOD.out _).mono ?_; rintro e w5 ⟨rfl, hb⟩; have HB5 := Aside.mk (below_chain HB4.out hb); clear c0 c1 c2 c3 c4 c5 c6 c7 c8 c9; replace HX := Aside.mk ((hb.block _ (lt_of_blk HX.out)).trans HX.out); obtain ⟨c0, c1, c2, c3, c4, c5, c6, c7, c8, c9⟩ := box10 HX.out; clear hb))
    go_ret2
    exact ⟨by rw [HE.out.1, HE.out.2, ← HOC.out]; rfl, HB5.out⟩
  have hd' : oddB k v = false := by simpa using hd
  obtain ⟨e1, e2⟩ := hold_has (z := ⟨zn, zu, zo, zh, zl, zm, zf, zt⟩) HO.out HW.out HF.out hd'
  have HE := Aside.mk (And.intro e1 e2)
  rw [hd'] at HOD
  have HPV := Aside.mk (show PlainI k v from ⟨by omega, by omega, hb0, hd'⟩)
  have hk16 : 1 ≤ k ∧ k ≤ 16 := by have := HO.out; unfold okType at this; simp at this; omega
  have HK16 := Aside.mk hk16
  clear e1 e2 hd hd' hb0 hk16
  cases zh with
  | false =>
    clear hz
    go_enter Tryz.func58, Tryz.ntmps58
    go_wp2_with (first
      | (go_at_call 70; refine (HCT.out _).mono ?_; rintro e w2 ⟨rfl, hb⟩; have HB2 := Aside.mk (below_chain HB.out hb); have HX := Aside.mk ((hb.block w.heap.size (by simp)).trans (heap_alloc_new w _)); obtain ⟨c0, c1, c2, c3, c4, c5, c6, c7, c8, c9⟩ := box10 HX.out; clear hb)
      | (go_at_call 99; refine (HTX.out _).mono ?_; rintro e w3 ⟨rfl, hb⟩; have HB3 := Aside.mk (below_chain HB2.out hb); clear c0 c1 c2 c3 c4 c5 c6 c7 c8 c9; replace HX := Aside.mk ((hb.block _ (lt_of_blk HX.out)).trans HX.out); obtain ⟨c0, c1, c2, c3, c4, c5, c6, c7, c8, c9⟩ := box10 HX.out; clear hb)
      | (go_at_call 74; refine (HFT.out _).mono ?_; rintro e w4 ⟨rfl, hb⟩; have HB4 := Aside.mk (below_chain HB3.out hb); clear c0 c1 c2 c3 c4 c5 c6 c7 c8 c9; replace HX := Aside.mk ((hb.block _ (lt_of_blk HX.out)).trans HX.out); obtain ⟨c0, c1, c2, c3, c4, c5, c6, c7, c8, c9⟩ := box10 HX.out; clear hb)
      | (go_at_call 100; refine (HOD.out _).mono ?_; rintro e w5 ⟨rfl, hb⟩; have HB5 := Aside.mk (below_chain HB4.out hb); clear c0 c1 c2 c3 c4 c5 c6 c7 c8 c9; replace HX := Aside.mk ((hb.block _ (lt_of_blk HX.out)).trans HX.out); obtain ⟨c0, c1, c2, c3, c4, c5, c6, c7, c8, c9⟩ := box10 HX.out; clear hb))
    go_ret2
    exact ⟨by rw [HE.out.1, HE.out.2]; rfl, HB5.out⟩
  | true =>
    obtain ⟨hp1, hp2⟩ := hz rfl
    have HP1 := Aside.mk (fun _ : wordedB k = false => (hp1.bits HW.out).1)
    have HP2 := Aside.mk (fun _ : wordedB k = false => (hp2.bits HW.out).1)
    have HQ1 := Aside.mk (fun w2 => zorder_any k s zl v HK16.out (fun e => ⟨HP1.out e, HPV.out⟩) w2)
    have HQ2 := Aside.mk (fun w2 => zorder_any k s v zm HK16.out (fun e => ⟨HPV.out, HP2.out e⟩) w2)
    have hq1 : (if wordedB k then 0 else cmpS (keyI k (zl : Int)) (keyI k (v : Int))) = ordI k zl v := rfl
    have hq2 : (if wordedB k then 0 else cmpS (keyI k (v : Int)) (keyI k (zm : Int))) = ordI k v zm := rfl
    rw [hq1] at HQ1
    rw [hq2] at HQ2
    have HR := Aside.mk (show holdB k s ⟨zn, zu, zo, true, zl, zm, zf, zt⟩ v = (decide (ordI k zl v ≤ 0) && decide (ordI k v zm ≤ 0)) by rw [HE.out.1]; simp)
    clear hp1 hp2 hq1 hq2 hz
    generalize ordI k zl v = q1 at *
    generalize ordI k v zm = q2 at *
    by_cases h1 : decide (q1 ≤ 0) = true
    rotate_left
    · have h1' : decide (q1 ≤ 0) = false := by simpa using h1
      have HR2 := Aside.mk (show holdB k s ⟨zn, zu, zo, true, zl, zm, zf, zt⟩ v = false by rw [HR.out, h1']; rfl)
      clear h1
      go_enter Tryz.func58, Tryz.ntmps58
      go_wp2_with (first
      | (go_at_call 70; refine (HCT.out _).mono ?_; rintro e w2 ⟨rfl, hb⟩; have HB2 := Aside.mk (below_chain HB.out hb); have HX := Aside.mk ((hb.block w.heap.size (by simp)).trans (heap_alloc_new w _)); obtain ⟨c0, c1, c2, c3, c4, c5, c6, c7, c8, c9⟩ := box10 HX.out; clear hb)
      | (go_at_call 99; refine (HTX.out _).mono ?_; rintro e w3 ⟨rfl, hb⟩; have HB3 := Aside.mk (below_chain HB2.out hb); clear c0 c1 c2 c3 c4 c5 c6 c7 c8 c9; replace HX := Aside.mk ((hb.block _ (lt_of_blk HX.out)).trans HX.out); obtain ⟨c0, c1, c2, c3, c4, c5, c6, c7, c8, c9⟩ := box10 HX.out; clear hb)
      | (go_at_call 74; refine (HFT.out _).mono ?_; rintro e w4 ⟨rfl, hb⟩; have HB4 := Aside.mk (below_chain HB3.out hb); clear c0 c1 c2 c3 c4 c5 c6 c7 c8 c9; replace HX := Aside.mk ((hb.block _ (lt_of_blk HX.out)).trans HX.out); obtain ⟨c0, c1, c2, c3, c4, c5, c6, c7, c8, c9⟩ := box10 HX.out; clear hb)
      | (go_at_call 100; refine (HOD.out _).mono ?_; rintro e w5 ⟨rfl, hb⟩; have HB5 := Aside.mk (below_chain HB4.out hb); clear c0 c1 c2 c3 c4 c5 c6 c7 c8 c9; replace HX := Aside.mk ((hb.block _ (lt_of_blk HX.out)).trans HX.out); obtain ⟨c0, c1, c2, c3, c4, c5, c6, c7, c8, c9⟩ := box10 HX.out; clear hb)
      | (go_at_call 128; refine (HQ1.out _).mono ?_; rintro e w6 ⟨rfl, hb⟩; have HB6 := Aside.mk (below_chain HB5.out hb); clear HQ1 c0 c1 c2 c3 c4 c5 c6 c7 c8 c9; replace HX := Aside.mk ((hb.block _ (lt_of_blk HX.out)).trans HX.out); obtain ⟨c0, c1, c2, c3, c4, c5, c6, c7, c8, c9⟩ := box10 HX.out; clear hb))
      go_ret2
      exact ⟨by rw [HR2.out, HE.out.2]; rfl, HB6.out⟩
    · have HR2 := Aside.mk (show holdB k s ⟨zn, zu, zo, true, zl, zm, zf, zt⟩ v = decide (q2 ≤ 0) by rw [HR.out, h1]; rfl)
      go_enter Tryz.func58, Tryz.ntmps58
      go_wp2_with (first
      | (go_at_call 70; refine (HCT.out _).mono ?_; rintro e w2 ⟨rfl, hb⟩; have HB2 := Aside.mk (below_chain HB.out hb); have HX := Aside.mk ((hb.block w.heap.size (by simp)).trans (heap_alloc_new w _)); obtain ⟨c0, c1, c2, c3, c4, c5, c6, c7, c8, c9⟩ := box10 HX.out; clear hb)
      | (go_at_call 99; refine (HTX.out _).mono ?_; rintro e w3 ⟨rfl, hb⟩; have HB3 := Aside.mk (below_chain HB2.out hb); clear c0 c1 c2 c3 c4 c5 c6 c7 c8 c9; replace HX := Aside.mk ((hb.block _ (lt_of_blk HX.out)).trans HX.out); obtain ⟨c0, c1, c2, c3, c4, c5, c6, c7, c8, c9⟩ := box10 HX.out; clear hb)
      | (go_at_call 74; refine (HFT.out _).mono ?_; rintro e w4 ⟨rfl, hb⟩; have HB4 := Aside.mk (below_chain HB3.out hb); clear c0 c1 c2 c3 c4 c5 c6 c7 c8 c9; replace HX := Aside.mk ((hb.block _ (lt_of_blk HX.out)).trans HX.out); obtain ⟨c0, c1, c2, c3, c4, c5, c6, c7, c8, c9⟩ := box10 HX.out; clear hb)
      | (go_at_call 100; refine (HOD.out _).mono ?_; rintro e w5 ⟨rfl, hb⟩; have HB5 := Aside.mk (below_chain HB4.out hb); clear c0 c1 c2 c3 c4 c5 c6 c7 c8 c9; replace HX := Aside.mk ((hb.block _ (lt_of_blk HX.out)).trans HX.out); obtain ⟨c0, c1, c2, c3, c4, c5, c6, c7, c8, c9⟩ := box10 HX.out; clear hb)
      | (go_at_call 128; have hq := HQ1; refine (HQ1.out _).mono ?_; rintro e w6 ⟨rfl, hb⟩; have HB6 := Aside.mk (below_chain HB5.out hb); clear HQ1 hq c0 c1 c2 c3 c4 c5 c6 c7 c8 c9; replace HX := Aside.mk ((hb.block _ (lt_of_blk HX.out)).trans HX.out); obtain ⟨c0, c1, c2, c3, c4, c5, c6, c7, c8, c9⟩ := box10 HX.out; clear hb)
      | (go_at_call 128; refine (HQ2.out _).mono ?_; rintro e w7 ⟨rfl, hb⟩; have HB7 := Aside.mk (below_chain HB6.out hb); clear HQ2; clear hb))
      go_ret2
      exact ⟨by rw [HR2.out, HE.out.2]; rfl, HB7.out⟩
theorem rholds_any (k s : Int) (z : Zn) (hz : ZOK k z) (ho9 : z.odd ≤ 1000000) (F L : SL) (v : Nat) (hv : v < 18446744073709551616) (w : World) (hF : RdT w z.first F) (hL : RdT w z.last L) : Calls Tryz.prog 59 #[zV k s z F L, .int .u64 (v : Int)] w (HoldP k s z v w) := by
  obtain ⟨zn, zu, zo, zh, zl, zm, zf, zt⟩ := z
  have HCT := Aside.mk (fun w2 => r18check_any k s w2)
  have HTX := Aside.mk (fun w2 => worded_any k s w2)
  have HFT := Aside.mk (fun w2 => r18fits_any k s v (by omega) (by omega) w2)
  have HB := Aside.mk (below_new w (.cells #[.int .i64 k, .int .i64 s, .int .i64 (zn : Int), .int .i64 (zu : Int), .int .i64 (zo : Int), .bool zh, .int .u64 (zl : Int), .int .u64 (zm : Int), .slice F.a zf.length F.c, .slice L.a zt.length L.c] 79))
  dsimp only [zV] at *
  by_cases ho : okType k s = true
  rotate_left
  · have ho' : okType k s = false := by simpa using ho
    obtain ⟨e1, e2⟩ := hold_type (z := ⟨zn, zu, zo, zh, zl, zm, zf, zt⟩) (v := v) ho'
    have HE := Aside.mk (And.intro e1 e2)
    rw [ho'] at HCT
    clear e1 e2 ho ho' hz
    go_enter Tryz.func59, Tryz.ntmps59
    go_wp2_with (go_at_call 13; refine (HCT.out _).mono ?_; rintro e w2 ⟨rfl, hb⟩; have HB2 := Aside.mk hb; clear hb)
    go_ret2
    exact ⟨by rw [HE.out.1, HE.out.2]; rfl, below_chain HB.out HB2.out⟩
  rw [ho] at HCT
  have HO := Aside.mk ho
  clear ho
  by_cases hw : wordedB k = true
  · obtain ⟨e1, e2⟩ := hold_text (s := s) (z := ⟨zn, zu, zo, zh, zl, zm, zf, zt⟩) (v := v) hw
    have HE := Aside.mk (And.intro e1 e2)
    rw [hw] at HTX
    clear e1 e2 hw hz
    go_enter Tryz.func59, Tryz.ntmps59
    go_wp2_with (first
      | (go_at_call 13; refine (HCT.out _).mono ?_; rintro e w2 ⟨rfl, hb⟩; have HB2 := Aside.mk (below_chain HB.out hb); have hx := (hb.block w.heap.size (by simp)).trans (heap_alloc_new w _); obtain ⟨c0, c1, c2, c3, c4, c5, c6, c7, c8, c9⟩ := box10 hx; clear hb)
      | (go_at_call 62; refine (HTX.out _).mono ?_; rintro e w3 ⟨rfl, hb⟩; have HB3 := Aside.mk (below_chain HB2.out hb); clear hb))
    go_ret2
    exact ⟨by rw [HE.out.1, HE.out.2]; rfl, HB3.out⟩
  have hw' : wordedB k = false := by simpa using hw
  rw [hw'] at HTX
  have HW := Aside.mk hw'
  clear hw hw'
  by_cases hf : fitsB k s v = true
  rotate_left
  · have hf' : fitsB k s v = false := by simpa using hf
    obtain ⟨e1, e2⟩ := hold_fits (z := ⟨zn, zu, zo, zh, zl, zm, zf, zt⟩) HO.out HW.out hf'
    have HE := Aside.mk (And.intro e1 e2)
    rw [hf'] at HFT
    clear e1 e2 hf hf' hz
    go_enter Tryz.func59, Tryz.ntmps59
    go_wp2_with (first
      | (go_at_call 13; refine (HCT.out _).mono ?_; rintro e w2 ⟨rfl, hb⟩; have HB2 := Aside.mk (below_chain HB.out hb); have HX := Aside.mk ((hb.block w.heap.size (by simp)).trans (heap_alloc_new w _)); obtain ⟨c0, c1, c2, c3, c4, c5, c6, c7, c8, c9⟩ := box10 HX.out; clear hb)
      | (go_at_call 62; refine (HTX.out _).mono ?_; rintro e w3 ⟨rfl, hb⟩; have HB3 := Aside.mk (below_chain HB2.out hb); clear c0 c1 c2 c3 c4 c5 c6 c7 c8 c9; replace HX := Aside.mk ((hb.block _ (lt_of_blk HX.out)).trans HX.out); obtain ⟨c0, c1, c2, c3, c4, c5, c6, c7, c8, c9⟩ := box10 HX.out; clear hb)
      | (go_at_call 75; refine (HFT.out _).mono ?_; rintro e w4 ⟨rfl, hb⟩; have HB4 := Aside.mk (below_chain HB3.out hb); clear hb))
    go_ret2
    exact ⟨by rw [HE.out.1, HE.out.2]; rfl, HB4.out⟩
  rw [hf] at HFT
  have HF := Aside.mk hf
  have hb0 : bitsOK k v = true := by unfold fitsB at hf; simp at hf; exact hf.2
  have HOD := Aside.mk (fun w2 => rodd_any k s v (by omega) (by omega) (fun e => fit_32 (e ▸ hb0)) w2)
  clear hf
  by_cases hd : oddB k v = true
  · obtain ⟨e1, e2⟩ := hold_odd (z := ⟨zn, zu, zo, zh, zl, zm, zf, zt⟩) HO.out HW.out HF.out hd
    have HE := Aside.mk (And.intro e1 e2)
    rw [hd] at HOD
    have HOC := Aside.mk (show decide (0 < (zo : Int)) = decide (0 < zo) by simp)
    clear e1 e2 hd hz hb0
    go_enter Tryz.func59, Tryz.ntmps59
    go_wp2_with (first
      | (go_at_call 13; refine (HCT.out _).mono ?_; rintro e w2 ⟨rfl, hb⟩; have HB2 := Aside.mk (below_chain HB.out hb); have HX := Aside.mk ((hb.block w.heap.size (by simp)).trans (heap_alloc_new w _)); obtain ⟨c0, c1, c2, c3, c4, c5, c6, c7, c8, c9⟩ := box10 HX.out; clear hb)
      | (go_at_call 62; refine (HTX.out _).mono ?_; rintro e w3 ⟨rfl, hb⟩; have HB3 := Aside.mk (below_chain HB2.out hb); clear c0 c1 c2 c3 c4 c5 c6 c7 c8 c9; replace HX := Aside.mk ((hb.block _ (lt_of_blk HX.out)).trans HX.out); obtain ⟨c0, c1, c2, c3, c4, c5, c6, c7, c8, c9⟩ := box10 HX.out; clear hb)
      | (go_at_call 75; refine (HFT.out _).mono ?_; rintro e w4 ⟨rfl, hb⟩; have HB4 := Aside.mk (below_chain HB3.out hb); clear c0 c1 c2 c3 c4 c5 c6 c7 c8 c9; replace HX := Aside.mk ((hb.block _ (lt_of_blk HX.out)).trans HX.out); obtain ⟨c0, c1, c2, c3, c4, c5, c6, c7, c8, c9⟩ := box10 HX.out; clear hb)
      | (go_at_call 45; refine (HOD.out _).mono ?_; rintro e w5 ⟨rfl, hb⟩; have HB5 := Aside.mk (below_chain HB4.out hb); clear c0 c1 c2 c3 c4 c5 c6 c7 c8 c9; replace HX := Aside.mk ((hb.block _ (lt_of_blk HX.out)).trans HX.out); obtain ⟨c0, c1, c2, c3, c4, c5, c6, c7, c8, c9⟩ := box10 HX.out; clear hb))
    go_ret2
    exact ⟨by rw [HE.out.1, HE.out.2, ← HOC.out]; rfl, HB5.out⟩
  have hd' : oddB k v = false := by simpa using hd
  have HE := Aside.mk (hold_has (z := ⟨zn, zu, zo, zh, zl, zm, zf, zt⟩) HO.out HW.out HF.out hd')
  rw [hd'] at HOD
  have HPV := Aside.mk (show PlainV k ⟨false, v, []⟩ from ⟨fun _ => ⟨(show PlainI k v from ⟨by omega, by omega, hb0, hd'⟩), rfl⟩, fun e => by rw [HW.out] at e; cases e⟩)
  have hk16 : 1 ≤ k ∧ k ≤ 16 := by have := HO.out; unfold okType at this; simp at this; omega
  have HK16 := Aside.mk hk16
  have HED := Aside.mk (fun W => edges_any k s ⟨zn, zu, zo, zh, zl, zm, zf, zt⟩ F L W)
  have HRF := Aside.mk hF
  have HRL := Aside.mk hL
  have HZ := Aside.mk hz
  dsimp only [zV] at HED HRF HRL
  clear hd hd' hb0 hk16 hF hL hz
  go_enter Tryz.func59, Tryz.ntmps59
  go_upto_region 7 with (first
    | (go_at_call 13; refine (HCT.out _).mono ?_; rintro e w2 ⟨rfl, hb⟩; have HB2 := Aside.mk (below_chain HB.out hb); have HX := Aside.mk ((hb.block w.heap.size (by simp)).trans (heap_alloc_new w _)); obtain ⟨c0, c1, c2, c3, c4, c5, c6, c7, c8, c9⟩ := box10 HX.out; clear hb)
    | (go_at_call 62; refine (HTX.out _).mono ?_; rintro e w3 ⟨rfl, hb⟩; have HB3 := Aside.mk (below_chain HB2.out hb); clear c0 c1 c2 c3 c4 c5 c6 c7 c8 c9; replace HX := Aside.mk ((hb.block _ (lt_of_blk HX.out)).trans HX.out); obtain ⟨c0, c1, c2, c3, c4, c5, c6, c7, c8, c9⟩ := box10 HX.out; clear hb)
    | (go_at_call 75; refine (HFT.out _).mono ?_; rintro e w4 ⟨rfl, hb⟩; have HB4 := Aside.mk (below_chain HB3.out hb); clear c0 c1 c2 c3 c4 c5 c6 c7 c8 c9; replace HX := Aside.mk ((hb.block _ (lt_of_blk HX.out)).trans HX.out); obtain ⟨c0, c1, c2, c3, c4, c5, c6, c7, c8, c9⟩ := box10 HX.out; clear hb)
    | (go_at_call 45; refine (HOD.out _).mono ?_; rintro e w5 ⟨rfl, hb⟩; have HB5 := Aside.mk (below_chain HB4.out hb); clear c0 c1 c2 c3 c4 c5 c6 c7 c8 c9; replace HX := Aside.mk ((hb.block _ (lt_of_blk HX.out)).trans HX.out); obtain ⟨c0, c1, c2, c3, c4, c5, c6, c7, c8, c9⟩ := box10 HX.out; clear hb))
  go_upto_region 8 with (go_at_call 44; refine (HED.out _).mono ?_; rintro e w6 ⟨rfl, hb⟩; have HB6 := Aside.mk (below_chain HB5.out hb); clear c0 c1 c2 c3 c4 c5 c6 c7 c8 c9; replace HX := Aside.mk ((hb.block _ (lt_of_blk HX.out)).trans HX.out); obtain ⟨c0, c1, c2, c3, c4, c5, c6, c7, c8, c9⟩ := box10 HX.out; clear hb)
  obtain ⟨t1, t2, t3, t4⟩ := below_two w6 (.cells #[.bool false, .int .u64 (zl : Int), .slice F.a zf.length F.c] 50 (0, 0)) (.cells #[.bool false, .int .u64 (zm : Int), .slice L.a zt.length L.c] 50 (0, 0))
  have hq : ∀ W', ((w6.alloc (.cells #[.bool false, .int .u64 (zl : Int), .slice F.a zf.length F.c] 50)).alloc (.cells #[.bool false, .int .u64 (zm : Int), .slice L.a zt.length L.c] 50)) = W' → Below w6.heap.size w6 W' ∧ W'.heap[w6.heap.size]? = some (.cells #[.bool false, .int .u64 (zl : Int), .slice F.a zf.length F.c] 50 (0, 0)) ∧ W'.heap[w6.heap.size + 1]? = some (.cells #[.bool false, .int .u64 (zm : Int), .slice L.a zt.length L.c] 50 (0, 0)) := fun W' e => by rw [← e]; exact ⟨t1, t3, t4⟩
  clear t1 t2 t3 t4
  generalize ((w6.alloc (.cells #[.bool false, .int .u64 (zl : Int), .slice F.a zf.length F.c] 50)).alloc (.cells #[.bool false, .int .u64 (zm : Int), .slice L.a zt.length L.c] 50)) = w7 at *
  obtain ⟨hb, hlo, hhi⟩ := hq w7 rfl
  have HB7 := Aside.mk (below_chain HB6.out hb)
  clear hq
  clear c0 c1 c2 c3 c4 c5 c6 c7 c8 c9; replace HX := Aside.mk ((hb.block _ (lt_of_blk HX.out)).trans HX.out); obtain ⟨c0, c1, c2, c3, c4, c5, c6, c7, c8, c9⟩ := box10 HX.out; clear hb
  go_upto_region 9 with fail
  have hb := below_new w7 (.cells #[.bool false, .int .u64 (v : Int), .slice none 0 0] 50)
  have hxx := heap_alloc_new w7 (.cells #[.bool false, .int .u64 (v : Int), .slice none 0 0] 50)
  generalize w7.alloc (.cells #[.bool false, .int .u64 (v : Int), .slice none 0 0] 50) = w8 at *
  have HB8 := Aside.mk (below_chain HB7.out hb)
  have HLX := Aside.mk (And.intro ((hb.block _ (lt_of_blk hlo)).trans hlo) (And.intro ((hb.block _ (lt_of_blk hhi)).trans hhi) hxx))
  clear hlo hhi hxx
  clear c0 c1 c2 c3 c4 c5 c6 c7 c8 c9; replace HX := Aside.mk ((hb.block _ (lt_of_blk HX.out)).trans HX.out); obtain ⟨c0, c1, c2, c3, c4, c5, c6, c7, c8, c9⟩ := box10 HX.out; clear hb
  obtain ⟨l0, l1, l2⟩ := box3 HLX.out.1
  obtain ⟨h0, h1, h2⟩ := box3 HLX.out.2.1
  obtain ⟨x0, x1, x2⟩ := box3 HLX.out.2.2
  cases zh with
  | false =>
    go_wp2_with fail
    go_ret2
    exact ⟨by rw [HE.out.1, HE.out.2]; rfl, HB8.out⟩
  | true =>
    obtain ⟨hp1, hp2⟩ := HZ.out rfl
    have HQ1 := Aside.mk (rcmp_any k s HK16.out ⟨false, v, []⟩ ⟨false, zl, zf⟩ false false HPV.out hp1 ⟨none, 0⟩ F w8 (Rd.nil _ _) (HRF.out.below HB8.out))
    have HQ2 := Aside.mk (fun w2 (hb : Below w8.heap.size w8 w2) => rcmp_any k s HK16.out ⟨false, v, []⟩ ⟨false, zm, zt⟩ false false HPV.out hp2 ⟨none, 0⟩ L w2 (Rd.nil _ _) (HRL.out.below (below_chain HB8.out hb)))
    have hc1 : cmpV k ⟨false, v, []⟩ ⟨false, zl, zf⟩ = - ordI k zl v := by unfold cmpV ordI; rw [HW.out]; exact cmpS_swap _ _
    have hc2 : cmpV k ⟨false, v, []⟩ ⟨false, zm, zt⟩ = ordI k v zm := by unfold cmpV ordI; rw [HW.out]; rfl
    rw [hc1] at HQ1
    rw [hc2] at HQ2
    have HR := Aside.mk (show holdB k s ⟨zn, zu, zo, true, zl, zm, zf, zt⟩ v = (decide (ordI k zl v ≤ 0) && decide (ordI k v zm ≤ 0)) by rw [HE.out.1]; simp)
    have HE2 := Aside.mk HE.out.2
    clear hp1 hp2 hc1 hc2 HZ HE
    generalize ordI k zl v = q1 at *
    generalize ordI k v zm = q2 at *
    dsimp only at HQ1 HQ2
    by_cases h1' : q1 ≤ 0
    rotate_left
    · have HR2 := Aside.mk (show holdB k s ⟨zn, zu, zo, true, zl, zm, zf, zt⟩ v = false by rw [HR.out, decide_eq_false h1']; rfl)
      have g1 : decide (-q1 ≥ 0) = false := decide_eq_false (by omega)
      have g2 : decide (0 ≤ -q1) = false := decide_eq_false (by omega)
      clear h1'
      generalize -q1 = q3 at *
      go_wp2_with (go_at_call 46; refine HQ1.out.mono ?_; rintro e w9 ⟨rfl, hb⟩; have HB9 := Aside.mk (below_chain HB8.out hb); clear hb)
      go_ret2
      exact ⟨by rw [HR2.out, HE2.out]; rfl, HB9.out⟩
    · have HR2 := Aside.mk (show holdB k s ⟨zn, zu, zo, true, zl, zm, zf, zt⟩ v = decide (q2 ≤ 0) by rw [HR.out, decide_eq_true h1']; rfl)
      have g1 : decide (-q1 ≥ 0) = true := decide_eq_true (by omega)
      have g2 : decide (0 ≤ -q1) = true := decide_eq_true (by omega)
      clear h1'
      generalize -q1 = q3 at *
      go_wp2_with (first
        | (go_at_call 46; have hq := HQ1; refine HQ1.out.mono ?_; rintro e w9 ⟨rfl, hb⟩; have HB9 := Aside.mk (below_chain HB8.out hb); have HB89 := Aside.mk hb; clear HQ1 hq l0 l1 l2 h0 h1 h2 x0 x1 x2; clear c0 c1 c2 c3 c4 c5 c6 c7 c8 c9; replace HX := Aside.mk ((hb.block _ (lt_of_blk HX.out)).trans HX.out); obtain ⟨c0, c1, c2, c3, c4, c5, c6, c7, c8, c9⟩ := box10 HX.out; clear hb; obtain ⟨l0, l1, l2⟩ := box3 ((HB89.out.block _ (lt_of_blk HLX.out.1)).trans HLX.out.1); obtain ⟨h0, h1, h2⟩ := box3 ((HB89.out.block _ (lt_of_blk HLX.out.2.1)).trans HLX.out.2.1); obtain ⟨x0, x1, x2⟩ := box3 ((HB89.out.block _ (lt_of_blk HLX.out.2.2)).trans HLX.out.2.2))
        | (go_at_call 46; refine (HQ2.out _ HB89.out).mono ?_; rintro e w10 ⟨rfl, hb⟩; have HB10 := Aside.mk (below_chain HB9.out hb); clear hb HQ2))
      go_ret2
      exact ⟨by rw [HR2.out, HE2.out]; rfl, HB10.out⟩
end Go.Proofs.YtmhjjhaipcgbiaaGreat


namespace Go.Proofs.YtmhjjhaipcgbiaaGreat
open Go.RowKit
set_option linter.unusedVariables false
set_option linter.unusedSimpArgs false
set_option maxRecDepth 100000
theorem zof_built {k s : Int} (ho : okType k s = true) {r : List V} (hf : Few r ∧ ∀ v ∈ r, vOK k s v) (B D E X : SL) (va : List Value) {b : Nat} (w : World) (h : OwnC w b (colOf k s r) B D E X va) : Calls Tryz.prog 38 #[colV (colOf k s r) B D E X] w (MergeP k s (zFold k r.length r) w) := by
  have hF := built_facts ho hf.1 hf.2
  have := zof_any (colOf k s r) hF.cok (mod_built ho hf) hF.chk B D E X va (own_addr h.data) w h.rd
  rw [zoneC_built ho hf] at this
  exact this
theorem mem_odd {k : Int} {l : List V} {v : V} (hv : v ∈ l) (hn : v.null = false) (ho : oddB k v.bits = true) : 0 < nOdd k l :=
  List.length_pos_of_mem (List.mem_filter.2 ⟨hv, by rw [hn, ho]; rfl⟩)
theorem hold_each {k s : Int} {l : List V} {z : Zn} (hE : Edge k l z) {v : V} (hv : v ∈ l) (hn : v.null = false) (hok : vOK k s v) (ho : okType k s = true) (hw : wordedB k = false) : holdB k s z v.bits = true ∧ holdE k s v.bits = 0 := by
  have h4 := hok.2.2.2 hn
  rw [hw] at h4
  simp only [Bool.false_eq_true, if_false] at h4
  cases hd : oddB k v.bits with
  | true =>
    obtain ⟨e1, e2⟩ := hold_odd (z := z) ho hw h4.1 hd
    refine ⟨?_, e2⟩
    rw [e1, hE.odd]
    exact decide_eq_true (mem_odd hv hn hd)
  | false =>
    obtain ⟨e1, e2⟩ := hold_has (z := z) ho hw h4.1 hd
    have hp : plainB k v = true := by unfold plainB; rw [hn, hd]; rfl
    obtain ⟨q1, q2⟩ := hE.low v hv hp
    have hh : z.has = true := by
      cases e : z.has with
      | true => rfl
      | false =>
        obtain ⟨i, hi, rfl⟩ := List.mem_iff_getElem.1 hv
        have := (hE.none e).2.2.2.2 i
        rw [List.getD_eq_getElem?_getD, List.getElem?_eq_getElem hi] at this
        rw [show (some l[i]).getD ⟨true, 0, []⟩ = l[i] from rfl, hp] at this
        cases this
    refine ⟨?_, e2⟩
    rw [e1, hh]
    have c1 : cmpV k v (zLow z) = - ordI k z.least v.bits := by unfold cmpV ordI; rw [hw]; exact cmpS_swap _ _
    have c2 : cmpV k v (zHigh z) = ordI k v.bits z.most := by unfold cmpV ordI; rw [hw]; rfl
    rw [c1] at q1
    rw [c2] at q2
    exact decide_eq_true ⟨by omega, q2⟩
end Go.Proofs.YtmhjjhaipcgbiaaGreat


namespace Go.Proofs.YtmhjjhaipcgbiaaGreat
open Go.RowKit
set_option linter.unusedVariables false
set_option linter.unusedSimpArgs false
set_option maxRecDepth 100000
structure MI (w W : World) (boxes : List (Nat × Obj)) (rds : List (SL × List Int)) : Prop where
  bel : Below w.heap.size w W
  box : ∀ p ∈ boxes, W.heap[p.1]? = some p.2
  rd : ∀ p ∈ rds, RdT W p.2 p.1
theorem MI.below {w W W' : World} {boxes : List (Nat × Obj)} {rds : List (SL × List Int)} (h : MI w W boxes rds) (b : Below W.heap.size W W') : MI w W' boxes rds :=
  ⟨below_chain h.bel b, fun p hp => (b.block _ (lt_of_blk (h.box p hp))).trans (h.box p hp), fun p hp => (h.rd p hp).below b⟩
theorem MI.new {w W : World} {boxes : List (Nat × Obj)} {rds : List (SL × List Int)} (h : MI w W boxes rds) (cs : Array Value) (t : TypeId) : MI w (W.alloc (.cells cs t)) ((W.heap.size, .cells cs t (0, 0)) :: boxes) rds := by
  have h2 := h.below (below_new W (.cells cs t))
  refine ⟨h2.bel, fun p hp => ?_, h2.rd⟩
  rcases List.mem_cons.1 hp with rfl | hp
  · exact heap_alloc_new W _
  · exact h2.box p hp
theorem MI.newAt {w W : World} {boxes : List (Nat × Obj)} {rds : List (SL × List Int)} (h : MI w W boxes rds) (cs : Array Value) (t : TypeId) (n : Nat) (hn : W.heap.size = n) : MI w (W.alloc (.cells cs t)) ((n, .cells cs t (0, 0)) :: boxes) rds := hn ▸ h.new cs t
theorem MI.rds {w W : World} {boxes : List (Nat × Obj)} {rds : List (SL × List Int)} (h : MI w W boxes rds) (A : SL) (t : List Int) (hr : RdT W t A) : MI w W boxes ((A, t) :: rds) :=
  ⟨h.bel, h.box, fun p hp => by
    rcases List.mem_cons.1 hp with rfl | hp
    · exact hr
    · exact h.rd p hp⟩
def zL (k : Int) (l : List V) : Zn := zFold k l.length l
theorem zL_nil (k : Int) : zL k [] = zZero := rfl
theorem zob_of {k : Int} {z : Zn} (h : ZOK k z) : ZOB k z := fun hh hw => ⟨((h hh).1.bits hw).1, ((h hh).2.bits hw).1⟩
theorem zL_inv {k s : Int} {l : List V} (hf : Few l ∧ ∀ v ∈ l, vOK k s v) : ZInv k l.length l := zinv (k := k) (s := s) (n := l.length) l (fun u hu => ⟨hf.2 u hu, Nat.le_trans (hf.1.2 u hu) (by decide)⟩)
theorem zL_app {k s : Int} {l r : List V} (hf : Few (l ++ r) ∧ ∀ v ∈ l ++ r, vOK k s v) : zJoin k (zL k l) (zL k r) = zL k (l ++ r) := by
  unfold zL
  rw [List.length_append]
  exact fold_app l.length r.length l r (fun v hv => ⟨hf.2 v hv, Nat.le_trans (hf.1.2 v hv) (by decide)⟩)
theorem zmerge_fold {k s : Int} (ho : okType k s = true) {l r : List V} (hf : Few (l ++ r) ∧ ∀ v ∈ l ++ r, vOK k s v) (F L F2 L2 : SL) (w : World) (hF : RdT w (zL k l).first F) (hL : RdT w (zL k l).last L) (hF2 : RdT w (zL k r).first F2) (hL2 : RdT w (zL k r).last L2) :
    Calls Tryz.prog 69 #[zV k s (zL k l) F L, zV k s (zL k r) F2 L2] w (MergeP k s (zL k (l ++ r)) w) := by
  obtain ⟨h1, h2⟩ := few_app hf
  have i1 := zL_inv h1
  have i2 := zL_inv h2
  have i3 := zL_inv hf
  have e := zL_app hf
  have hn := hf.1.1
  rw [List.length_append] at hn
  have n1 : (zL k l).n = l.length := i1.nn
  have n2 : (zL k r).n = r.length := i2.nn
  have u1 : (zL k l).nulls ≤ l.length := i1.nulls
  have u2 : (zL k r).nulls ≤ r.length := i2.nulls
  have o1 : (zL k l).odd ≤ l.length := i1.odd
  have o2 : (zL k r).odd ≤ r.length := i2.odd
  have := zmerge_yes k s ho (zL k l) (zL k r) (zob_of i1.ok) (zob_of i2.ok) ⟨by omega, by omega, by omega⟩ (by rw [e]; exact i3.few) F L F2 L2 w hF hL hF2 hL2
  rw [e] at this
  exact this
theorem zof_list {k s : Int} (ho : okType k s = true) {r : List V} (hf : Few r ∧ ∀ v ∈ r, vOK k s v) (B D E X : SL) (va : List Value) {b : Nat} (w : World) (h : OwnC w b (colOf k s r) B D E X va) : Calls Tryz.prog 38 #[colV (colOf k s r) B D E X] w (MergeP k s (zL k r) w) := zof_built ho hf B D E X va w h
end Go.Proofs.YtmhjjhaipcgbiaaGreat
