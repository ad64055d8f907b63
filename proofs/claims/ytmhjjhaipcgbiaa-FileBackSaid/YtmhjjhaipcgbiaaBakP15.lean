/- Texts of this claim, one behind the other: Check. -/
import Derived.Test.YtmhjjhaipcgbiaaBakP13
import Derived.Test.YtmhjjhaipcgbiaaBakP14

namespace Go.Proofs.Ytmhjjhaipcgbiaa
open Go.RowKit
set_option linter.unusedVariables false
set_option linter.unusedSimpArgs false
set_option maxRecDepth 100000
set_option maxHeartbeats 6000000
theorem of_coded (s : Int) (w : World) : Calls Try.prog 57 #[.agg #[.int .i64 16, .int .i64 s]] w fun e w' => e = .returned (.iface 130 (.agg #[.int .i64 4])) ∧ w' = w.alloc (.cells #[.int .i64 16, .int .i64 s] 23) := by
  go_enter Try.func57, Try.ntmps57
  go_wp2_with (go_at_call 12; refine (width_any _ _).mono ?_; rintro e w1 ⟨rfl, rfl⟩)
  go_ret
  exact ⟨rfl, rfl⟩
def IfP (v : Value) (w : World) (e : Ending) (w' : World) : Prop := e = .returned v ∧ Below w.heap.size w w'
theorem of_c (s : Int) (w : World) : Calls Try.prog 57 #[.agg #[.int .i64 16, .int .i64 s]] w (IfP (.iface 130 (.agg #[.int .i64 4])) w) :=
  (of_coded s w).mono (by rintro e w' ⟨rfl, rfl⟩; exact ⟨rfl, below_new _ _⟩)
theorem of_r (s : Int) (w : World) : Calls Try.prog 57 #[.agg #[.int .i64 15, .int .i64 s]] w (IfP (.iface 125 (.agg #[])) w) :=
  (of_running s w).mono (by rintro e w' ⟨rfl, rfl⟩; exact ⟨rfl, below_new _ _⟩)
theorem of_f (k s : Int) (h1 : k ≠ 15) (h2 : k ≠ 16) {W : Nat} (hW : widthOf k = (W : Int)) (w : World) : Calls Try.prog 57 #[.agg #[.int .i64 k, .int .i64 s]] w (IfP (.iface 128 (.agg #[.int .i64 (W : Int)])) w) :=
  (of_fixed k s (by simpa using h1) (by simpa using h2) w).mono (by rintro e w' ⟨rfl, rfl⟩; exact ⟨by rw [hW], below_new _ _⟩)
def Cells8 (b : Nat) (x0 x1 x2 x3 x4 x5 x6 x7 : Value) (w : World) : Prop :=
  w.cell? ⟨b, 0, none⟩ = some x0 ∧ w.cell? ⟨b, 1, none⟩ = some x1 ∧ w.cell? ⟨b, 2, none⟩ = some x2 ∧ w.cell? ⟨b, 3, none⟩ = some x3 ∧ w.cell? ⟨b, 4, none⟩ = some x4 ∧ w.cell? ⟨b, 5, none⟩ = some x5 ∧ w.cell? ⟨b, 6, none⟩ = some x6 ∧ w.cell? ⟨b, 7, none⟩ = some x7
theorem cells8_next {b : Nat} {x0 x1 x2 x3 x4 x5 x6 x7 : Value} {w1 w2 : World} (h : Cells8 b x0 x1 x2 x3 x4 x5 x6 x7 w1) (hb : Below w1.heap.size w1 w2) : Cells8 b x0 x1 x2 x3 x4 x5 x6 x7 w2 := by
  obtain ⟨h0, h1, h2, h3, h4, h5, h6, h7⟩ := h
  have hl := World.block_lt_of_cell? _ _ h0
  exact ⟨(hb.cell (p := ⟨b, 0, none⟩) hl).trans h0, (hb.cell (p := ⟨b, 1, none⟩) hl).trans h1, (hb.cell (p := ⟨b, 2, none⟩) hl).trans h2, (hb.cell (p := ⟨b, 3, none⟩) hl).trans h3, (hb.cell (p := ⟨b, 4, none⟩) hl).trans h4, (hb.cell (p := ⟨b, 5, none⟩) hl).trans h5, (hb.cell (p := ⟨b, 6, none⟩) hl).trans h6, (hb.cell (p := ⟨b, 7, none⟩) hl).trans h7⟩
theorem check_f2 (k s : Int) (w : World) : Calls Try.prog 10 #[.agg #[.int .i64 k, .int .i64 s]] w (IntP (if okType k s then 0 else 170) w) := checkType_any k s w
theorem checkC_type {c : Col} (h : okType c.k c.s = false) : (170 : Int) = checkC c := by unfold checkC; rw [if_pos h]
theorem checkC_mask {c : Col} (h : okType c.k c.s = true) (h2 : maskOK c.m c.bits = false) : (171 : Int) = checkC c := by unfold checkC; rw [if_neg (by simp [h])]; simp [h2]
theorem checkC_len {c : Col} (h : okType c.k c.s = true) (h2 : c.m ≠ c.n) : (171 : Int) = checkC c := by unfold checkC; rw [if_neg (by simp [h])]; simp [h2]
theorem checkC_may {c : Col} (h : okType c.k c.s = true) (h2 : maskOK c.m c.bits = true) (h3 : c.m = c.n) : (if mayB c then 0 else 171) = checkC c := by unfold checkC; cases hm : mayB c <;> simp [h, h2, ← h3, hm]
theorem mask_room {m : Int} {bs : List Int} (h : maskOK m bs = true) : m ≤ 8 * (bs.length : Int) := by
  unfold maskOK at h
  rw [decide_eq_true_eq] at h
  exact h.2.1
theorem check_no (c : Col) (h : okType c.k c.s = false) (B D E X : SL) (w : World) : Calls Try.prog 30 #[colV c B D E X] w (IntP (checkC c) w) := by
  have HD := Aside.mk (checkC_type h)
  have hct := Aside.mk (fun w2 => by have := check_f2 c.k c.s w2; rw [h] at this; exact this)
  have hbw := below_new w (.cells #[.int .i64 c.k, .int .i64 c.s, .int .i64 c.n, .int .i64 c.m, .slice B.a c.bits.length B.c, .slice D.a c.data.length D.c, .slice E.a c.ends.length E.c, .slice X.a c.words.length X.c] 43)
  have HBW := Aside.mk hbw
  clear hbw h
  dsimp only [colV]
  go_enter Try.func30, Try.ntmps30
  go_wp2_with (go_at_call 10; refine (hct.out _).mono ?_; rintro e w2 ⟨rfl, hb2⟩; have H2 := Aside.mk hb2; clear hb2)
  go_ret
  exact ⟨ret_int HD.out, HBW.out.trans (H2.out.mono (by simp))⟩
theorem check_r (c : Col) (hk : c.k = 15) (ho : okType c.k c.s = true) (hc : COK c) (B D E X : SL) (vals : List Value) (w : World) (h : RdC w c B D E X vals) : Calls Try.prog 30 #[colV c B D E X] w (IntP (checkC c) w) := by
  have HR := Aside.mk h
  have HC := Aside.mk hc
  have hmay := Aside.mk (fun (hn : c.n ≤ 8 * (c.bits.length : Int)) (w2 : World) (hb : Below w.heap.size w w2) => mayR_any c HC.out hn B D E X vals w2 (HR.out.below hb))
  have hmask := Aside.mk (fun (w2 : World) (hb : Below w.heap.size w w2) => maskCheck_any c.m c.bits B HC.out.lb HC.out.bits w2 (HR.out.bits.below hb))
  have hct := Aside.mk (fun w2 => by have := check_f2 c.k c.s w2; rw [ho] at this; exact this)
  have HMB := Aside.mk (show mayB c = mayRunning c by unfold mayB; rw [hk]; rfl)
  have HO := Aside.mk ho
  have HK := Aside.mk hk
  have HCV := Aside.mk (show colV c B D E X = .agg #[.int .i64 15, .int .i64 c.s, .int .i64 c.n, .int .i64 c.m, .slice B.a c.bits.length B.c, .slice D.a c.data.length D.c, .slice E.a c.ends.length E.c, .slice X.a c.words.length X.c] by rw [colV, hk])
  rw [hk] at hct
  rw [HCV.out] at hmay ⊢
  clear h hc ho hk
  go_enter Try.func30, Try.ntmps30
  go_wp2_with fail
  have HBW := Aside.mk (below_new w (.cells #[.int .i64 15, .int .i64 c.s, .int .i64 c.n, .int .i64 c.m, .slice B.a c.bits.length B.c, .slice D.a c.data.length D.c, .slice E.a c.ends.length E.c, .slice X.a c.words.length X.c] 43))
  have HS := Aside.mk (show Cells8 w.heap.size (.int .i64 15) (.int .i64 c.s) (.int .i64 c.n) (.int .i64 c.m) (.slice B.a c.bits.length B.c) (.slice D.a c.data.length D.c) (.slice E.a c.ends.length E.c) (.slice X.a c.words.length X.c) (w.alloc (.cells #[.int .i64 15, .int .i64 c.s, .int .i64 c.n, .int .i64 c.m, .slice B.a c.bits.length B.c, .slice D.a c.data.length D.c, .slice E.a c.ends.length E.c, .slice X.a c.words.length X.c] 43)) from box8 (heap_alloc_new w _))
  generalize hw1 : w.alloc (.cells #[.int .i64 15, .int .i64 c.s, .int .i64 c.n, .int .i64 c.m, .slice B.a c.bits.length B.c, .slice D.a c.data.length D.c, .slice E.a c.ends.length E.c, .slice X.a c.words.length X.c] 43) = w1 at *
  clear hw1
  refine (hct.out _).mono ?_
  rintro e w2 ⟨rfl, hb2⟩
  replace HBW := Aside.mk (HBW.out.trans (hb2.mono HBW.out.size))
  replace HS := Aside.mk (cells8_next HS.out hb2)
  clear hb2
  go_wp2
  obtain ⟨p0, p1, p2, p3, p4, p5, p6, p7⟩ := HS.out
  by_cases hm : maskOK c.m c.bits = true
  rotate_left
  · have hme : maskErr c.m c.bits = 160 := by rw [maskErr, if_neg hm]
    have HD := Aside.mk (checkC_mask HO.out (by simpa using hm))
    clear hm
    refine wp_region_calm (by kernel_rfl) (by kernel_rfl) ?_
    refine calm_take (by rfl) ?v1000 (fun w' hw' => ?hy1000) ?rest1000
    case hy1000 => go_simp <;> first | rfl | skip
    simp only [Act.put, List.setIfInBounds_toArray, List.set_cons_zero, List.set_cons_succ]
    refine calm_take (by rfl) ?v1001 (fun w' hw' => ?hy1001) ?rest1001
    case hy1001 => obtain ⟨r0, r1, r2, r3, r4, r5, r6, r7⟩ := cells8_next HS.out hw'; go_simp <;> first | rfl | skip
    simp only [Act.put, List.setIfInBounds_toArray, List.set_cons_zero, List.set_cons_succ]
    refine' calm_call (by rfl) (.int .i64 160) ?nx1002 (fun w' => ?hr1002) _ _ ?hn1002 (fun w' hw' => ?hc1002) ?rest1002
    case hr1002 => go_simp <;> rfl
    case hn1002 => rfl
    case hc1002 => exact (hmask.out w' (HBW.out.trans (hw'.mono HBW.out.size))).mono (by rintro e w3 ⟨rfl, hb3⟩; rw [hme]; exact ⟨rfl, below_chain hw' hb3⟩)
    simp only [Act.put, List.setIfInBounds_toArray, List.set_cons_zero, List.set_cons_succ]
    refine calm_take (by rfl) ?v1003 (fun w' hw' => ?hy1003) ?rest1003
    case hy1003 => go_simp <;> first | rfl | skip
    simp only [Act.put, List.setIfInBounds_toArray, List.set_cons_zero, List.set_cons_succ]
    refine calm_take (by rfl) ?v1004 (fun w' hw' => ?hy1004) ?rest1004
    case hy1004 => go_simp <;> first | rfl | skip
    simp only [Act.put, List.setIfInBounds_toArray, List.set_cons_zero, List.set_cons_succ]
    refine calm_skip (by rfl) ?_
    simp only [Act.put, List.setIfInBounds_toArray, List.set_cons_zero, List.set_cons_succ]
    refine calm_skip (by rfl) ?_
    simp only [Act.put, List.setIfInBounds_toArray, List.set_cons_zero, List.set_cons_succ]
    refine calm_skip (by rfl) ?_
    simp only [Act.put, List.setIfInBounds_toArray, List.set_cons_zero, List.set_cons_succ]
    refine calm_skip (by rfl) ?_
    simp only [Act.put, List.setIfInBounds_toArray, List.set_cons_zero, List.set_cons_succ]
    refine calm_skip (by rfl) ?_
    simp only [Act.put, List.setIfInBounds_toArray, List.set_cons_zero, List.set_cons_succ]
    refine calm_skip (by rfl) ?_
    simp only [Act.put, List.setIfInBounds_toArray, List.set_cons_zero, List.set_cons_succ]
    refine calm_take (by rfl) ?v1011 (fun w' hw' => ?hy1011) ?rest1011
    case hy1011 => go_simp <;> first | rfl | skip
    simp only [Act.put, List.setIfInBounds_toArray, List.set_cons_zero, List.set_cons_succ]
    refine calm_take (by rfl) ?v1012 (fun w' hw' => ?hy1012) ?rest1012
    case hy1012 => go_simp <;> first | rfl | skip
    simp only [Act.put, List.setIfInBounds_toArray, List.set_cons_zero, List.set_cons_succ]
    refine calm_skip (by rfl) ?_
    simp only [Act.put, List.setIfInBounds_toArray, List.set_cons_zero, List.set_cons_succ]
    refine calm_skip (by rfl) ?_
    simp only [Act.put, List.setIfInBounds_toArray, List.set_cons_zero, List.set_cons_succ]
    refine calm_skip (by rfl) ?_
    simp only [Act.put, List.setIfInBounds_toArray, List.set_cons_zero, List.set_cons_succ]
    refine calm_skip (by rfl) ?_
    simp only [Act.put, List.setIfInBounds_toArray, List.set_cons_zero, List.set_cons_succ]
    refine calm_skip (by rfl) ?_
    simp only [Act.put, List.setIfInBounds_toArray, List.set_cons_zero, List.set_cons_succ]
    refine calm_skip (by rfl) ?_
    simp only [Act.put, List.setIfInBounds_toArray, List.set_cons_zero, List.set_cons_succ]
    refine calm_take (by rfl) ?v1019 (fun w' hw' => ?hy1019) ?rest1019
    case hy1019 => go_simp <;> first | rfl | skip
    simp only [Act.put, List.setIfInBounds_toArray, List.set_cons_zero, List.set_cons_succ]
    refine calm_take (by rfl) ?v1020 (fun w' hw' => ?hy1020) ?rest1020
    case hy1020 => go_simp <;> first | rfl | skip
    simp only [Act.put, List.setIfInBounds_toArray, List.set_cons_zero, List.set_cons_succ]
    refine wpQuiet_nil (fun w' hw' => ?_)
    go_wp2
    go_ret
    exact ⟨ret_int HD.out, HBW.out.trans (hw'.mono HBW.out.size)⟩
  · have hme : maskErr c.m c.bits = 0 := by rw [maskErr, if_pos hm]
    by_cases hmn : c.m = c.n
    rotate_left
    · have hmn2 : (c.m != c.n) = true := by simpa using hmn
      have HD := Aside.mk (checkC_len HO.out hmn)
      clear hm hmn
      refine wp_region_calm (by kernel_rfl) (by kernel_rfl) ?_
      refine calm_take (by rfl) ?v2000 (fun w' hw' => ?hy2000) ?rest2000
      case hy2000 => go_simp <;> first | rfl | skip
      simp only [Act.put, List.setIfInBounds_toArray, List.set_cons_zero, List.set_cons_succ]
      refine calm_take (by rfl) ?v2001 (fun w' hw' => ?hy2001) ?rest2001
      case hy2001 => obtain ⟨r0, r1, r2, r3, r4, r5, r6, r7⟩ := cells8_next HS.out hw'; go_simp <;> first | rfl | skip
      simp only [Act.put, List.setIfInBounds_toArray, List.set_cons_zero, List.set_cons_succ]
      refine' calm_call (by rfl) (.int .i64 0) ?nx2002 (fun w' => ?hr2002) _ _ ?hn2002 (fun w' hw' => ?hc2002) ?rest2002
      case hr2002 => go_simp <;> rfl
      case hn2002 => rfl
      case hc2002 => exact (hmask.out w' (HBW.out.trans (hw'.mono HBW.out.size))).mono (by rintro e w3 ⟨rfl, hb3⟩; rw [hme]; exact ⟨rfl, below_chain hw' hb3⟩)
      simp only [Act.put, List.setIfInBounds_toArray, List.set_cons_zero, List.set_cons_succ]
      refine calm_take (by rfl) ?v2003 (fun w' hw' => ?hy2003) ?rest2003
      case hy2003 => go_simp <;> first | rfl | skip
      simp only [Act.put, List.setIfInBounds_toArray, List.set_cons_zero, List.set_cons_succ]
      refine calm_take (by rfl) ?v2004 (fun w' hw' => ?hy2004) ?rest2004
      case hy2004 => go_simp <;> first | rfl | skip
      simp only [Act.put, List.setIfInBounds_toArray, List.set_cons_zero, List.set_cons_succ]
      refine calm_take (by rfl) ?v2005 (fun w' hw' => ?hy2005) ?rest2005
      case hy2005 => go_simp <;> first | rfl | skip
      simp only [Act.put, List.setIfInBounds_toArray, List.set_cons_zero, List.set_cons_succ]
      refine calm_take (by rfl) ?v2006 (fun w' hw' => ?hy2006) ?rest2006
      case hy2006 => go_simp <;> first | rfl | skip
      simp only [Act.put, List.setIfInBounds_toArray, List.set_cons_zero, List.set_cons_succ]
      refine calm_take (by rfl) ?v2007 (fun w' hw' => ?hy2007) ?rest2007
      case hy2007 => obtain ⟨r0, r1, r2, r3, r4, r5, r6, r7⟩ := cells8_next HS.out hw'; go_simp <;> first | rfl | skip
      simp only [Act.put, List.setIfInBounds_toArray, List.set_cons_zero, List.set_cons_succ]
      refine calm_take (by rfl) ?v2008 (fun w' hw' => ?hy2008) ?rest2008
      case hy2008 => go_simp <;> first | rfl | skip
      simp only [Act.put, List.setIfInBounds_toArray, List.set_cons_zero, List.set_cons_succ]
      refine calm_take (by rfl) ?v2009 (fun w' hw' => ?hy2009) ?rest2009
      case hy2009 => obtain ⟨r0, r1, r2, r3, r4, r5, r6, r7⟩ := cells8_next HS.out hw'; go_simp <;> first | rfl | skip
      simp only [Act.put, List.setIfInBounds_toArray, List.set_cons_zero, List.set_cons_succ]
      refine calm_take (by rfl) ?v2010 (fun w' hw' => ?hy2010) ?rest2010
      case hy2010 => go_simp <;> first | rfl | skip
      simp only [Act.put, List.setIfInBounds_toArray, List.set_cons_zero, List.set_cons_succ]
      refine calm_take (by rfl) ?v2011 (fun w' hw' => ?hy2011) ?rest2011
      case hy2011 => go_simp <;> first | rfl | skip
      simp only [Act.put, List.setIfInBounds_toArray, List.set_cons_zero, List.set_cons_succ]
      refine calm_take (by rfl) ?v2012 (fun w' hw' => ?hy2012) ?rest2012
      case hy2012 => go_simp <;> first | rfl | skip
      simp only [Act.put, List.setIfInBounds_toArray, List.set_cons_zero, List.set_cons_succ]
      refine calm_skip (by rfl) ?_
      simp only [Act.put, List.setIfInBounds_toArray, List.set_cons_zero, List.set_cons_succ]
      refine calm_skip (by rfl) ?_
      simp only [Act.put, List.setIfInBounds_toArray, List.set_cons_zero, List.set_cons_succ]
      refine calm_skip (by rfl) ?_
      simp only [Act.put, List.setIfInBounds_toArray, List.set_cons_zero, List.set_cons_succ]
      refine calm_skip (by rfl) ?_
      simp only [Act.put, List.setIfInBounds_toArray, List.set_cons_zero, List.set_cons_succ]
      refine calm_skip (by rfl) ?_
      simp only [Act.put, List.setIfInBounds_toArray, List.set_cons_zero, List.set_cons_succ]
      refine calm_skip (by rfl) ?_
      simp only [Act.put, List.setIfInBounds_toArray, List.set_cons_zero, List.set_cons_succ]
      refine calm_take (by rfl) ?v2019 (fun w' hw' => ?hy2019) ?rest2019
      case hy2019 => go_simp <;> first | rfl | skip
      simp only [Act.put, List.setIfInBounds_toArray, List.set_cons_zero, List.set_cons_succ]
      refine calm_take (by rfl) ?v2020 (fun w' hw' => ?hy2020) ?rest2020
      case hy2020 => go_simp <;> first | rfl | skip
      simp only [Act.put, List.setIfInBounds_toArray, List.set_cons_zero, List.set_cons_succ]
      refine wpQuiet_nil (fun w' hw' => ?_)
      go_wp2
      go_ret
      exact ⟨ret_int HD.out, HBW.out.trans (hw'.mono HBW.out.size)⟩
    · have hmn2 : (c.m != c.n) = false := by simpa using hmn
      have HD := Aside.mk (checkC_may HO.out hm hmn)
      have hmay2 := Aside.mk (hmay.out (by rw [← hmn]; exact mask_room hm))
      rw [HMB.out] at HD
      clear hm hmn hmay
      generalize mayRunning c = mb at *
      cases mb with
      | true =>
        refine wp_region_calm (by kernel_rfl) (by kernel_rfl) ?_
        refine calm_take (by rfl) ?v3000 (fun w' hw' => ?hy3000) ?rest3000
        case hy3000 => go_simp <;> first | rfl | skip
        simp only [Act.put, List.setIfInBounds_toArray, List.set_cons_zero, List.set_cons_succ]
        refine calm_take (by rfl) ?v3001 (fun w' hw' => ?hy3001) ?rest3001
        case hy3001 => obtain ⟨r0, r1, r2, r3, r4, r5, r6, r7⟩ := cells8_next HS.out hw'; go_simp <;> first | rfl | skip
        simp only [Act.put, List.setIfInBounds_toArray, List.set_cons_zero, List.set_cons_succ]
        refine' calm_call (by rfl) (.int .i64 0) ?nx3002 (fun w' => ?hr3002) _ _ ?hn3002 (fun w' hw' => ?hc3002) ?rest3002
        case hr3002 => go_simp <;> rfl
        case hn3002 => rfl
        case hc3002 => exact (hmask.out w' (HBW.out.trans (hw'.mono HBW.out.size))).mono (by rintro e w3 ⟨rfl, hb3⟩; rw [hme]; exact ⟨rfl, below_chain hw' hb3⟩)
        simp only [Act.put, List.setIfInBounds_toArray, List.set_cons_zero, List.set_cons_succ]
        refine calm_take (by rfl) ?v3003 (fun w' hw' => ?hy3003) ?rest3003
        case hy3003 => go_simp <;> first | rfl | skip
        simp only [Act.put, List.setIfInBounds_toArray, List.set_cons_zero, List.set_cons_succ]
        refine calm_take (by rfl) ?v3004 (fun w' hw' => ?hy3004) ?rest3004
        case hy3004 => go_simp <;> first | rfl | skip
        simp only [Act.put, List.setIfInBounds_toArray, List.set_cons_zero, List.set_cons_succ]
        refine calm_take (by rfl) ?v3005 (fun w' hw' => ?hy3005) ?rest3005
        case hy3005 => go_simp <;> first | rfl | skip
        simp only [Act.put, List.setIfInBounds_toArray, List.set_cons_zero, List.set_cons_succ]
        refine calm_take (by rfl) ?v3006 (fun w' hw' => ?hy3006) ?rest3006
        case hy3006 => go_simp <;> first | rfl | skip
        simp only [Act.put, List.setIfInBounds_toArray, List.set_cons_zero, List.set_cons_succ]
        refine calm_take (by rfl) ?v3007 (fun w' hw' => ?hy3007) ?rest3007
        case hy3007 => obtain ⟨r0, r1, r2, r3, r4, r5, r6, r7⟩ := cells8_next HS.out hw'; go_simp <;> first | rfl | skip
        simp only [Act.put, List.setIfInBounds_toArray, List.set_cons_zero, List.set_cons_succ]
        refine calm_take (by rfl) ?v3008 (fun w' hw' => ?hy3008) ?rest3008
        case hy3008 => go_simp <;> first | rfl | skip
        simp only [Act.put, List.setIfInBounds_toArray, List.set_cons_zero, List.set_cons_succ]
        refine calm_take (by rfl) ?v3009 (fun w' hw' => ?hy3009) ?rest3009
        case hy3009 => obtain ⟨r0, r1, r2, r3, r4, r5, r6, r7⟩ := cells8_next HS.out hw'; go_simp <;> first | rfl | skip
        simp only [Act.put, List.setIfInBounds_toArray, List.set_cons_zero, List.set_cons_succ]
        refine calm_take (by rfl) ?v3010 (fun w' hw' => ?hy3010) ?rest3010
        case hy3010 => go_simp <;> first | rfl | skip
        simp only [Act.put, List.setIfInBounds_toArray, List.set_cons_zero, List.set_cons_succ]
        refine calm_take (by rfl) ?v3011 (fun w' hw' => ?hy3011) ?rest3011
        case hy3011 => go_simp <;> first | rfl | skip
        simp only [Act.put, List.setIfInBounds_toArray, List.set_cons_zero, List.set_cons_succ]
        refine calm_take (by rfl) ?v3012 (fun w' hw' => ?hy3012) ?rest3012
        case hy3012 => go_simp <;> first | rfl | skip
        simp only [Act.put, List.setIfInBounds_toArray, List.set_cons_zero, List.set_cons_succ]
        refine calm_take (by rfl) ?v3013 (fun w' hw' => ?hy3013) ?rest3013
        case hy3013 => go_simp <;> first | rfl | skip
        simp only [Act.put, List.setIfInBounds_toArray, List.set_cons_zero, List.set_cons_succ]
        refine calm_take (by rfl) ?v3014 (fun w' hw' => ?hy3014) ?rest3014
        case hy3014 => obtain ⟨r0, r1, r2, r3, r4, r5, r6, r7⟩ := cells8_next HS.out hw'; go_simp <;> first | rfl | skip
        simp only [Act.put, List.setIfInBounds_toArray, List.set_cons_zero, List.set_cons_succ]
        refine' calm_call (by rfl) (.iface 125 (.agg #[])) ?nx3015 (fun w' => ?hr3015) _ _ ?hn3015 (fun w' hw' => ?hc3015) ?rest3015
        case hr3015 => go_simp <;> rfl
        case hn3015 => rfl
        case hc3015 => exact (of_r c.s _).mono (by rintro e w3 ⟨rfl, hb3⟩; exact ⟨rfl, below_chain hw' hb3⟩)
        simp only [Act.put, List.setIfInBounds_toArray, List.set_cons_zero, List.set_cons_succ]
        refine calm_take (by rfl) ?v3016 (fun w' hw' => ?hy3016) ?rest3016
        case hy3016 => obtain ⟨r0, r1, r2, r3, r4, r5, r6, r7⟩ := cells8_next HS.out hw'; go_simp <;> first | rfl | skip
        simp only [Act.put, List.setIfInBounds_toArray, List.set_cons_zero, List.set_cons_succ]
        refine' calm_call (by rfl) (.bool true) ?nx3017 (fun w' => ?hr3017) _ _ ?hn3017 (fun w' hw' => ?hc3017) ?rest3017
        case hr3017 => go_simp <;> rfl
        case hn3017 => rfl
        case hc3017 => exact (hmay2.out w' (HBW.out.trans (hw'.mono HBW.out.size))).mono (by rintro e w3 ⟨rfl, hb3⟩; exact ⟨rfl, below_chain hw' hb3⟩)
        simp only [Act.put, List.setIfInBounds_toArray, List.set_cons_zero, List.set_cons_succ]
        refine calm_take (by rfl) ?v3018 (fun w' hw' => ?hy3018) ?rest3018
        case hy3018 => go_simp <;> first | rfl | skip
        simp only [Act.put, List.setIfInBounds_toArray, List.set_cons_zero, List.set_cons_succ]
        refine calm_take (by rfl) ?v3019 (fun w' hw' => ?hy3019) ?rest3019
        case hy3019 => go_simp <;> first | rfl | skip
        simp only [Act.put, List.setIfInBounds_toArray, List.set_cons_zero, List.set_cons_succ]
        refine calm_take (by rfl) ?v3020 (fun w' hw' => ?hy3020) ?rest3020
        case hy3020 => go_simp <;> first | rfl | skip
        simp only [Act.put, List.setIfInBounds_toArray, List.set_cons_zero, List.set_cons_succ]
        refine wpQuiet_nil (fun w' hw' => ?_)
        go_wp2
        go_ret
        exact ⟨ret_int HD.out, HBW.out.trans (hw'.mono HBW.out.size)⟩
      | false =>
        refine wp_region_calm (by kernel_rfl) (by kernel_rfl) ?_
        refine calm_take (by rfl) ?v4000 (fun w' hw' => ?hy4000) ?rest4000
        case hy4000 => go_simp <;> first | rfl | skip
        simp only [Act.put, List.setIfInBounds_toArray, List.set_cons_zero, List.set_cons_succ]
        refine calm_take (by rfl) ?v4001 (fun w' hw' => ?hy4001) ?rest4001
        case hy4001 => obtain ⟨r0, r1, r2, r3, r4, r5, r6, r7⟩ := cells8_next HS.out hw'; go_simp <;> first | rfl | skip
        simp only [Act.put, List.setIfInBounds_toArray, List.set_cons_zero, List.set_cons_succ]
        refine' calm_call (by rfl) (.int .i64 0) ?nx4002 (fun w' => ?hr4002) _ _ ?hn4002 (fun w' hw' => ?hc4002) ?rest4002
        case hr4002 => go_simp <;> rfl
        case hn4002 => rfl
        case hc4002 => exact (hmask.out w' (HBW.out.trans (hw'.mono HBW.out.size))).mono (by rintro e w3 ⟨rfl, hb3⟩; rw [hme]; exact ⟨rfl, below_chain hw' hb3⟩)
        simp only [Act.put, List.setIfInBounds_toArray, List.set_cons_zero, List.set_cons_succ]
        refine calm_take (by rfl) ?v4003 (fun w' hw' => ?hy4003) ?rest4003
        case hy4003 => go_simp <;> first | rfl | skip
        simp only [Act.put, List.setIfInBounds_toArray, List.set_cons_zero, List.set_cons_succ]
        refine calm_take (by rfl) ?v4004 (fun w' hw' => ?hy4004) ?rest4004
        case hy4004 => go_simp <;> first | rfl | skip
        simp only [Act.put, List.setIfInBounds_toArray, List.set_cons_zero, List.set_cons_succ]
        refine calm_take (by rfl) ?v4005 (fun w' hw' => ?hy4005) ?rest4005
        case hy4005 => go_simp <;> first | rfl | skip
        simp only [Act.put, List.setIfInBounds_toArray, List.set_cons_zero, List.set_cons_succ]
        refine calm_take (by rfl) ?v4006 (fun w' hw' => ?hy4006) ?rest4006
        case hy4006 => go_simp <;> first | rfl | skip
        simp only [Act.put, List.setIfInBounds_toArray, List.set_cons_zero, List.set_cons_succ]
        refine calm_take (by rfl) ?v4007 (fun w' hw' => ?hy4007) ?rest4007
        case hy4007 => obtain ⟨r0, r1, r2, r3, r4, r5, r6, r7⟩ := cells8_next HS.out hw'; go_simp <;> first | rfl | skip
        simp only [Act.put, List.setIfInBounds_toArray, List.set_cons_zero, List.set_cons_succ]
        refine calm_take (by rfl) ?v4008 (fun w' hw' => ?hy4008) ?rest4008
        case hy4008 => go_simp <;> first | rfl | skip
        simp only [Act.put, List.setIfInBounds_toArray, List.set_cons_zero, List.set_cons_succ]
        refine calm_take (by rfl) ?v4009 (fun w' hw' => ?hy4009) ?rest4009
        case hy4009 => obtain ⟨r0, r1, r2, r3, r4, r5, r6, r7⟩ := cells8_next HS.out hw'; go_simp <;> first | rfl | skip
        simp only [Act.put, List.setIfInBounds_toArray, List.set_cons_zero, List.set_cons_succ]
        refine calm_take (by rfl) ?v4010 (fun w' hw' => ?hy4010) ?rest4010
        case hy4010 => go_simp <;> first | rfl | skip
        simp only [Act.put, List.setIfInBounds_toArray, List.set_cons_zero, List.set_cons_succ]
        refine calm_take (by rfl) ?v4011 (fun w' hw' => ?hy4011) ?rest4011
        case hy4011 => go_simp <;> first | rfl | skip
        simp only [Act.put, List.setIfInBounds_toArray, List.set_cons_zero, List.set_cons_succ]
        refine calm_take (by rfl) ?v4012 (fun w' hw' => ?hy4012) ?rest4012
        case hy4012 => go_simp <;> first | rfl | skip
        simp only [Act.put, List.setIfInBounds_toArray, List.set_cons_zero, List.set_cons_succ]
        refine calm_take (by rfl) ?v4013 (fun w' hw' => ?hy4013) ?rest4013
        case hy4013 => go_simp <;> first | rfl | skip
        simp only [Act.put, List.setIfInBounds_toArray, List.set_cons_zero, List.set_cons_succ]
        refine calm_take (by rfl) ?v4014 (fun w' hw' => ?hy4014) ?rest4014
        case hy4014 => obtain ⟨r0, r1, r2, r3, r4, r5, r6, r7⟩ := cells8_next HS.out hw'; go_simp <;> first | rfl | skip
        simp only [Act.put, List.setIfInBounds_toArray, List.set_cons_zero, List.set_cons_succ]
        refine' calm_call (by rfl) (.iface 125 (.agg #[])) ?nx4015 (fun w' => ?hr4015) _ _ ?hn4015 (fun w' hw' => ?hc4015) ?rest4015
        case hr4015 => go_simp <;> rfl
        case hn4015 => rfl
        case hc4015 => exact (of_r c.s _).mono (by rintro e w3 ⟨rfl, hb3⟩; exact ⟨rfl, below_chain hw' hb3⟩)
        simp only [Act.put, List.setIfInBounds_toArray, List.set_cons_zero, List.set_cons_succ]
        refine calm_take (by rfl) ?v4016 (fun w' hw' => ?hy4016) ?rest4016
        case hy4016 => obtain ⟨r0, r1, r2, r3, r4, r5, r6, r7⟩ := cells8_next HS.out hw'; go_simp <;> first | rfl | skip
        simp only [Act.put, List.setIfInBounds_toArray, List.set_cons_zero, List.set_cons_succ]
        refine' calm_call (by rfl) (.bool false) ?nx4017 (fun w' => ?hr4017) _ _ ?hn4017 (fun w' hw' => ?hc4017) ?rest4017
        case hr4017 => go_simp <;> rfl
        case hn4017 => rfl
        case hc4017 => exact (hmay2.out w' (HBW.out.trans (hw'.mono HBW.out.size))).mono (by rintro e w3 ⟨rfl, hb3⟩; exact ⟨rfl, below_chain hw' hb3⟩)
        simp only [Act.put, List.setIfInBounds_toArray, List.set_cons_zero, List.set_cons_succ]
        refine calm_take (by rfl) ?v4018 (fun w' hw' => ?hy4018) ?rest4018
        case hy4018 => go_simp <;> first | rfl | skip
        simp only [Act.put, List.setIfInBounds_toArray, List.set_cons_zero, List.set_cons_succ]
        refine calm_take (by rfl) ?v4019 (fun w' hw' => ?hy4019) ?rest4019
        case hy4019 => go_simp <;> first | rfl | skip
        simp only [Act.put, List.setIfInBounds_toArray, List.set_cons_zero, List.set_cons_succ]
        refine calm_take (by rfl) ?v4020 (fun w' hw' => ?hy4020) ?rest4020
        case hy4020 => go_simp <;> first | rfl | skip
        simp only [Act.put, List.setIfInBounds_toArray, List.set_cons_zero, List.set_cons_succ]
        refine wpQuiet_nil (fun w' hw' => ?_)
        go_wp2
        go_ret
        exact ⟨ret_int HD.out, HBW.out.trans (hw'.mono HBW.out.size)⟩
theorem check_c (c : Col) (hk : c.k = 16) (ho : okType c.k c.s = true) (hc : COK c) (B D E X : SL) (vals : List Value) (w : World) (h : RdC w c B D E X vals) : Calls Try.prog 30 #[colV c B D E X] w (IntP (checkC c) w) := by
  have HR := Aside.mk h
  have HC := Aside.mk hc
  have hmay := Aside.mk (fun (hn : c.n ≤ 8 * (c.bits.length : Int)) (w2 : World) (hb : Below w.heap.size w w2) => mayC_any c HC.out hn B D E X vals w2 (HR.out.below hb))
  have hmask := Aside.mk (fun (w2 : World) (hb : Below w.heap.size w w2) => maskCheck_any c.m c.bits B HC.out.lb HC.out.bits w2 (HR.out.bits.below hb))
  have hct := Aside.mk (fun w2 => by have := check_f2 c.k c.s w2; rw [ho] at this; exact this)
  have HMB := Aside.mk (show mayB c = mayCoded c by unfold mayB; rw [hk]; rfl)
  have HO := Aside.mk ho
  have HK := Aside.mk hk
  have HCV := Aside.mk (show colV c B D E X = .agg #[.int .i64 16, .int .i64 c.s, .int .i64 c.n, .int .i64 c.m, .slice B.a c.bits.length B.c, .slice D.a c.data.length D.c, .slice E.a c.ends.length E.c, .slice X.a c.words.length X.c] by rw [colV, hk])
  rw [hk] at hct
  rw [HCV.out] at hmay ⊢
  clear h hc ho hk
  go_enter Try.func30, Try.ntmps30
  go_wp2_with fail
  have HBW := Aside.mk (below_new w (.cells #[.int .i64 16, .int .i64 c.s, .int .i64 c.n, .int .i64 c.m, .slice B.a c.bits.length B.c, .slice D.a c.data.length D.c, .slice E.a c.ends.length E.c, .slice X.a c.words.length X.c] 43))
  have HS := Aside.mk (show Cells8 w.heap.size (.int .i64 16) (.int .i64 c.s) (.int .i64 c.n) (.int .i64 c.m) (.slice B.a c.bits.length B.c) (.slice D.a c.data.length D.c) (.slice E.a c.ends.length E.c) (.slice X.a c.words.length X.c) (w.alloc (.cells #[.int .i64 16, .int .i64 c.s, .int .i64 c.n, .int .i64 c.m, .slice B.a c.bits.length B.c, .slice D.a c.data.length D.c, .slice E.a c.ends.length E.c, .slice X.a c.words.length X.c] 43)) from box8 (heap_alloc_new w _))
  generalize hw1 : w.alloc (.cells #[.int .i64 16, .int .i64 c.s, .int .i64 c.n, .int .i64 c.m, .slice B.a c.bits.length B.c, .slice D.a c.data.length D.c, .slice E.a c.ends.length E.c, .slice X.a c.words.length X.c] 43) = w1 at *
  clear hw1
  refine (hct.out _).mono ?_
  rintro e w2 ⟨rfl, hb2⟩
  replace HBW := Aside.mk (HBW.out.trans (hb2.mono HBW.out.size))
  replace HS := Aside.mk (cells8_next HS.out hb2)
  clear hb2
  go_wp2
  obtain ⟨p0, p1, p2, p3, p4, p5, p6, p7⟩ := HS.out
  by_cases hm : maskOK c.m c.bits = true
  rotate_left
  · have hme : maskErr c.m c.bits = 160 := by rw [maskErr, if_neg hm]
    have HD := Aside.mk (checkC_mask HO.out (by simpa using hm))
    clear hm
    refine wp_region_calm (by kernel_rfl) (by kernel_rfl) ?_
    refine calm_take (by rfl) ?v5000 (fun w' hw' => ?hy5000) ?rest5000
    case hy5000 => go_simp <;> first | rfl | skip
    simp only [Act.put, List.setIfInBounds_toArray, List.set_cons_zero, List.set_cons_succ]
    refine calm_take (by rfl) ?v5001 (fun w' hw' => ?hy5001) ?rest5001
    case hy5001 => obtain ⟨r0, r1, r2, r3, r4, r5, r6, r7⟩ := cells8_next HS.out hw'; go_simp <;> first | rfl | skip
    simp only [Act.put, List.setIfInBounds_toArray, List.set_cons_zero, List.set_cons_succ]
    refine' calm_call (by rfl) (.int .i64 160) ?nx5002 (fun w' => ?hr5002) _ _ ?hn5002 (fun w' hw' => ?hc5002) ?rest5002
    case hr5002 => go_simp <;> rfl
    case hn5002 => rfl
    case hc5002 => exact (hmask.out w' (HBW.out.trans (hw'.mono HBW.out.size))).mono (by rintro e w3 ⟨rfl, hb3⟩; rw [hme]; exact ⟨rfl, below_chain hw' hb3⟩)
    simp only [Act.put, List.setIfInBounds_toArray, List.set_cons_zero, List.set_cons_succ]
    refine calm_take (by rfl) ?v5003 (fun w' hw' => ?hy5003) ?rest5003
    case hy5003 => go_simp <;> first | rfl | skip
    simp only [Act.put, List.setIfInBounds_toArray, List.set_cons_zero, List.set_cons_succ]
    refine calm_take (by rfl) ?v5004 (fun w' hw' => ?hy5004) ?rest5004
    case hy5004 => go_simp <;> first | rfl | skip
    simp only [Act.put, List.setIfInBounds_toArray, List.set_cons_zero, List.set_cons_succ]
    refine calm_skip (by rfl) ?_
    simp only [Act.put, List.setIfInBounds_toArray, List.set_cons_zero, List.set_cons_succ]
    refine calm_skip (by rfl) ?_
    simp only [Act.put, List.setIfInBounds_toArray, List.set_cons_zero, List.set_cons_succ]
    refine calm_skip (by rfl) ?_
    simp only [Act.put, List.setIfInBounds_toArray, List.set_cons_zero, List.set_cons_succ]
    refine calm_skip (by rfl) ?_
    simp only [Act.put, List.setIfInBounds_toArray, List.set_cons_zero, List.set_cons_succ]
    refine calm_skip (by rfl) ?_
    simp only [Act.put, List.setIfInBounds_toArray, List.set_cons_zero, List.set_cons_succ]
    refine calm_skip (by rfl) ?_
    simp only [Act.put, List.setIfInBounds_toArray, List.set_cons_zero, List.set_cons_succ]
    refine calm_take (by rfl) ?v5011 (fun w' hw' => ?hy5011) ?rest5011
    case hy5011 => go_simp <;> first | rfl | skip
    simp only [Act.put, List.setIfInBounds_toArray, List.set_cons_zero, List.set_cons_succ]
    refine calm_take (by rfl) ?v5012 (fun w' hw' => ?hy5012) ?rest5012
    case hy5012 => go_simp <;> first | rfl | skip
    simp only [Act.put, List.setIfInBounds_toArray, List.set_cons_zero, List.set_cons_succ]
    refine calm_skip (by rfl) ?_
    simp only [Act.put, List.setIfInBounds_toArray, List.set_cons_zero, List.set_cons_succ]
    refine calm_skip (by rfl) ?_
    simp only [Act.put, List.setIfInBounds_toArray, List.set_cons_zero, List.set_cons_succ]
    refine calm_skip (by rfl) ?_
    simp only [Act.put, List.setIfInBounds_toArray, List.set_cons_zero, List.set_cons_succ]
    refine calm_skip (by rfl) ?_
    simp only [Act.put, List.setIfInBounds_toArray, List.set_cons_zero, List.set_cons_succ]
    refine calm_skip (by rfl) ?_
    simp only [Act.put, List.setIfInBounds_toArray, List.set_cons_zero, List.set_cons_succ]
    refine calm_skip (by rfl) ?_
    simp only [Act.put, List.setIfInBounds_toArray, List.set_cons_zero, List.set_cons_succ]
    refine calm_take (by rfl) ?v5019 (fun w' hw' => ?hy5019) ?rest5019
    case hy5019 => go_simp <;> first | rfl | skip
    simp only [Act.put, List.setIfInBounds_toArray, List.set_cons_zero, List.set_cons_succ]
    refine calm_take (by rfl) ?v5020 (fun w' hw' => ?hy5020) ?rest5020
    case hy5020 => go_simp <;> first | rfl | skip
    simp only [Act.put, List.setIfInBounds_toArray, List.set_cons_zero, List.set_cons_succ]
    refine wpQuiet_nil (fun w' hw' => ?_)
    go_wp2
    go_ret
    exact ⟨ret_int HD.out, HBW.out.trans (hw'.mono HBW.out.size)⟩
  · have hme : maskErr c.m c.bits = 0 := by rw [maskErr, if_pos hm]
    by_cases hmn : c.m = c.n
    rotate_left
    · have hmn2 : (c.m != c.n) = true := by simpa using hmn
      have HD := Aside.mk (checkC_len HO.out hmn)
      clear hm hmn
      refine wp_region_calm (by kernel_rfl) (by kernel_rfl) ?_
      refine calm_take (by rfl) ?v6000 (fun w' hw' => ?hy6000) ?rest6000
      case hy6000 => go_simp <;> first | rfl | skip
      simp only [Act.put, List.setIfInBounds_toArray, List.set_cons_zero, List.set_cons_succ]
      refine calm_take (by rfl) ?v6001 (fun w' hw' => ?hy6001) ?rest6001
      case hy6001 => obtain ⟨r0, r1, r2, r3, r4, r5, r6, r7⟩ := cells8_next HS.out hw'; go_simp <;> first | rfl | skip
      simp only [Act.put, List.setIfInBounds_toArray, List.set_cons_zero, List.set_cons_succ]
      refine' calm_call (by rfl) (.int .i64 0) ?nx6002 (fun w' => ?hr6002) _ _ ?hn6002 (fun w' hw' => ?hc6002) ?rest6002
      case hr6002 => go_simp <;> rfl
      case hn6002 => rfl
      case hc6002 => exact (hmask.out w' (HBW.out.trans (hw'.mono HBW.out.size))).mono (by rintro e w3 ⟨rfl, hb3⟩; rw [hme]; exact ⟨rfl, below_chain hw' hb3⟩)
      simp only [Act.put, List.setIfInBounds_toArray, List.set_cons_zero, List.set_cons_succ]
      refine calm_take (by rfl) ?v6003 (fun w' hw' => ?hy6003) ?rest6003
      case hy6003 => go_simp <;> first | rfl | skip
      simp only [Act.put, List.setIfInBounds_toArray, List.set_cons_zero, List.set_cons_succ]
      refine calm_take (by rfl) ?v6004 (fun w' hw' => ?hy6004) ?rest6004
      case hy6004 => go_simp <;> first | rfl | skip
      simp only [Act.put, List.setIfInBounds_toArray, List.set_cons_zero, List.set_cons_succ]
      refine calm_take (by rfl) ?v6005 (fun w' hw' => ?hy6005) ?rest6005
      case hy6005 => go_simp <;> first | rfl | skip
      simp only [Act.put, List.setIfInBounds_toArray, List.set_cons_zero, List.set_cons_succ]
      refine calm_take (by rfl) ?v6006 (fun w' hw' => ?hy6006) ?rest6006
      case hy6006 => go_simp <;> first | rfl | skip
      simp only [Act.put, List.setIfInBounds_toArray, List.set_cons_zero, List.set_cons_succ]
      refine calm_take (by rfl) ?v6007 (fun w' hw' => ?hy6007) ?rest6007
      case hy6007 => obtain ⟨r0, r1, r2, r3, r4, r5, r6, r7⟩ := cells8_next HS.out hw'; go_simp <;> first | rfl | skip
      simp only [Act.put, List.setIfInBounds_toArray, List.set_cons_zero, List.set_cons_succ]
      refine calm_take (by rfl) ?v6008 (fun w' hw' => ?hy6008) ?rest6008
      case hy6008 => go_simp <;> first | rfl | skip
      simp only [Act.put, List.setIfInBounds_toArray, List.set_cons_zero, List.set_cons_succ]
      refine calm_take (by rfl) ?v6009 (fun w' hw' => ?hy6009) ?rest6009
      case hy6009 => obtain ⟨r0, r1, r2, r3, r4, r5, r6, r7⟩ := cells8_next HS.out hw'; go_simp <;> first | rfl | skip
      simp only [Act.put, List.setIfInBounds_toArray, List.set_cons_zero, List.set_cons_succ]
      refine calm_take (by rfl) ?v6010 (fun w' hw' => ?hy6010) ?rest6010
      case hy6010 => go_simp <;> first | rfl | skip
      simp only [Act.put, List.setIfInBounds_toArray, List.set_cons_zero, List.set_cons_succ]
      refine calm_take (by rfl) ?v6011 (fun w' hw' => ?hy6011) ?rest6011
      case hy6011 => go_simp <;> first | rfl | skip
      simp only [Act.put, List.setIfInBounds_toArray, List.set_cons_zero, List.set_cons_succ]
      refine calm_take (by rfl) ?v6012 (fun w' hw' => ?hy6012) ?rest6012
      case hy6012 => go_simp <;> first | rfl | skip
      simp only [Act.put, List.setIfInBounds_toArray, List.set_cons_zero, List.set_cons_succ]
      refine calm_skip (by rfl) ?_
      simp only [Act.put, List.setIfInBounds_toArray, List.set_cons_zero, List.set_cons_succ]
      refine calm_skip (by rfl) ?_
      simp only [Act.put, List.setIfInBounds_toArray, List.set_cons_zero, List.set_cons_succ]
      refine calm_skip (by rfl) ?_
      simp only [Act.put, List.setIfInBounds_toArray, List.set_cons_zero, List.set_cons_succ]
      refine calm_skip (by rfl) ?_
      simp only [Act.put, List.setIfInBounds_toArray, List.set_cons_zero, List.set_cons_succ]
      refine calm_skip (by rfl) ?_
      simp only [Act.put, List.setIfInBounds_toArray, List.set_cons_zero, List.set_cons_succ]
      refine calm_skip (by rfl) ?_
      simp only [Act.put, List.setIfInBounds_toArray, List.set_cons_zero, List.set_cons_succ]
      refine calm_take (by rfl) ?v6019 (fun w' hw' => ?hy6019) ?rest6019
      case hy6019 => go_simp <;> first | rfl | skip
      simp only [Act.put, List.setIfInBounds_toArray, List.set_cons_zero, List.set_cons_succ]
      refine calm_take (by rfl) ?v6020 (fun w' hw' => ?hy6020) ?rest6020
      case hy6020 => go_simp <;> first | rfl | skip
      simp only [Act.put, List.setIfInBounds_toArray, List.set_cons_zero, List.set_cons_succ]
      refine wpQuiet_nil (fun w' hw' => ?_)
      go_wp2
      go_ret
      exact ⟨ret_int HD.out, HBW.out.trans (hw'.mono HBW.out.size)⟩
    · have hmn2 : (c.m != c.n) = false := by simpa using hmn
      have HD := Aside.mk (checkC_may HO.out hm hmn)
      have hmay2 := Aside.mk (hmay.out (by rw [← hmn]; exact mask_room hm))
      rw [HMB.out] at HD
      clear hm hmn hmay
      generalize mayCoded c = mb at *
      cases mb with
      | true =>
        refine wp_region_calm (by kernel_rfl) (by kernel_rfl) ?_
        refine calm_take (by rfl) ?v7000 (fun w' hw' => ?hy7000) ?rest7000
        case hy7000 => go_simp <;> first | rfl | skip
        simp only [Act.put, List.setIfInBounds_toArray, List.set_cons_zero, List.set_cons_succ]
        refine calm_take (by rfl) ?v7001 (fun w' hw' => ?hy7001) ?rest7001
        case hy7001 => obtain ⟨r0, r1, r2, r3, r4, r5, r6, r7⟩ := cells8_next HS.out hw'; go_simp <;> first | rfl | skip
        simp only [Act.put, List.setIfInBounds_toArray, List.set_cons_zero, List.set_cons_succ]
        refine' calm_call (by rfl) (.int .i64 0) ?nx7002 (fun w' => ?hr7002) _ _ ?hn7002 (fun w' hw' => ?hc7002) ?rest7002
        case hr7002 => go_simp <;> rfl
        case hn7002 => rfl
        case hc7002 => exact (hmask.out w' (HBW.out.trans (hw'.mono HBW.out.size))).mono (by rintro e w3 ⟨rfl, hb3⟩; rw [hme]; exact ⟨rfl, below_chain hw' hb3⟩)
        simp only [Act.put, List.setIfInBounds_toArray, List.set_cons_zero, List.set_cons_succ]
        refine calm_take (by rfl) ?v7003 (fun w' hw' => ?hy7003) ?rest7003
        case hy7003 => go_simp <;> first | rfl | skip
        simp only [Act.put, List.setIfInBounds_toArray, List.set_cons_zero, List.set_cons_succ]
        refine calm_take (by rfl) ?v7004 (fun w' hw' => ?hy7004) ?rest7004
        case hy7004 => go_simp <;> first | rfl | skip
        simp only [Act.put, List.setIfInBounds_toArray, List.set_cons_zero, List.set_cons_succ]
        refine calm_take (by rfl) ?v7005 (fun w' hw' => ?hy7005) ?rest7005
        case hy7005 => go_simp <;> first | rfl | skip
        simp only [Act.put, List.setIfInBounds_toArray, List.set_cons_zero, List.set_cons_succ]
        refine calm_take (by rfl) ?v7006 (fun w' hw' => ?hy7006) ?rest7006
        case hy7006 => go_simp <;> first | rfl | skip
        simp only [Act.put, List.setIfInBounds_toArray, List.set_cons_zero, List.set_cons_succ]
        refine calm_take (by rfl) ?v7007 (fun w' hw' => ?hy7007) ?rest7007
        case hy7007 => obtain ⟨r0, r1, r2, r3, r4, r5, r6, r7⟩ := cells8_next HS.out hw'; go_simp <;> first | rfl | skip
        simp only [Act.put, List.setIfInBounds_toArray, List.set_cons_zero, List.set_cons_succ]
        refine calm_take (by rfl) ?v7008 (fun w' hw' => ?hy7008) ?rest7008
        case hy7008 => go_simp <;> first | rfl | skip
        simp only [Act.put, List.setIfInBounds_toArray, List.set_cons_zero, List.set_cons_succ]
        refine calm_take (by rfl) ?v7009 (fun w' hw' => ?hy7009) ?rest7009
        case hy7009 => obtain ⟨r0, r1, r2, r3, r4, r5, r6, r7⟩ := cells8_next HS.out hw'; go_simp <;> first | rfl | skip
        simp only [Act.put, List.setIfInBounds_toArray, List.set_cons_zero, List.set_cons_succ]
        refine calm_take (by rfl) ?v7010 (fun w' hw' => ?hy7010) ?rest7010
        case hy7010 => go_simp <;> first | rfl | skip
        simp only [Act.put, List.setIfInBounds_toArray, List.set_cons_zero, List.set_cons_succ]
        refine calm_take (by rfl) ?v7011 (fun w' hw' => ?hy7011) ?rest7011
        case hy7011 => go_simp <;> first | rfl | skip
        simp only [Act.put, List.setIfInBounds_toArray, List.set_cons_zero, List.set_cons_succ]
        refine calm_take (by rfl) ?v7012 (fun w' hw' => ?hy7012) ?rest7012
        case hy7012 => go_simp <;> first | rfl | skip
        simp only [Act.put, List.setIfInBounds_toArray, List.set_cons_zero, List.set_cons_succ]
        refine calm_take (by rfl) ?v7013 (fun w' hw' => ?hy7013) ?rest7013
        case hy7013 => go_simp <;> first | rfl | skip
        simp only [Act.put, List.setIfInBounds_toArray, List.set_cons_zero, List.set_cons_succ]
        refine calm_take (by rfl) ?v7014 (fun w' hw' => ?hy7014) ?rest7014
        case hy7014 => obtain ⟨r0, r1, r2, r3, r4, r5, r6, r7⟩ := cells8_next HS.out hw'; go_simp <;> first | rfl | skip
        simp only [Act.put, List.setIfInBounds_toArray, List.set_cons_zero, List.set_cons_succ]
        refine' calm_call (by rfl) (.iface 130 (.agg #[.int .i64 4])) ?nx7015 (fun w' => ?hr7015) _ _ ?hn7015 (fun w' hw' => ?hc7015) ?rest7015
        case hr7015 => go_simp <;> rfl
        case hn7015 => rfl
        case hc7015 => exact (of_c c.s _).mono (by rintro e w3 ⟨rfl, hb3⟩; exact ⟨rfl, below_chain hw' hb3⟩)
        simp only [Act.put, List.setIfInBounds_toArray, List.set_cons_zero, List.set_cons_succ]
        refine calm_take (by rfl) ?v7016 (fun w' hw' => ?hy7016) ?rest7016
        case hy7016 => obtain ⟨r0, r1, r2, r3, r4, r5, r6, r7⟩ := cells8_next HS.out hw'; go_simp <;> first | rfl | skip
        simp only [Act.put, List.setIfInBounds_toArray, List.set_cons_zero, List.set_cons_succ]
        refine' calm_call (by rfl) (.bool true) ?nx7017 (fun w' => ?hr7017) _ _ ?hn7017 (fun w' hw' => ?hc7017) ?rest7017
        case hr7017 => go_simp <;> rfl
        case hn7017 => rfl
        case hc7017 => exact (hmay2.out w' (HBW.out.trans (hw'.mono HBW.out.size))).mono (by rintro e w3 ⟨rfl, hb3⟩; exact ⟨rfl, below_chain hw' hb3⟩)
        simp only [Act.put, List.setIfInBounds_toArray, List.set_cons_zero, List.set_cons_succ]
        refine calm_take (by rfl) ?v7018 (fun w' hw' => ?hy7018) ?rest7018
        case hy7018 => go_simp <;> first | rfl | skip
        simp only [Act.put, List.setIfInBounds_toArray, List.set_cons_zero, List.set_cons_succ]
        refine calm_take (by rfl) ?v7019 (fun w' hw' => ?hy7019) ?rest7019
        case hy7019 => go_simp <;> first | rfl | skip
        simp only [Act.put, List.setIfInBounds_toArray, List.set_cons_zero, List.set_cons_succ]
        refine calm_take (by rfl) ?v7020 (fun w' hw' => ?hy7020) ?rest7020
        case hy7020 => go_simp <;> first | rfl | skip
        simp only [Act.put, List.setIfInBounds_toArray, List.set_cons_zero, List.set_cons_succ]
        refine wpQuiet_nil (fun w' hw' => ?_)
        go_wp2
        go_ret
        exact ⟨ret_int HD.out, HBW.out.trans (hw'.mono HBW.out.size)⟩
      | false =>
        refine wp_region_calm (by kernel_rfl) (by kernel_rfl) ?_
        refine calm_take (by rfl) ?v8000 (fun w' hw' => ?hy8000) ?rest8000
        case hy8000 => go_simp <;> first | rfl | skip
        simp only [Act.put, List.setIfInBounds_toArray, List.set_cons_zero, List.set_cons_succ]
        refine calm_take (by rfl) ?v8001 (fun w' hw' => ?hy8001) ?rest8001
        case hy8001 => obtain ⟨r0, r1, r2, r3, r4, r5, r6, r7⟩ := cells8_next HS.out hw'; go_simp <;> first | rfl | skip
        simp only [Act.put, List.setIfInBounds_toArray, List.set_cons_zero, List.set_cons_succ]
        refine' calm_call (by rfl) (.int .i64 0) ?nx8002 (fun w' => ?hr8002) _ _ ?hn8002 (fun w' hw' => ?hc8002) ?rest8002
        case hr8002 => go_simp <;> rfl
        case hn8002 => rfl
        case hc8002 => exact (hmask.out w' (HBW.out.trans (hw'.mono HBW.out.size))).mono (by rintro e w3 ⟨rfl, hb3⟩; rw [hme]; exact ⟨rfl, below_chain hw' hb3⟩)
        simp only [Act.put, List.setIfInBounds_toArray, List.set_cons_zero, List.set_cons_succ]
        refine calm_take (by rfl) ?v8003 (fun w' hw' => ?hy8003) ?rest8003
        case hy8003 => go_simp <;> first | rfl | skip
        simp only [Act.put, List.setIfInBounds_toArray, List.set_cons_zero, List.set_cons_succ]
        refine calm_take (by rfl) ?v8004 (fun w' hw' => ?hy8004) ?rest8004
        case hy8004 => go_simp <;> first | rfl | skip
        simp only [Act.put, List.setIfInBounds_toArray, List.set_cons_zero, List.set_cons_succ]
        refine calm_take (by rfl) ?v8005 (fun w' hw' => ?hy8005) ?rest8005
        case hy8005 => go_simp <;> first | rfl | skip
        simp only [Act.put, List.setIfInBounds_toArray, List.set_cons_zero, List.set_cons_succ]
        refine calm_take (by rfl) ?v8006 (fun w' hw' => ?hy8006) ?rest8006
        case hy8006 => go_simp <;> first | rfl | skip
        simp only [Act.put, List.setIfInBounds_toArray, List.set_cons_zero, List.set_cons_succ]
        refine calm_take (by rfl) ?v8007 (fun w' hw' => ?hy8007) ?rest8007
        case hy8007 => obtain ⟨r0, r1, r2, r3, r4, r5, r6, r7⟩ := cells8_next HS.out hw'; go_simp <;> first | rfl | skip
        simp only [Act.put, List.setIfInBounds_toArray, List.set_cons_zero, List.set_cons_succ]
        refine calm_take (by rfl) ?v8008 (fun w' hw' => ?hy8008) ?rest8008
        case hy8008 => go_simp <;> first | rfl | skip
        simp only [Act.put, List.setIfInBounds_toArray, List.set_cons_zero, List.set_cons_succ]
        refine calm_take (by rfl) ?v8009 (fun w' hw' => ?hy8009) ?rest8009
        case hy8009 => obtain ⟨r0, r1, r2, r3, r4, r5, r6, r7⟩ := cells8_next HS.out hw'; go_simp <;> first | rfl | skip
        simp only [Act.put, List.setIfInBounds_toArray, List.set_cons_zero, List.set_cons_succ]
        refine calm_take (by rfl) ?v8010 (fun w' hw' => ?hy8010) ?rest8010
        case hy8010 => go_simp <;> first | rfl | skip
        simp only [Act.put, List.setIfInBounds_toArray, List.set_cons_zero, List.set_cons_succ]
        refine calm_take (by rfl) ?v8011 (fun w' hw' => ?hy8011) ?rest8011
        case hy8011 => go_simp <;> first | rfl | skip
        simp only [Act.put, List.setIfInBounds_toArray, List.set_cons_zero, List.set_cons_succ]
        refine calm_take (by rfl) ?v8012 (fun w' hw' => ?hy8012) ?rest8012
        case hy8012 => go_simp <;> first | rfl | skip
        simp only [Act.put, List.setIfInBounds_toArray, List.set_cons_zero, List.set_cons_succ]
        refine calm_take (by rfl) ?v8013 (fun w' hw' => ?hy8013) ?rest8013
        case hy8013 => go_simp <;> first | rfl | skip
        simp only [Act.put, List.setIfInBounds_toArray, List.set_cons_zero, List.set_cons_succ]
        refine calm_take (by rfl) ?v8014 (fun w' hw' => ?hy8014) ?rest8014
        case hy8014 => obtain ⟨r0, r1, r2, r3, r4, r5, r6, r7⟩ := cells8_next HS.out hw'; go_simp <;> first | rfl | skip
        simp only [Act.put, List.setIfInBounds_toArray, List.set_cons_zero, List.set_cons_succ]
        refine' calm_call (by rfl) (.iface 130 (.agg #[.int .i64 4])) ?nx8015 (fun w' => ?hr8015) _ _ ?hn8015 (fun w' hw' => ?hc8015) ?rest8015
        case hr8015 => go_simp <;> rfl
        case hn8015 => rfl
        case hc8015 => exact (of_c c.s _).mono (by rintro e w3 ⟨rfl, hb3⟩; exact ⟨rfl, below_chain hw' hb3⟩)
        simp only [Act.put, List.setIfInBounds_toArray, List.set_cons_zero, List.set_cons_succ]
        refine calm_take (by rfl) ?v8016 (fun w' hw' => ?hy8016) ?rest8016
        case hy8016 => obtain ⟨r0, r1, r2, r3, r4, r5, r6, r7⟩ := cells8_next HS.out hw'; go_simp <;> first | rfl | skip
        simp only [Act.put, List.setIfInBounds_toArray, List.set_cons_zero, List.set_cons_succ]
        refine' calm_call (by rfl) (.bool false) ?nx8017 (fun w' => ?hr8017) _ _ ?hn8017 (fun w' hw' => ?hc8017) ?rest8017
        case hr8017 => go_simp <;> rfl
        case hn8017 => rfl
        case hc8017 => exact (hmay2.out w' (HBW.out.trans (hw'.mono HBW.out.size))).mono (by rintro e w3 ⟨rfl, hb3⟩; exact ⟨rfl, below_chain hw' hb3⟩)
        simp only [Act.put, List.setIfInBounds_toArray, List.set_cons_zero, List.set_cons_succ]
        refine calm_take (by rfl) ?v8018 (fun w' hw' => ?hy8018) ?rest8018
        case hy8018 => go_simp <;> first | rfl | skip
        simp only [Act.put, List.setIfInBounds_toArray, List.set_cons_zero, List.set_cons_succ]
        refine calm_take (by rfl) ?v8019 (fun w' hw' => ?hy8019) ?rest8019
        case hy8019 => go_simp <;> first | rfl | skip
        simp only [Act.put, List.setIfInBounds_toArray, List.set_cons_zero, List.set_cons_succ]
        refine calm_take (by rfl) ?v8020 (fun w' hw' => ?hy8020) ?rest8020
        case hy8020 => go_simp <;> first | rfl | skip
        simp only [Act.put, List.setIfInBounds_toArray, List.set_cons_zero, List.set_cons_succ]
        refine wpQuiet_nil (fun w' hw' => ?_)
        go_wp2
        go_ret
        exact ⟨ret_int HD.out, HBW.out.trans (hw'.mono HBW.out.size)⟩
theorem check_f (c : Col) (h1 : c.k ≠ 15) (h2 : c.k ≠ 16) {W : Nat} (hW : widthOf c.k = (W : Int)) (hW8 : W = 1 ∨ W = 2 ∨ W = 4 ∨ W = 8) (ho : okType c.k c.s = true) (hc : COK c) (B D E X : SL) (vals : List Value) (w : World) (h : RdC w c B D E X vals) : Calls Try.prog 30 #[colV c B D E X] w (IntP (checkC c) w) := by
  have HR := Aside.mk h
  have HC := Aside.mk hc
  have hmay := Aside.mk (fun (hn : c.n ≤ 8 * (c.bits.length : Int)) (w2 : World) (hb : Below w.heap.size w w2) => mayF_any W hW8 c HC.out hn B D E X vals w2 (HR.out.below hb))
  have hmask := Aside.mk (fun (w2 : World) (hb : Below w.heap.size w w2) => maskCheck_any c.m c.bits B HC.out.lb HC.out.bits w2 (HR.out.bits.below hb))
  have hct := Aside.mk (fun w2 => by have := check_f2 c.k c.s w2; rw [ho] at this; exact this)
  have HMB := Aside.mk (show mayB c = mayFixed c.k c.s W c by unfold mayB; rw [if_neg h1, if_neg h2, hW]; rfl)
  have HO := Aside.mk ho
  have H1 := Aside.mk h1
  have H2 := Aside.mk h2
  have HWW := Aside.mk hW
  clear h hc ho h1 h2 hW
  dsimp only [colV] at hmay ⊢
  go_enter Try.func30, Try.ntmps30
  go_wp2_with fail
  have HBW := Aside.mk (below_new w (.cells #[.int .i64 c.k, .int .i64 c.s, .int .i64 c.n, .int .i64 c.m, .slice B.a c.bits.length B.c, .slice D.a c.data.length D.c, .slice E.a c.ends.length E.c, .slice X.a c.words.length X.c] 43))
  have HS := Aside.mk (show Cells8 w.heap.size (.int .i64 c.k) (.int .i64 c.s) (.int .i64 c.n) (.int .i64 c.m) (.slice B.a c.bits.length B.c) (.slice D.a c.data.length D.c) (.slice E.a c.ends.length E.c) (.slice X.a c.words.length X.c) (w.alloc (.cells #[.int .i64 c.k, .int .i64 c.s, .int .i64 c.n, .int .i64 c.m, .slice B.a c.bits.length B.c, .slice D.a c.data.length D.c, .slice E.a c.ends.length E.c, .slice X.a c.words.length X.c] 43)) from box8 (heap_alloc_new w _))
  generalize hw1 : w.alloc (.cells #[.int .i64 c.k, .int .i64 c.s, .int .i64 c.n, .int .i64 c.m, .slice B.a c.bits.length B.c, .slice D.a c.data.length D.c, .slice E.a c.ends.length E.c, .slice X.a c.words.length X.c] 43) = w1 at *
  clear hw1
  refine (hct.out _).mono ?_
  rintro e w2 ⟨rfl, hb2⟩
  replace HBW := Aside.mk (HBW.out.trans (hb2.mono HBW.out.size))
  replace HS := Aside.mk (cells8_next HS.out hb2)
  clear hb2
  go_wp2
  obtain ⟨p0, p1, p2, p3, p4, p5, p6, p7⟩ := HS.out
  by_cases hm : maskOK c.m c.bits = true
  rotate_left
  · have hme : maskErr c.m c.bits = 160 := by rw [maskErr, if_neg hm]
    have HD := Aside.mk (checkC_mask HO.out (by simpa using hm))
    clear hm
    refine wp_region_calm (by kernel_rfl) (by kernel_rfl) ?_
    refine calm_take (by rfl) ?v9000 (fun w' hw' => ?hy9000) ?rest9000
    case hy9000 => go_simp <;> first | rfl | skip
    simp only [Act.put, List.setIfInBounds_toArray, List.set_cons_zero, List.set_cons_succ]
    refine calm_take (by rfl) ?v9001 (fun w' hw' => ?hy9001) ?rest9001
    case hy9001 => obtain ⟨r0, r1, r2, r3, r4, r5, r6, r7⟩ := cells8_next HS.out hw'; go_simp <;> first | rfl | skip
    simp only [Act.put, List.setIfInBounds_toArray, List.set_cons_zero, List.set_cons_succ]
    refine' calm_call (by rfl) (.int .i64 160) ?nx9002 (fun w' => ?hr9002) _ _ ?hn9002 (fun w' hw' => ?hc9002) ?rest9002
    case hr9002 => go_simp <;> rfl
    case hn9002 => rfl
    case hc9002 => exact (hmask.out w' (HBW.out.trans (hw'.mono HBW.out.size))).mono (by rintro e w3 ⟨rfl, hb3⟩; rw [hme]; exact ⟨rfl, below_chain hw' hb3⟩)
    simp only [Act.put, List.setIfInBounds_toArray, List.set_cons_zero, List.set_cons_succ]
    refine calm_take (by rfl) ?v9003 (fun w' hw' => ?hy9003) ?rest9003
    case hy9003 => go_simp <;> first | rfl | skip
    simp only [Act.put, List.setIfInBounds_toArray, List.set_cons_zero, List.set_cons_succ]
    refine calm_take (by rfl) ?v9004 (fun w' hw' => ?hy9004) ?rest9004
    case hy9004 => go_simp <;> first | rfl | skip
    simp only [Act.put, List.setIfInBounds_toArray, List.set_cons_zero, List.set_cons_succ]
    refine calm_skip (by rfl) ?_
    simp only [Act.put, List.setIfInBounds_toArray, List.set_cons_zero, List.set_cons_succ]
    refine calm_skip (by rfl) ?_
    simp only [Act.put, List.setIfInBounds_toArray, List.set_cons_zero, List.set_cons_succ]
    refine calm_skip (by rfl) ?_
    simp only [Act.put, List.setIfInBounds_toArray, List.set_cons_zero, List.set_cons_succ]
    refine calm_skip (by rfl) ?_
    simp only [Act.put, List.setIfInBounds_toArray, List.set_cons_zero, List.set_cons_succ]
    refine calm_skip (by rfl) ?_
    simp only [Act.put, List.setIfInBounds_toArray, List.set_cons_zero, List.set_cons_succ]
    refine calm_skip (by rfl) ?_
    simp only [Act.put, List.setIfInBounds_toArray, List.set_cons_zero, List.set_cons_succ]
    refine calm_take (by rfl) ?v9011 (fun w' hw' => ?hy9011) ?rest9011
    case hy9011 => go_simp <;> first | rfl | skip
    simp only [Act.put, List.setIfInBounds_toArray, List.set_cons_zero, List.set_cons_succ]
    refine calm_take (by rfl) ?v9012 (fun w' hw' => ?hy9012) ?rest9012
    case hy9012 => go_simp <;> first | rfl | skip
    simp only [Act.put, List.setIfInBounds_toArray, List.set_cons_zero, List.set_cons_succ]
    refine calm_skip (by rfl) ?_
    simp only [Act.put, List.setIfInBounds_toArray, List.set_cons_zero, List.set_cons_succ]
    refine calm_skip (by rfl) ?_
    simp only [Act.put, List.setIfInBounds_toArray, List.set_cons_zero, List.set_cons_succ]
    refine calm_skip (by rfl) ?_
    simp only [Act.put, List.setIfInBounds_toArray, List.set_cons_zero, List.set_cons_succ]
    refine calm_skip (by rfl) ?_
    simp only [Act.put, List.setIfInBounds_toArray, List.set_cons_zero, List.set_cons_succ]
    refine calm_skip (by rfl) ?_
    simp only [Act.put, List.setIfInBounds_toArray, List.set_cons_zero, List.set_cons_succ]
    refine calm_skip (by rfl) ?_
    simp only [Act.put, List.setIfInBounds_toArray, List.set_cons_zero, List.set_cons_succ]
    refine calm_take (by rfl) ?v9019 (fun w' hw' => ?hy9019) ?rest9019
    case hy9019 => go_simp <;> first | rfl | skip
    simp only [Act.put, List.setIfInBounds_toArray, List.set_cons_zero, List.set_cons_succ]
    refine calm_take (by rfl) ?v9020 (fun w' hw' => ?hy9020) ?rest9020
    case hy9020 => go_simp <;> first | rfl | skip
    simp only [Act.put, List.setIfInBounds_toArray, List.set_cons_zero, List.set_cons_succ]
    refine wpQuiet_nil (fun w' hw' => ?_)
    go_wp2
    go_ret
    exact ⟨ret_int HD.out, HBW.out.trans (hw'.mono HBW.out.size)⟩
  · have hme : maskErr c.m c.bits = 0 := by rw [maskErr, if_pos hm]
    by_cases hmn : c.m = c.n
    rotate_left
    · have hmn2 : (c.m != c.n) = true := by simpa using hmn
      have HD := Aside.mk (checkC_len HO.out hmn)
      clear hm hmn
      refine wp_region_calm (by kernel_rfl) (by kernel_rfl) ?_
      refine calm_take (by rfl) ?v10000 (fun w' hw' => ?hy10000) ?rest10000
      case hy10000 => go_simp <;> first | rfl | skip
      simp only [Act.put, List.setIfInBounds_toArray, List.set_cons_zero, List.set_cons_succ]
      refine calm_take (by rfl) ?v10001 (fun w' hw' => ?hy10001) ?rest10001
      case hy10001 => obtain ⟨r0, r1, r2, r3, r4, r5, r6, r7⟩ := cells8_next HS.out hw'; go_simp <;> first | rfl | skip
      simp only [Act.put, List.setIfInBounds_toArray, List.set_cons_zero, List.set_cons_succ]
      refine' calm_call (by rfl) (.int .i64 0) ?nx10002 (fun w' => ?hr10002) _ _ ?hn10002 (fun w' hw' => ?hc10002) ?rest10002
      case hr10002 => go_simp <;> rfl
      case hn10002 => rfl
      case hc10002 => exact (hmask.out w' (HBW.out.trans (hw'.mono HBW.out.size))).mono (by rintro e w3 ⟨rfl, hb3⟩; rw [hme]; exact ⟨rfl, below_chain hw' hb3⟩)
      simp only [Act.put, List.setIfInBounds_toArray, List.set_cons_zero, List.set_cons_succ]
      refine calm_take (by rfl) ?v10003 (fun w' hw' => ?hy10003) ?rest10003
      case hy10003 => go_simp <;> first | rfl | skip
      simp only [Act.put, List.setIfInBounds_toArray, List.set_cons_zero, List.set_cons_succ]
      refine calm_take (by rfl) ?v10004 (fun w' hw' => ?hy10004) ?rest10004
      case hy10004 => go_simp <;> first | rfl | skip
      simp only [Act.put, List.setIfInBounds_toArray, List.set_cons_zero, List.set_cons_succ]
      refine calm_take (by rfl) ?v10005 (fun w' hw' => ?hy10005) ?rest10005
      case hy10005 => go_simp <;> first | rfl | skip
      simp only [Act.put, List.setIfInBounds_toArray, List.set_cons_zero, List.set_cons_succ]
      refine calm_take (by rfl) ?v10006 (fun w' hw' => ?hy10006) ?rest10006
      case hy10006 => go_simp <;> first | rfl | skip
      simp only [Act.put, List.setIfInBounds_toArray, List.set_cons_zero, List.set_cons_succ]
      refine calm_take (by rfl) ?v10007 (fun w' hw' => ?hy10007) ?rest10007
      case hy10007 => obtain ⟨r0, r1, r2, r3, r4, r5, r6, r7⟩ := cells8_next HS.out hw'; go_simp <;> first | rfl | skip
      simp only [Act.put, List.setIfInBounds_toArray, List.set_cons_zero, List.set_cons_succ]
      refine calm_take (by rfl) ?v10008 (fun w' hw' => ?hy10008) ?rest10008
      case hy10008 => go_simp <;> first | rfl | skip
      simp only [Act.put, List.setIfInBounds_toArray, List.set_cons_zero, List.set_cons_succ]
      refine calm_take (by rfl) ?v10009 (fun w' hw' => ?hy10009) ?rest10009
      case hy10009 => obtain ⟨r0, r1, r2, r3, r4, r5, r6, r7⟩ := cells8_next HS.out hw'; go_simp <;> first | rfl | skip
      simp only [Act.put, List.setIfInBounds_toArray, List.set_cons_zero, List.set_cons_succ]
      refine calm_take (by rfl) ?v10010 (fun w' hw' => ?hy10010) ?rest10010
      case hy10010 => go_simp <;> first | rfl | skip
      simp only [Act.put, List.setIfInBounds_toArray, List.set_cons_zero, List.set_cons_succ]
      refine calm_take (by rfl) ?v10011 (fun w' hw' => ?hy10011) ?rest10011
      case hy10011 => go_simp <;> first | rfl | skip
      simp only [Act.put, List.setIfInBounds_toArray, List.set_cons_zero, List.set_cons_succ]
      refine calm_take (by rfl) ?v10012 (fun w' hw' => ?hy10012) ?rest10012
      case hy10012 => go_simp <;> first | rfl | skip
      simp only [Act.put, List.setIfInBounds_toArray, List.set_cons_zero, List.set_cons_succ]
      refine calm_skip (by rfl) ?_
      simp only [Act.put, List.setIfInBounds_toArray, List.set_cons_zero, List.set_cons_succ]
      refine calm_skip (by rfl) ?_
      simp only [Act.put, List.setIfInBounds_toArray, List.set_cons_zero, List.set_cons_succ]
      refine calm_skip (by rfl) ?_
      simp only [Act.put, List.setIfInBounds_toArray, List.set_cons_zero, List.set_cons_succ]
      refine calm_skip (by rfl) ?_
      simp only [Act.put, List.setIfInBounds_toArray, List.set_cons_zero, List.set_cons_succ]
      refine calm_skip (by rfl) ?_
      simp only [Act.put, List.setIfInBounds_toArray, List.set_cons_zero, List.set_cons_succ]
      refine calm_skip (by rfl) ?_
      simp only [Act.put, List.setIfInBounds_toArray, List.set_cons_zero, List.set_cons_succ]
      refine calm_take (by rfl) ?v10019 (fun w' hw' => ?hy10019) ?rest10019
      case hy10019 => go_simp <;> first | rfl | skip
      simp only [Act.put, List.setIfInBounds_toArray, List.set_cons_zero, List.set_cons_succ]
      refine calm_take (by rfl) ?v10020 (fun w' hw' => ?hy10020) ?rest10020
      case hy10020 => go_simp <;> first | rfl | skip
      simp only [Act.put, List.setIfInBounds_toArray, List.set_cons_zero, List.set_cons_succ]
      refine wpQuiet_nil (fun w' hw' => ?_)
      go_wp2
      go_ret
      exact ⟨ret_int HD.out, HBW.out.trans (hw'.mono HBW.out.size)⟩
    · have hmn2 : (c.m != c.n) = false := by simpa using hmn
      have HD := Aside.mk (checkC_may HO.out hm hmn)
      have hmay2 := Aside.mk (hmay.out (by rw [← hmn]; exact mask_room hm))
      rw [HMB.out] at HD
      clear hm hmn hmay
      generalize mayFixed c.k c.s W c = mb at *
      cases mb with
      | true =>
        refine wp_region_calm (by kernel_rfl) (by kernel_rfl) ?_
        refine calm_take (by rfl) ?v11000 (fun w' hw' => ?hy11000) ?rest11000
        case hy11000 => go_simp <;> first | rfl | skip
        simp only [Act.put, List.setIfInBounds_toArray, List.set_cons_zero, List.set_cons_succ]
        refine calm_take (by rfl) ?v11001 (fun w' hw' => ?hy11001) ?rest11001
        case hy11001 => obtain ⟨r0, r1, r2, r3, r4, r5, r6, r7⟩ := cells8_next HS.out hw'; go_simp <;> first | rfl | skip
        simp only [Act.put, List.setIfInBounds_toArray, List.set_cons_zero, List.set_cons_succ]
        refine' calm_call (by rfl) (.int .i64 0) ?nx11002 (fun w' => ?hr11002) _ _ ?hn11002 (fun w' hw' => ?hc11002) ?rest11002
        case hr11002 => go_simp <;> rfl
        case hn11002 => rfl
        case hc11002 => exact (hmask.out w' (HBW.out.trans (hw'.mono HBW.out.size))).mono (by rintro e w3 ⟨rfl, hb3⟩; rw [hme]; exact ⟨rfl, below_chain hw' hb3⟩)
        simp only [Act.put, List.setIfInBounds_toArray, List.set_cons_zero, List.set_cons_succ]
        refine calm_take (by rfl) ?v11003 (fun w' hw' => ?hy11003) ?rest11003
        case hy11003 => go_simp <;> first | rfl | skip
        simp only [Act.put, List.setIfInBounds_toArray, List.set_cons_zero, List.set_cons_succ]
        refine calm_take (by rfl) ?v11004 (fun w' hw' => ?hy11004) ?rest11004
        case hy11004 => go_simp <;> first | rfl | skip
        simp only [Act.put, List.setIfInBounds_toArray, List.set_cons_zero, List.set_cons_succ]
        refine calm_take (by rfl) ?v11005 (fun w' hw' => ?hy11005) ?rest11005
        case hy11005 => go_simp <;> first | rfl | skip
        simp only [Act.put, List.setIfInBounds_toArray, List.set_cons_zero, List.set_cons_succ]
        refine calm_take (by rfl) ?v11006 (fun w' hw' => ?hy11006) ?rest11006
        case hy11006 => go_simp <;> first | rfl | skip
        simp only [Act.put, List.setIfInBounds_toArray, List.set_cons_zero, List.set_cons_succ]
        refine calm_take (by rfl) ?v11007 (fun w' hw' => ?hy11007) ?rest11007
        case hy11007 => obtain ⟨r0, r1, r2, r3, r4, r5, r6, r7⟩ := cells8_next HS.out hw'; go_simp <;> first | rfl | skip
        simp only [Act.put, List.setIfInBounds_toArray, List.set_cons_zero, List.set_cons_succ]
        refine calm_take (by rfl) ?v11008 (fun w' hw' => ?hy11008) ?rest11008
        case hy11008 => go_simp <;> first | rfl | skip
        simp only [Act.put, List.setIfInBounds_toArray, List.set_cons_zero, List.set_cons_succ]
        refine calm_take (by rfl) ?v11009 (fun w' hw' => ?hy11009) ?rest11009
        case hy11009 => obtain ⟨r0, r1, r2, r3, r4, r5, r6, r7⟩ := cells8_next HS.out hw'; go_simp <;> first | rfl | skip
        simp only [Act.put, List.setIfInBounds_toArray, List.set_cons_zero, List.set_cons_succ]
        refine calm_take (by rfl) ?v11010 (fun w' hw' => ?hy11010) ?rest11010
        case hy11010 => go_simp <;> first | rfl | skip
        simp only [Act.put, List.setIfInBounds_toArray, List.set_cons_zero, List.set_cons_succ]
        refine calm_take (by rfl) ?v11011 (fun w' hw' => ?hy11011) ?rest11011
        case hy11011 => go_simp <;> first | rfl | skip
        simp only [Act.put, List.setIfInBounds_toArray, List.set_cons_zero, List.set_cons_succ]
        refine calm_take (by rfl) ?v11012 (fun w' hw' => ?hy11012) ?rest11012
        case hy11012 => go_simp <;> first | rfl | skip
        simp only [Act.put, List.setIfInBounds_toArray, List.set_cons_zero, List.set_cons_succ]
        refine calm_take (by rfl) ?v11013 (fun w' hw' => ?hy11013) ?rest11013
        case hy11013 => go_simp <;> first | rfl | skip
        simp only [Act.put, List.setIfInBounds_toArray, List.set_cons_zero, List.set_cons_succ]
        refine calm_take (by rfl) ?v11014 (fun w' hw' => ?hy11014) ?rest11014
        case hy11014 => obtain ⟨r0, r1, r2, r3, r4, r5, r6, r7⟩ := cells8_next HS.out hw'; go_simp <;> first | rfl | skip
        simp only [Act.put, List.setIfInBounds_toArray, List.set_cons_zero, List.set_cons_succ]
        refine' calm_call (by rfl) (.iface 128 (.agg #[.int .i64 (W : Int)])) ?nx11015 (fun w' => ?hr11015) _ _ ?hn11015 (fun w' hw' => ?hc11015) ?rest11015
        case hr11015 => go_simp <;> rfl
        case hn11015 => rfl
        case hc11015 => exact (of_f c.k c.s H1.out H2.out HWW.out _).mono (by rintro e w3 ⟨rfl, hb3⟩; exact ⟨rfl, below_chain hw' hb3⟩)
        simp only [Act.put, List.setIfInBounds_toArray, List.set_cons_zero, List.set_cons_succ]
        refine calm_take (by rfl) ?v11016 (fun w' hw' => ?hy11016) ?rest11016
        case hy11016 => obtain ⟨r0, r1, r2, r3, r4, r5, r6, r7⟩ := cells8_next HS.out hw'; go_simp <;> first | rfl | skip
        simp only [Act.put, List.setIfInBounds_toArray, List.set_cons_zero, List.set_cons_succ]
        refine' calm_call (by rfl) (.bool true) ?nx11017 (fun w' => ?hr11017) _ _ ?hn11017 (fun w' hw' => ?hc11017) ?rest11017
        case hr11017 => go_simp <;> rfl
        case hn11017 => rfl
        case hc11017 => exact (hmay2.out w' (HBW.out.trans (hw'.mono HBW.out.size))).mono (by rintro e w3 ⟨rfl, hb3⟩; exact ⟨rfl, below_chain hw' hb3⟩)
        simp only [Act.put, List.setIfInBounds_toArray, List.set_cons_zero, List.set_cons_succ]
        refine calm_take (by rfl) ?v11018 (fun w' hw' => ?hy11018) ?rest11018
        case hy11018 => go_simp <;> first | rfl | skip
        simp only [Act.put, List.setIfInBounds_toArray, List.set_cons_zero, List.set_cons_succ]
        refine calm_take (by rfl) ?v11019 (fun w' hw' => ?hy11019) ?rest11019
        case hy11019 => go_simp <;> first | rfl | skip
        simp only [Act.put, List.setIfInBounds_toArray, List.set_cons_zero, List.set_cons_succ]
        refine calm_take (by rfl) ?v11020 (fun w' hw' => ?hy11020) ?rest11020
        case hy11020 => go_simp <;> first | rfl | skip
        simp only [Act.put, List.setIfInBounds_toArray, List.set_cons_zero, List.set_cons_succ]
        refine wpQuiet_nil (fun w' hw' => ?_)
        go_wp2
        go_ret
        exact ⟨ret_int HD.out, HBW.out.trans (hw'.mono HBW.out.size)⟩
      | false =>
        refine wp_region_calm (by kernel_rfl) (by kernel_rfl) ?_
        refine calm_take (by rfl) ?v12000 (fun w' hw' => ?hy12000) ?rest12000
        case hy12000 => go_simp <;> first | rfl | skip
        simp only [Act.put, List.setIfInBounds_toArray, List.set_cons_zero, List.set_cons_succ]
        refine calm_take (by rfl) ?v12001 (fun w' hw' => ?hy12001) ?rest12001
        case hy12001 => obtain ⟨r0, r1, r2, r3, r4, r5, r6, r7⟩ := cells8_next HS.out hw'; go_simp <;> first | rfl | skip
        simp only [Act.put, List.setIfInBounds_toArray, List.set_cons_zero, List.set_cons_succ]
        refine' calm_call (by rfl) (.int .i64 0) ?nx12002 (fun w' => ?hr12002) _ _ ?hn12002 (fun w' hw' => ?hc12002) ?rest12002
        case hr12002 => go_simp <;> rfl
        case hn12002 => rfl
        case hc12002 => exact (hmask.out w' (HBW.out.trans (hw'.mono HBW.out.size))).mono (by rintro e w3 ⟨rfl, hb3⟩; rw [hme]; exact ⟨rfl, below_chain hw' hb3⟩)
        simp only [Act.put, List.setIfInBounds_toArray, List.set_cons_zero, List.set_cons_succ]
        refine calm_take (by rfl) ?v12003 (fun w' hw' => ?hy12003) ?rest12003
        case hy12003 => go_simp <;> first | rfl | skip
        simp only [Act.put, List.setIfInBounds_toArray, List.set_cons_zero, List.set_cons_succ]
        refine calm_take (by rfl) ?v12004 (fun w' hw' => ?hy12004) ?rest12004
        case hy12004 => go_simp <;> first | rfl | skip
        simp only [Act.put, List.setIfInBounds_toArray, List.set_cons_zero, List.set_cons_succ]
        refine calm_take (by rfl) ?v12005 (fun w' hw' => ?hy12005) ?rest12005
        case hy12005 => go_simp <;> first | rfl | skip
        simp only [Act.put, List.setIfInBounds_toArray, List.set_cons_zero, List.set_cons_succ]
        refine calm_take (by rfl) ?v12006 (fun w' hw' => ?hy12006) ?rest12006
        case hy12006 => go_simp <;> first | rfl | skip
        simp only [Act.put, List.setIfInBounds_toArray, List.set_cons_zero, List.set_cons_succ]
        refine calm_take (by rfl) ?v12007 (fun w' hw' => ?hy12007) ?rest12007
        case hy12007 => obtain ⟨r0, r1, r2, r3, r4, r5, r6, r7⟩ := cells8_next HS.out hw'; go_simp <;> first | rfl | skip
        simp only [Act.put, List.setIfInBounds_toArray, List.set_cons_zero, List.set_cons_succ]
        refine calm_take (by rfl) ?v12008 (fun w' hw' => ?hy12008) ?rest12008
        case hy12008 => go_simp <;> first | rfl | skip
        simp only [Act.put, List.setIfInBounds_toArray, List.set_cons_zero, List.set_cons_succ]
        refine calm_take (by rfl) ?v12009 (fun w' hw' => ?hy12009) ?rest12009
        case hy12009 => obtain ⟨r0, r1, r2, r3, r4, r5, r6, r7⟩ := cells8_next HS.out hw'; go_simp <;> first | rfl | skip
        simp only [Act.put, List.setIfInBounds_toArray, List.set_cons_zero, List.set_cons_succ]
        refine calm_take (by rfl) ?v12010 (fun w' hw' => ?hy12010) ?rest12010
        case hy12010 => go_simp <;> first | rfl | skip
        simp only [Act.put, List.setIfInBounds_toArray, List.set_cons_zero, List.set_cons_succ]
        refine calm_take (by rfl) ?v12011 (fun w' hw' => ?hy12011) ?rest12011
        case hy12011 => go_simp <;> first | rfl | skip
        simp only [Act.put, List.setIfInBounds_toArray, List.set_cons_zero, List.set_cons_succ]
        refine calm_take (by rfl) ?v12012 (fun w' hw' => ?hy12012) ?rest12012
        case hy12012 => go_simp <;> first | rfl | skip
        simp only [Act.put, List.setIfInBounds_toArray, List.set_cons_zero, List.set_cons_succ]
        refine calm_take (by rfl) ?v12013 (fun w' hw' => ?hy12013) ?rest12013
        case hy12013 => go_simp <;> first | rfl | skip
        simp only [Act.put, List.setIfInBounds_toArray, List.set_cons_zero, List.set_cons_succ]
        refine calm_take (by rfl) ?v12014 (fun w' hw' => ?hy12014) ?rest12014
        case hy12014 => obtain ⟨r0, r1, r2, r3, r4, r5, r6, r7⟩ := cells8_next HS.out hw'; go_simp <;> first | rfl | skip
        simp only [Act.put, List.setIfInBounds_toArray, List.set_cons_zero, List.set_cons_succ]
        refine' calm_call (by rfl) (.iface 128 (.agg #[.int .i64 (W : Int)])) ?nx12015 (fun w' => ?hr12015) _ _ ?hn12015 (fun w' hw' => ?hc12015) ?rest12015
        case hr12015 => go_simp <;> rfl
        case hn12015 => rfl
        case hc12015 => exact (of_f c.k c.s H1.out H2.out HWW.out _).mono (by rintro e w3 ⟨rfl, hb3⟩; exact ⟨rfl, below_chain hw' hb3⟩)
        simp only [Act.put, List.setIfInBounds_toArray, List.set_cons_zero, List.set_cons_succ]
        refine calm_take (by rfl) ?v12016 (fun w' hw' => ?hy12016) ?rest12016
        case hy12016 => obtain ⟨r0, r1, r2, r3, r4, r5, r6, r7⟩ := cells8_next HS.out hw'; go_simp <;> first | rfl | skip
        simp only [Act.put, List.setIfInBounds_toArray, List.set_cons_zero, List.set_cons_succ]
        refine' calm_call (by rfl) (.bool false) ?nx12017 (fun w' => ?hr12017) _ _ ?hn12017 (fun w' hw' => ?hc12017) ?rest12017
        case hr12017 => go_simp <;> rfl
        case hn12017 => rfl
        case hc12017 => exact (hmay2.out w' (HBW.out.trans (hw'.mono HBW.out.size))).mono (by rintro e w3 ⟨rfl, hb3⟩; exact ⟨rfl, below_chain hw' hb3⟩)
        simp only [Act.put, List.setIfInBounds_toArray, List.set_cons_zero, List.set_cons_succ]
        refine calm_take (by rfl) ?v12018 (fun w' hw' => ?hy12018) ?rest12018
        case hy12018 => go_simp <;> first | rfl | skip
        simp only [Act.put, List.setIfInBounds_toArray, List.set_cons_zero, List.set_cons_succ]
        refine calm_take (by rfl) ?v12019 (fun w' hw' => ?hy12019) ?rest12019
        case hy12019 => go_simp <;> first | rfl | skip
        simp only [Act.put, List.setIfInBounds_toArray, List.set_cons_zero, List.set_cons_succ]
        refine calm_take (by rfl) ?v12020 (fun w' hw' => ?hy12020) ?rest12020
        case hy12020 => go_simp <;> first | rfl | skip
        simp only [Act.put, List.setIfInBounds_toArray, List.set_cons_zero, List.set_cons_succ]
        refine wpQuiet_nil (fun w' hw' => ?_)
        go_wp2
        go_ret
        exact ⟨ret_int HD.out, HBW.out.trans (hw'.mono HBW.out.size)⟩
end Go.Proofs.Ytmhjjhaipcgbiaa
