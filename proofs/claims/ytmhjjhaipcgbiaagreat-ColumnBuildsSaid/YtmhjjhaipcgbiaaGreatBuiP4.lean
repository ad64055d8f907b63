/- Texts of this claim, one behind the other: Check, CheckA, Val, ValR, ValR0, Get0, Get, GetA, Range, Seq. -/
import Derived.Test.YtmhjjhaipcgbiaaGreatBuiP3
import Derived.Test.YtmhjjhaipcgbiaaGreatBuiP2
import Derived.Test.YtmhjjhaipcgbiaaGreatBuiP1
import Derived.RangeFuncBox
import Derived.RangeFuncLeaves
import Derived.RangeFuncNested
import Derived.Shelf.Abstract
import Derived.OwnWalkIn
import Derived.TacticsInMore
import Derived.LoopNIn
import Derived.LoopIn

/- column.of at every kind; column.Check. (Printed by gencheck.py.) -/
namespace Go.Proofs.YtmhjjhaipcgbiaaGreat
open Go.RowKit
set_option linter.unusedVariables false
set_option linter.unusedSimpArgs false
set_option maxRecDepth 100000
set_option maxHeartbeats 6000000

theorem of_coded (s : Int) (w : World) : Calls Tryz.prog 86 #[.agg #[.int .i64 16, .int .i64 s]] w fun e w' => e = .returned (.iface 167 (.agg #[.int .i64 4])) ∧ w' = w.alloc (.cells #[.int .i64 16, .int .i64 s] 23) := by
  go_enter Tryz.func86, Tryz.ntmps86
  go_wp2_with (go_at_call 153; refine (width_any _ _).mono ?_; rintro e w1 ⟨rfl, rfl⟩)
  go_ret
  exact ⟨rfl, rfl⟩

def IfP (v : Value) (w : World) (e : Ending) (w' : World) : Prop := e = .returned v ∧ Below w.heap.size w w'
theorem of_c (s : Int) (w : World) : Calls Tryz.prog 86 #[.agg #[.int .i64 16, .int .i64 s]] w (IfP (.iface 167 (.agg #[.int .i64 4])) w) :=
  (of_coded s w).mono (by rintro e w' ⟨rfl, rfl⟩; exact ⟨rfl, below_new _ _⟩)
theorem of_r (s : Int) (w : World) : Calls Tryz.prog 86 #[.agg #[.int .i64 15, .int .i64 s]] w (IfP (.iface 162 (.agg #[])) w) :=
  (of_running s w).mono (by rintro e w' ⟨rfl, rfl⟩; exact ⟨rfl, below_new _ _⟩)
theorem of_f (k s : Int) (h1 : k ≠ 15) (h2 : k ≠ 16) {W : Nat} (hW : widthOf k = (W : Int)) (w : World) : Calls Tryz.prog 86 #[.agg #[.int .i64 k, .int .i64 s]] w (IfP (.iface 165 (.agg #[.int .i64 (W : Int)])) w) :=
  (of_fixed k s (by simpa using h1) (by simpa using h2) w).mono (by rintro e w' ⟨rfl, rfl⟩; exact ⟨by rw [hW], below_new _ _⟩)

def Cells8 (b : Nat) (x0 x1 x2 x3 x4 x5 x6 x7 : Value) (w : World) : Prop :=
  w.cell? ⟨b, 0, none⟩ = some x0 ∧ w.cell? ⟨b, 1, none⟩ = some x1 ∧ w.cell? ⟨b, 2, none⟩ = some x2 ∧ w.cell? ⟨b, 3, none⟩ = some x3 ∧ w.cell? ⟨b, 4, none⟩ = some x4 ∧ w.cell? ⟨b, 5, none⟩ = some x5 ∧ w.cell? ⟨b, 6, none⟩ = some x6 ∧ w.cell? ⟨b, 7, none⟩ = some x7
theorem cells8_next {b : Nat} {x0 x1 x2 x3 x4 x5 x6 x7 : Value} {w1 w2 : World} (h : Cells8 b x0 x1 x2 x3 x4 x5 x6 x7 w1) (hb : Below w1.heap.size w1 w2) : Cells8 b x0 x1 x2 x3 x4 x5 x6 x7 w2 := by
  obtain ⟨h0, h1, h2, h3, h4, h5, h6, h7⟩ := h
  have hl := World.block_lt_of_cell? _ _ h0
  exact ⟨(hb.cell (p := ⟨b, 0, none⟩) hl).trans h0, (hb.cell (p := ⟨b, 1, none⟩) hl).trans h1, (hb.cell (p := ⟨b, 2, none⟩) hl).trans h2, (hb.cell (p := ⟨b, 3, none⟩) hl).trans h3, (hb.cell (p := ⟨b, 4, none⟩) hl).trans h4, (hb.cell (p := ⟨b, 5, none⟩) hl).trans h5, (hb.cell (p := ⟨b, 6, none⟩) hl).trans h6, (hb.cell (p := ⟨b, 7, none⟩) hl).trans h7⟩

theorem check_f2 (k s : Int) (w : World) : Calls Tryz.prog 70 #[.agg #[.int .i64 k, .int .i64 s]] w (IntP (if okType k s then 0 else 170) w) := checkType_any k s w

theorem checkC_type {c : Col} (h : okType c.k c.s = false) : (170 : Int) = checkC c := by unfold checkC; rw [if_pos h]
theorem checkC_mask {c : Col} (h : okType c.k c.s = true) (h2 : maskOK c.m c.bits = false) : (171 : Int) = checkC c := by unfold checkC; rw [if_neg (by simp [h])]; simp [h2]
theorem checkC_len {c : Col} (h : okType c.k c.s = true) (h2 : c.m ≠ c.n) : (171 : Int) = checkC c := by unfold checkC; rw [if_neg (by simp [h])]; simp [h2]
theorem checkC_may {c : Col} (h : okType c.k c.s = true) (h2 : maskOK c.m c.bits = true) (h3 : c.m = c.n) : (if mayB c then 0 else 171) = checkC c := by unfold checkC; cases hm : mayB c <;> simp [h, h2, ← h3, hm]
theorem mask_room {m : Int} {bs : List Int} (h : maskOK m bs = true) : m ≤ 8 * (bs.length : Int) := by
  unfold maskOK at h
  rw [decide_eq_true_eq] at h
  exact h.2.1

theorem check_no (c : Col) (h : okType c.k c.s = false) (B D E X : SL) (w : World) : Calls Tryz.prog 82 #[colV c B D E X] w (IntP (checkC c) w) := by
  have HD := Aside.mk (checkC_type h)
  have hct := Aside.mk (fun w2 => by have := check_f2 c.k c.s w2; rw [h] at this; exact this)
  have hbw := below_new w (.cells #[.int .i64 c.k, .int .i64 c.s, .int .i64 c.n, .int .i64 c.m, .slice B.a c.bits.length B.c, .slice D.a c.data.length D.c, .slice E.a c.ends.length E.c, .slice X.a c.words.length X.c] 63)
  have HBW := Aside.mk hbw
  clear hbw h
  dsimp only [colV]
  go_enter Tryz.func82, Tryz.ntmps82
  go_wp2_with (go_at_call 70; refine (hct.out _).mono ?_; rintro e w2 ⟨rfl, hb2⟩; have H2 := Aside.mk hb2; clear hb2)
  go_ret
  exact ⟨ret_int HD.out, HBW.out.trans (H2.out.mono (by simp))⟩

theorem check_r (c : Col) (hk : c.k = 15) (ho : okType c.k c.s = true) (hc : COK c) (B D E X : SL) (vals : List Value) (w : World) (h : RdC w c B D E X vals) : Calls Tryz.prog 82 #[colV c B D E X] w (IntP (checkC c) w) := by
  have HR := Aside.mk h
  have HC := Aside.mk hc
  have hmay := Aside.mk (fun (hn : c.n ≤ 8 * (c.bits.length : Int)) (w2 : World) (hb : Below w.heap.size w w2) => mayR_any c HC.out hn B D E X vals w2 (HR.out.below hb))
  have hmask := Aside.mk (fun (w2 : World) (hb : Below w.heap.size w w2) => maskCheck_any c.m c.bits B HC.out.lb HC.out.bits w2 (HR.out.bits.below hb))
  have hct := Aside.mk (fun w2 => by have := check_f2 c.k c.s w2; rw [ho] at this; exact this)
  have HMB := Aside.mk (show mayB c = mayRunning c by unfold mayB; rw [hk]; rfl)
  have HO := Aside.mk ho
  have HK := Aside.mk hk
  have HCV := Aside.mk (show colV c B D E X = .agg #[.int .i64 15, .int .i64 c.s, .int .i64 c.n, .int .i64 c.m, .slice B.a c.bits.length B.c, .slice D.a c.data.length D.c, .slice E.a c.ends.length E.c, .slice X.a c.words.length X.c] by rw [colV, hk])
  rw [hk] at hct
  rw [HCV.out] at hmay ⊢
  clear h hc ho hk
  go_enter Tryz.func82, Tryz.ntmps82
  go_wp2_with fail
  have HBW := Aside.mk (below_new w (.cells #[.int .i64 15, .int .i64 c.s, .int .i64 c.n, .int .i64 c.m, .slice B.a c.bits.length B.c, .slice D.a c.data.length D.c, .slice E.a c.ends.length E.c, .slice X.a c.words.length X.c] 63))
  have HS := Aside.mk (show Cells8 w.heap.size (.int .i64 15) (.int .i64 c.s) (.int .i64 c.n) (.int .i64 c.m) (.slice B.a c.bits.length B.c) (.slice D.a c.data.length D.c) (.slice E.a c.ends.length E.c) (.slice X.a c.words.length X.c) (w.alloc (.cells #[.int .i64 15, .int .i64 c.s, .int .i64 c.n, .int .i64 c.m, .slice B.a c.bits.length B.c, .slice D.a c.data.length D.c, .slice E.a c.ends.length E.c, .slice X.a c.words.length X.c] 63)) from box8 (heap_alloc_new w _))
  generalize hw1 : w.alloc (.cells #[.int .i64 15, .int .i64 c.s, .int .i64 c.n, .int .i64 c.m, .slice B.a c.bits.length B.c, .slice D.a c.data.length D.c, .slice E.a c.ends.length E.c, .slice X.a c.words.length X.c] 63) = w1 at *
  clear hw1
  refine (hct.out _).mono ?_
  rintro e w2 ⟨rfl, hb2⟩
  replace HBW := Aside.mk (HBW.out.trans (hb2.mono HBW.out.size))
  replace HS := Aside.mk (cells8_next HS.out hb2)
  clear hb2
  go_wp2
  obtain ⟨p0, p1, p2, p3, p4, p5, p6, p7⟩ := HS.out
  by_cases hm : maskOK c.m c.bits = true
  rotate_left
  · have hme : maskErr c.m c.bits = 160 := by rw [maskErr, if_neg hm]
    have HD := Aside.mk (checkC_mask HO.out (by simpa using hm))
    clear hm
    refine wp_region_calm (by kernel_rfl) (by kernel_rfl) ?_
    refine calm_take (by rfl) ?v1000 (fun w' hw' => ?hy1000) ?rest1000
    case hy1000 => go_simp <;> first | rfl | skip
    simp only [Act.put, List.setIfInBounds_toArray, List.set_cons_zero, List.set_cons_succ]
    refine calm_take (by rfl) ?v1001 (fun w' hw' => ?hy1001) ?rest1001
    case hy1001 => obtain ⟨r0, r1, r2, r3, r4, r5, r6, r7⟩ := cells8_next HS.out hw'; go_simp <;> first | rfl | skip
    simp only [Act.put, List.setIfInBounds_toArray, List.set_cons_zero, List.set_cons_succ]
    refine' calm_call (by rfl) (.int .i64 160) ?nx1002 (fun w' => ?hr1002) _ _ ?hn1002 (fun w' hw' => ?hc1002) ?rest1002
    case hr1002 => go_simp <;> rfl
    case hn1002 => rfl
    case hc1002 => exact (hmask.out w' (HBW.out.trans (hw'.mono HBW.out.size))).mono (by rintro e w3 ⟨rfl, hb3⟩; rw [hme]; exact ⟨rfl, below_chain hw' hb3⟩)
    simp only [Act.put, List.setIfInBounds_toArray, List.set_cons_zero, List.set_cons_succ]
    refine calm_take (by rfl) ?v1003 (fun w' hw' => ?hy1003) ?rest1003
    case hy1003 => go_simp <;> first | rfl | skip
    simp only [Act.put, List.setIfInBounds_toArray, List.set_cons_zero, List.set_cons_succ]
    refine calm_take (by rfl) ?v1004 (fun w' hw' => ?hy1004) ?rest1004
    case hy1004 => go_simp <;> first | rfl | skip
    simp only [Act.put, List.setIfInBounds_toArray, List.set_cons_zero, List.set_cons_succ]
    refine calm_skip (by rfl) ?_
    simp only [Act.put, List.setIfInBounds_toArray, List.set_cons_zero, List.set_cons_succ]
    refine calm_skip (by rfl) ?_
    simp only [Act.put, List.setIfInBounds_toArray, List.set_cons_zero, List.set_cons_succ]
    refine calm_skip (by rfl) ?_
    simp only [Act.put, List.setIfInBounds_toArray, List.set_cons_zero, List.set_cons_succ]
    refine calm_skip (by rfl) ?_
    simp only [Act.put, List.setIfInBounds_toArray, List.set_cons_zero, List.set_cons_succ]
    refine calm_skip (by rfl) ?_
    simp only [Act.put, List.setIfInBounds_toArray, List.set_cons_zero, List.set_cons_succ]
    refine calm_skip (by rfl) ?_
    simp only [Act.put, List.setIfInBounds_toArray, List.set_cons_zero, List.set_cons_succ]
    refine calm_take (by rfl) ?v1011 (fun w' hw' => ?hy1011) ?rest1011
    case hy1011 => go_simp <;> first | rfl | skip
    simp only [Act.put, List.setIfInBounds_toArray, List.set_cons_zero, List.set_cons_succ]
    refine calm_take (by rfl) ?v1012 (fun w' hw' => ?hy1012) ?rest1012
    case hy1012 => go_simp <;> first | rfl | skip
    simp only [Act.put, List.setIfInBounds_toArray, List.set_cons_zero, List.set_cons_succ]
    refine calm_skip (by rfl) ?_
    simp only [Act.put, List.setIfInBounds_toArray, List.set_cons_zero, List.set_cons_succ]
    refine calm_skip (by rfl) ?_
    simp only [Act.put, List.setIfInBounds_toArray, List.set_cons_zero, List.set_cons_succ]
    refine calm_skip (by rfl) ?_
    simp only [Act.put, List.setIfInBounds_toArray, List.set_cons_zero, List.set_cons_succ]
    refine calm_skip (by rfl) ?_
    simp only [Act.put, List.setIfInBounds_toArray, List.set_cons_zero, List.set_cons_succ]
    refine calm_skip (by rfl) ?_
    simp only [Act.put, List.setIfInBounds_toArray, List.set_cons_zero, List.set_cons_succ]
    refine calm_skip (by rfl) ?_
    simp only [Act.put, List.setIfInBounds_toArray, List.set_cons_zero, List.set_cons_succ]
    refine calm_take (by rfl) ?v1019 (fun w' hw' => ?hy1019) ?rest1019
    case hy1019 => go_simp <;> first | rfl | skip
    simp only [Act.put, List.setIfInBounds_toArray, List.set_cons_zero, List.set_cons_succ]
    refine calm_take (by rfl) ?v1020 (fun w' hw' => ?hy1020) ?rest1020
    case hy1020 => go_simp <;> first | rfl | skip
    simp only [Act.put, List.setIfInBounds_toArray, List.set_cons_zero, List.set_cons_succ]
    refine wpQuiet_nil (fun w' hw' => ?_)
    go_wp2
    go_ret
    exact ⟨ret_int HD.out, HBW.out.trans (hw'.mono HBW.out.size)⟩
  · have hme : maskErr c.m c.bits = 0 := by rw [maskErr, if_pos hm]
    by_cases hmn : c.m = c.n
    rotate_left
    · have hmn2 : (c.m != c.n) = true := by simpa using hmn
      have HD := Aside.mk (checkC_len HO.out hmn)
      clear hm hmn
      refine wp_region_calm (by kernel_rfl) (by kernel_rfl) ?_
      refine calm_take (by rfl) ?v2000 (fun w' hw' => ?hy2000) ?rest2000
      case hy2000 => go_simp <;> first | rfl | skip
      simp only [Act.put, List.setIfInBounds_toArray, List.set_cons_zero, List.set_cons_succ]
      refine calm_take (by rfl) ?v2001 (fun w' hw' => ?hy2001) ?rest2001
      case hy2001 => obtain ⟨r0, r1, r2, r3, r4, r5, r6, r7⟩ := cells8_next HS.out hw'; go_simp <;> first | rfl | skip
      simp only [Act.put, List.setIfInBounds_toArray, List.set_cons_zero, List.set_cons_succ]
      refine' calm_call (by rfl) (.int .i64 0) ?nx2002 (fun w' => ?hr2002) _ _ ?hn2002 (fun w' hw' => ?hc2002) ?rest2002
      case hr2002 => go_simp <;> rfl
      case hn2002 => rfl
      case hc2002 => exact (hmask.out w' (HBW.out.trans (hw'.mono HBW.out.size))).mono (by rintro e w3 ⟨rfl, hb3⟩; rw [hme]; exact ⟨rfl, below_chain hw' hb3⟩)
      simp only [Act.put, List.setIfInBounds_toArray, List.set_cons_zero, List.set_cons_succ]
      refine calm_take (by rfl) ?v2003 (fun w' hw' => ?hy2003) ?rest2003
      case hy2003 => go_simp <;> first | rfl | skip
      simp only [Act.put, List.setIfInBounds_toArray, List.set_cons_zero, List.set_cons_succ]
      refine calm_take (by rfl) ?v2004 (fun w' hw' => ?hy2004) ?rest2004
      case hy2004 => go_simp <;> first | rfl | skip
      simp only [Act.put, List.setIfInBounds_toArray, List.set_cons_zero, List.set_cons_succ]
      refine calm_take (by rfl) ?v2005 (fun w' hw' => ?hy2005) ?rest2005
      case hy2005 => go_simp <;> first | rfl | skip
      simp only [Act.put, List.setIfInBounds_toArray, List.set_cons_zero, List.set_cons_succ]
      refine calm_take (by rfl) ?v2006 (fun w' hw' => ?hy2006) ?rest2006
      case hy2006 => go_simp <;> first | rfl | skip
      simp only [Act.put, List.setIfInBounds_toArray, List.set_cons_zero, List.set_cons_succ]
      refine calm_take (by rfl) ?v2007 (fun w' hw' => ?hy2007) ?rest2007
      case hy2007 => obtain ⟨r0, r1, r2, r3, r4, r5, r6, r7⟩ := cells8_next HS.out hw'; go_simp <;> first | rfl | skip
      simp only [Act.put, List.setIfInBounds_toArray, List.set_cons_zero, List.set_cons_succ]
      refine calm_take (by rfl) ?v2008 (fun w' hw' => ?hy2008) ?rest2008
      case hy2008 => go_simp <;> first | rfl | skip
      simp only [Act.put, List.setIfInBounds_toArray, List.set_cons_zero, List.set_cons_succ]
      refine calm_take (by rfl) ?v2009 (fun w' hw' => ?hy2009) ?rest2009
      case hy2009 => obtain ⟨r0, r1, r2, r3, r4, r5, r6, r7⟩ := cells8_next HS.out hw'; go_simp <;> first | rfl | skip
      simp only [Act.put, List.setIfInBounds_toArray, List.set_cons_zero, List.set_cons_succ]
      refine calm_take (by rfl) ?v2010 (fun w' hw' => ?hy2010) ?rest2010
      case hy2010 => go_simp <;> first | rfl | skip
      simp only [Act.put, List.setIfInBounds_toArray, List.set_cons_zero, List.set_cons_succ]
      refine calm_take (by rfl) ?v2011 (fun w' hw' => ?hy2011) ?rest2011
      case hy2011 => go_simp <;> first | rfl | skip
      simp only [Act.put, List.setIfInBounds_toArray, List.set_cons_zero, List.set_cons_succ]
      refine calm_take (by rfl) ?v2012 (fun w' hw' => ?hy2012) ?rest2012
      case hy2012 => go_simp <;> first | rfl | skip
      simp only [Act.put, List.setIfInBounds_toArray, List.set_cons_zero, List.set_cons_succ]
      refine calm_skip (by rfl) ?_
      simp only [Act.put, List.setIfInBounds_toArray, List.set_cons_zero, List.set_cons_succ]
      refine calm_skip (by rfl) ?_
      simp only [Act.put, List.setIfInBounds_toArray, List.set_cons_zero, List.set_cons_succ]
      refine calm_skip (by rfl) ?_
      simp only [Act.put, List.setIfInBounds_toArray, List.set_cons_zero, List.set_cons_succ]
      refine calm_skip (by rfl) ?_
      simp only [Act.put, List.setIfInBounds_toArray, List.set_cons_zero, List.set_cons_succ]
      refine calm_skip (by rfl) ?_
      simp only [Act.put, List.setIfInBounds_toArray, List.set_cons_zero, List.set_cons_succ]
      refine calm_skip (by rfl) ?_
      simp only [Act.put, List.setIfInBounds_toArray, List.set_cons_zero, List.set_cons_succ]
      refine calm_take (by rfl) ?v2019 (fun w' hw' => ?hy2019) ?rest2019
      case hy2019 => go_simp <;> first | rfl | skip
      simp only [Act.put, List.setIfInBounds_toArray, List.set_cons_zero, List.set_cons_succ]
      refine calm_take (by rfl) ?v2020 (fun w' hw' => ?hy2020) ?rest2020
      case hy2020 => go_simp <;> first | rfl | skip
      simp only [Act.put, List.setIfInBounds_toArray, List.set_cons_zero, List.set_cons_succ]
      refine wpQuiet_nil (fun w' hw' => ?_)
      go_wp2
      go_ret
      exact ⟨ret_int HD.out, HBW.out.trans (hw'.mono HBW.out.size)⟩
    · have hmn2 : (c.m != c.n) = false := by simpa using hmn
      have HD := Aside.mk (checkC_may HO.out hm hmn)
      have hmay2 := Aside.mk (hmay.out (by rw [← hmn]; exact mask_room hm))
      rw [HMB.out] at HD
      clear hm hmn hmay
      generalize mayRunning c = mb at *
      cases mb with
      | true =>
        refine wp_region_calm (by kernel_rfl) (by kernel_rfl) ?_
        refine calm_take (by rfl) ?v3000 (fun w' hw' => ?hy3000) ?rest3000
        case hy3000 => go_simp <;> first | rfl | skip
        simp only [Act.put, List.setIfInBounds_toArray, List.set_cons_zero, List.set_cons_succ]
        refine calm_take (by rfl) ?v3001 (fun w' hw' => ?hy3001) ?rest3001
        case hy3001 => obtain ⟨r0, r1, r2, r3, r4, r5, r6, r7⟩ := cells8_next HS.out hw'; go_simp <;> first | rfl | skip
        simp only [Act.put, List.setIfInBounds_toArray, List.set_cons_zero, List.set_cons_succ]
        refine' calm_call (by rfl) (.int .i64 0) ?nx3002 (fun w' => ?hr3002) _ _ ?hn3002 (fun w' hw' => ?hc3002) ?rest3002
        case hr3002 => go_simp <;> rfl
        case hn3002 => rfl
        case hc3002 => exact (hmask.out w' (HBW.out.trans (hw'.mono HBW.out.size))).mono (by rintro e w3 ⟨rfl, hb3⟩; rw [hme]; exact ⟨rfl, below_chain hw' hb3⟩)
        simp only [Act.put, List.setIfInBounds_toArray, List.set_cons_zero, List.set_cons_succ]
        refine calm_take (by rfl) ?v3003 (fun w' hw' => ?hy3003) ?rest3003
        case hy3003 => go_simp <;> first | rfl | skip
        simp only [Act.put, List.setIfInBounds_toArray, List.set_cons_zero, List.set_cons_succ]
        refine calm_take (by rfl) ?v3004 (fun w' hw' => ?hy3004) ?rest3004
        case hy3004 => go_simp <;> first | rfl | skip
        simp only [Act.put, List.setIfInBounds_toArray, List.set_cons_zero, List.set_cons_succ]
        refine calm_take (by rfl) ?v3005 (fun w' hw' => ?hy3005) ?rest3005
        case hy3005 => go_simp <;> first | rfl | skip
        simp only [Act.put, List.setIfInBounds_toArray, List.set_cons_zero, List.set_cons_succ]
        refine calm_take (by rfl) ?v3006 (fun w' hw' => ?hy3006) ?rest3006
        case hy3006 => go_simp <;> first | rfl | skip
        simp only [Act.put, List.setIfInBounds_toArray, List.set_cons_zero, List.set_cons_succ]
        refine calm_take (by rfl) ?v3007 (fun w' hw' => ?hy3007) ?rest3007
        case hy3007 => obtain ⟨r0, r1, r2, r3, r4, r5, r6, r7⟩ := cells8_next HS.out hw'; go_simp <;> first | rfl | skip
        simp only [Act.put, List.setIfInBounds_toArray, List.set_cons_zero, List.set_cons_succ]
        refine calm_take (by rfl) ?v3008 (fun w' hw' => ?hy3008) ?rest3008
        case hy3008 => go_simp <;> first | rfl | skip
        simp only [Act.put, List.setIfInBounds_toArray, List.set_cons_zero, List.set_cons_succ]
        refine calm_take (by rfl) ?v3009 (fun w' hw' => ?hy3009) ?rest3009
        case hy3009 => obtain ⟨r0, r1, r2, r3, r4, r5, r6, r7⟩ := cells8_next HS.out hw'; go_simp <;> first | rfl | skip
        simp only [Act.put, List.setIfInBounds_toArray, List.set_cons_zero, List.set_cons_succ]
        refine calm_take (by rfl) ?v3010 (fun w' hw' => ?hy3010) ?rest3010
        case hy3010 => go_simp <;> first | rfl | skip
        simp only [Act.put, List.setIfInBounds_toArray, List.set_cons_zero, List.set_cons_succ]
        refine calm_take (by rfl) ?v3011 (fun w' hw' => ?hy3011) ?rest3011
        case hy3011 => go_simp <;> first | rfl | skip
        simp only [Act.put, List.setIfInBounds_toArray, List.set_cons_zero, List.set_cons_succ]
        refine calm_take (by rfl) ?v3012 (fun w' hw' => ?hy3012) ?rest3012
        case hy3012 => go_simp <;> first | rfl | skip
        simp only [Act.put, List.setIfInBounds_toArray, List.set_cons_zero, List.set_cons_succ]
        refine calm_take (by rfl) ?v3013 (fun w' hw' => ?hy3013) ?rest3013
        case hy3013 => go_simp <;> first | rfl | skip
        simp only [Act.put, List.setIfInBounds_toArray, List.set_cons_zero, List.set_cons_succ]
        refine calm_take (by rfl) ?v3014 (fun w' hw' => ?hy3014) ?rest3014
        case hy3014 => obtain ⟨r0, r1, r2, r3, r4, r5, r6, r7⟩ := cells8_next HS.out hw'; go_simp <;> first | rfl | skip
        simp only [Act.put, List.setIfInBounds_toArray, List.set_cons_zero, List.set_cons_succ]
        refine' calm_call (by rfl) (.iface 162 (.agg #[])) ?nx3015 (fun w' => ?hr3015) _ _ ?hn3015 (fun w' hw' => ?hc3015) ?rest3015
        case hr3015 => go_simp <;> rfl
        case hn3015 => rfl
        case hc3015 => exact (of_r c.s _).mono (by rintro e w3 ⟨rfl, hb3⟩; exact ⟨rfl, below_chain hw' hb3⟩)
        simp only [Act.put, List.setIfInBounds_toArray, List.set_cons_zero, List.set_cons_succ]
        refine calm_take (by rfl) ?v3016 (fun w' hw' => ?hy3016) ?rest3016
        case hy3016 => obtain ⟨r0, r1, r2, r3, r4, r5, r6, r7⟩ := cells8_next HS.out hw'; go_simp <;> first | rfl | skip
        simp only [Act.put, List.setIfInBounds_toArray, List.set_cons_zero, List.set_cons_succ]
        refine' calm_call (by rfl) (.bool true) ?nx3017 (fun w' => ?hr3017) _ _ ?hn3017 (fun w' hw' => ?hc3017) ?rest3017
        case hr3017 => go_simp <;> rfl
        case hn3017 => rfl
        case hc3017 => exact (hmay2.out w' (HBW.out.trans (hw'.mono HBW.out.size))).mono (by rintro e w3 ⟨rfl, hb3⟩; exact ⟨rfl, below_chain hw' hb3⟩)
        simp only [Act.put, List.setIfInBounds_toArray, List.set_cons_zero, List.set_cons_succ]
        refine calm_take (by rfl) ?v3018 (fun w' hw' => ?hy3018) ?rest3018
        case hy3018 => go_simp <;> first | rfl | skip
        simp only [Act.put, List.setIfInBounds_toArray, List.set_cons_zero, List.set_cons_succ]
        refine calm_take (by rfl) ?v3019 (fun w' hw' => ?hy3019) ?rest3019
        case hy3019 => go_simp <;> first | rfl | skip
        simp only [Act.put, List.setIfInBounds_toArray, List.set_cons_zero, List.set_cons_succ]
        refine calm_take (by rfl) ?v3020 (fun w' hw' => ?hy3020) ?rest3020
        case hy3020 => go_simp <;> first | rfl | skip
        simp only [Act.put, List.setIfInBounds_toArray, List.set_cons_zero, List.set_cons_succ]
        refine wpQuiet_nil (fun w' hw' => ?_)
        go_wp2
        go_ret
        exact ⟨ret_int HD.out, HBW.out.trans (hw'.mono HBW.out.size)⟩
      | false =>
        refine wp_region_calm (by kernel_rfl) (by kernel_rfl) ?_
        refine calm_take (by rfl) ?v4000 (fun w' hw' => ?hy4000) ?rest4000
        case hy4000 => go_simp <;> first | rfl | skip
        simp only [Act.put, List.setIfInBounds_toArray, List.set_cons_zero, List.set_cons_succ]
        refine calm_take (by rfl) ?v4001 (fun w' hw' => ?hy4001) ?rest4001
        case hy4001 => obtain ⟨r0, r1, r2, r3, r4, r5, r6, r7⟩ := cells8_next HS.out hw'; go_simp <;> first | rfl | skip
        simp only [Act.put, List.setIfInBounds_toArray, List.set_cons_zero, List.set_cons_succ]
        refine' calm_call (by rfl) (.int .i64 0) ?nx4002 (fun w' => ?hr4002) _ _ ?hn4002 (fun w' hw' => ?hc4002) ?rest4002
        case hr4002 => go_simp <;> rfl
        case hn4002 => rfl
        case hc4002 => exact (hmask.out w' (HBW.out.trans (hw'.mono HBW.out.size))).mono (by rintro e w3 ⟨rfl, hb3⟩; rw [hme]; exact ⟨rfl, below_chain hw' hb3⟩)
        simp only [Act.put, List.setIfInBounds_toArray, List.set_cons_zero, List.set_cons_succ]
        refine calm_take (by rfl) ?v4003 (fun w' hw' => ?hy4003) ?rest4003
        case hy4003 => go_simp <;> first | rfl | skip
        simp only [Act.put, List.setIfInBounds_toArray, List.set_cons_zero, List.set_cons_succ]
        refine calm_take (by rfl) ?v4004 (fun w' hw' => ?hy4004) ?rest4004
        case hy4004 => go_simp <;> first | rfl | skip
        simp only [Act.put, List.setIfInBounds_toArray, List.set_cons_zero, List.set_cons_succ]
        refine calm_take (by rfl) ?v4005 (fun w' hw' => ?hy4005) ?rest4005
        case hy4005 => go_simp <;> first | rfl | skip
        simp only [Act.put, List.setIfInBounds_toArray, List.set_cons_zero, List.set_cons_succ]
        refine calm_take (by rfl) ?v4006 (fun w' hw' => ?hy4006) ?rest4006
        case hy4006 => go_simp <;> first | rfl | skip
        simp only [Act.put, List.setIfInBounds_toArray, List.set_cons_zero, List.set_cons_succ]
        refine calm_take (by rfl) ?v4007 (fun w' hw' => ?hy4007) ?rest4007
        case hy4007 => obtain ⟨r0, r1, r2, r3, r4, r5, r6, r7⟩ := cells8_next HS.out hw'; go_simp <;> first | rfl | skip
        simp only [Act.put, List.setIfInBounds_toArray, List.set_cons_zero, List.set_cons_succ]
        refine calm_take (by rfl) ?v4008 (fun w' hw' => ?hy4008) ?rest4008
        case hy4008 => go_simp <;> first | rfl | skip
        simp only [Act.put, List.setIfInBounds_toArray, List.set_cons_zero, List.set_cons_succ]
        refine calm_take (by rfl) ?v4009 (fun w' hw' => ?hy4009) ?rest4009
        case hy4009 => obtain ⟨r0, r1, r2, r3, r4, r5, r6, r7⟩ := cells8_next HS.out hw'; go_simp <;> first | rfl | skip
        simp only [Act.put, List.setIfInBounds_toArray, List.set_cons_zero, List.set_cons_succ]
        refine calm_take (by rfl) ?v4010 (fun w' hw' => ?hy4010) ?rest4010
        case hy4010 => go_simp <;> first | rfl | skip
        simp only [Act.put, List.setIfInBounds_toArray, List.set_cons_zero, List.set_cons_succ]
        refine calm_take (by rfl) ?v4011 (fun w' hw' => ?hy4011) ?rest4011
        case hy4011 => go_simp <;> first | rfl | skip
        simp only [Act.put, List.setIfInBounds_toArray, List.set_cons_zero, List.set_cons_succ]
        refine calm_take (by rfl) ?v4012 (fun w' hw' => ?hy4012) ?rest4012
        case hy4012 => go_simp <;> first | rfl | skip
        simp only [Act.put, List.setIfInBounds_toArray, List.set_cons_zero, List.set_cons_succ]
        refine calm_take (by rfl) ?v4013 (fun w' hw' => ?hy4013) ?rest4013
        case hy4013 => go_simp <;> first | rfl | skip
        simp only [Act.put, List.setIfInBounds_toArray, List.set_cons_zero, List.set_cons_succ]
        refine calm_take (by rfl) ?v4014 (fun w' hw' => ?hy4014) ?rest4014
        case hy4014 => obtain ⟨r0, r1, r2, r3, r4, r5, r6, r7⟩ := cells8_next HS.out hw'; go_simp <;> first | rfl | skip
        simp only [Act.put, List.setIfInBounds_toArray, List.set_cons_zero, List.set_cons_succ]
        refine' calm_call (by rfl) (.iface 162 (.agg #[])) ?nx4015 (fun w' => ?hr4015) _ _ ?hn4015 (fun w' hw' => ?hc4015) ?rest4015
        case hr4015 => go_simp <;> rfl
        case hn4015 => rfl
        case hc4015 => exact (of_r c.s _).mono (by rintro e w3 ⟨rfl, hb3⟩; exact ⟨rfl, below_chain hw' hb3⟩)
        simp only [Act.put, List.setIfInBounds_toArray, List.set_cons_zero, List.set_cons_succ]
        refine calm_take (by rfl) ?v4016 (fun w' hw' => ?hy4016) ?rest4016
        case hy4016 => obtain ⟨r0, r1, r2, r3, r4, r5, r6, r7⟩ := cells8_next HS.out hw'; go_simp <;> first | rfl | skip
        simp only [Act.put, List.setIfInBounds_toArray, List.set_cons_zero, List.set_cons_succ]
        refine' calm_call (by rfl) (.bool false) ?nx4017 (fun w' => ?hr4017) _ _ ?hn4017 (fun w' hw' => ?hc4017) ?rest4017
        case hr4017 => go_simp <;> rfl
        case hn4017 => rfl
        case hc4017 => exact (hmay2.out w' (HBW.out.trans (hw'.mono HBW.out.size))).mono (by rintro e w3 ⟨rfl, hb3⟩; exact ⟨rfl, below_chain hw' hb3⟩)
        simp only [Act.put, List.setIfInBounds_toArray, List.set_cons_zero, List.set_cons_succ]
        refine calm_take (by rfl) ?v4018 (fun w' hw' => ?hy4018) ?rest4018
        case hy4018 => go_simp <;> first | rfl | skip
        simp only [Act.put, List.setIfInBounds_toArray, List.set_cons_zero, List.set_cons_succ]
        refine calm_take (by rfl) ?v4019 (fun w' hw' => ?hy4019) ?rest4019
        case hy4019 => go_simp <;> first | rfl | skip
        simp only [Act.put, List.setIfInBounds_toArray, List.set_cons_zero, List.set_cons_succ]
        refine calm_take (by rfl) ?v4020 (fun w' hw' => ?hy4020) ?rest4020
        case hy4020 => go_simp <;> first | rfl | skip
        simp only [Act.put, List.setIfInBounds_toArray, List.set_cons_zero, List.set_cons_succ]
        refine wpQuiet_nil (fun w' hw' => ?_)
        go_wp2
        go_ret
        exact ⟨ret_int HD.out, HBW.out.trans (hw'.mono HBW.out.size)⟩

theorem check_c (c : Col) (hk : c.k = 16) (ho : okType c.k c.s = true) (hc : COK c) (B D E X : SL) (vals : List Value) (w : World) (h : RdC w c B D E X vals) : Calls Tryz.prog 82 #[colV c B D E X] w (IntP (checkC c) w) := by
  have HR := Aside.mk h
  have HC := Aside.mk hc
  have hmay := Aside.mk (fun (hn : c.n ≤ 8 * (c.bits.length : Int)) (w2 : World) (hb : Below w.heap.size w w2) => mayC_any c HC.out hn B D E X vals w2 (HR.out.below hb))
  have hmask := Aside.mk (fun (w2 : World) (hb : Below w.heap.size w w2) => maskCheck_any c.m c.bits B HC.out.lb HC.out.bits w2 (HR.out.bits.below hb))
  have hct := Aside.mk (fun w2 => by have := check_f2 c.k c.s w2; rw [ho] at this; exact this)
  have HMB := Aside.mk (show mayB c = mayCoded c by unfold mayB; rw [hk]; rfl)
  have HO := Aside.mk ho
  have HK := Aside.mk hk
  have HCV := Aside.mk (show colV c B D E X = .agg #[.int .i64 16, .int .i64 c.s, .int .i64 c.n, .int .i64 c.m, .slice B.a c.bits.length B.c, .slice D.a c.data.length D.c, .slice E.a c.ends.length E.c, .slice X.a c.words.length X.c] by rw [colV, hk])
  rw [hk] at hct
  rw [HCV.out] at hmay ⊢
  clear h hc ho hk
  go_enter Tryz.func82, Tryz.ntmps82
  go_wp2_with fail
  have HBW := Aside.mk (below_new w (.cells #[.int .i64 16, .int .i64 c.s, .int .i64 c.n, .int .i64 c.m, .slice B.a c.bits.length B.c, .slice D.a c.data.length D.c, .slice E.a c.ends.length E.c, .slice X.a c.words.length X.c] 63))
  have HS := Aside.mk (show Cells8 w.heap.size (.int .i64 16) (.int .i64 c.s) (.int .i64 c.n) (.int .i64 c.m) (.slice B.a c.bits.length B.c) (.slice D.a c.data.length D.c) (.slice E.a c.ends.length E.c) (.slice X.a c.words.length X.c) (w.alloc (.cells #[.int .i64 16, .int .i64 c.s, .int .i64 c.n, .int .i64 c.m, .slice B.a c.bits.length B.c, .slice D.a c.data.length D.c, .slice E.a c.ends.length E.c, .slice X.a c.words.length X.c] 63)) from box8 (heap_alloc_new w _))
  generalize hw1 : w.alloc (.cells #[.int .i64 16, .int .i64 c.s, .int .i64 c.n, .int .i64 c.m, .slice B.a c.bits.length B.c, .slice D.a c.data.length D.c, .slice E.a c.ends.length E.c, .slice X.a c.words.length X.c] 63) = w1 at *
  clear hw1
  refine (hct.out _).mono ?_
  rintro e w2 ⟨rfl, hb2⟩
  replace HBW := Aside.mk (HBW.out.trans (hb2.mono HBW.out.size))
  replace HS := Aside.mk (cells8_next HS.out hb2)
  clear hb2
  go_wp2
  obtain ⟨p0, p1, p2, p3, p4, p5, p6, p7⟩ := HS.out
  by_cases hm : maskOK c.m c.bits = true
  rotate_left
  · have hme : maskErr c.m c.bits = 160 := by rw [maskErr, if_neg hm]
    have HD := Aside.mk (checkC_mask HO.out (by simpa using hm))
    clear hm
    refine wp_region_calm (by kernel_rfl) (by kernel_rfl) ?_
    refine calm_take (by rfl) ?v5000 (fun w' hw' => ?hy5000) ?rest5000
    case hy5000 => go_simp <;> first | rfl | skip
    simp only [Act.put, List.setIfInBounds_toArray, List.set_cons_zero, List.set_cons_succ]
    refine calm_take (by rfl) ?v5001 (fun w' hw' => ?hy5001) ?rest5001
    case hy5001 => obtain ⟨r0, r1, r2, r3, r4, r5, r6, r7⟩ := cells8_next HS.out hw'; go_simp <;> first | rfl | skip
    simp only [Act.put, List.setIfInBounds_toArray, List.set_cons_zero, List.set_cons_succ]
    refine' calm_call (by rfl) (.int .i64 160) ?nx5002 (fun w' => ?hr5002) _ _ ?hn5002 (fun w' hw' => ?hc5002) ?rest5002
    case hr5002 => go_simp <;> rfl
    case hn5002 => rfl
    case hc5002 => exact (hmask.out w' (HBW.out.trans (hw'.mono HBW.out.size))).mono (by rintro e w3 ⟨rfl, hb3⟩; rw [hme]; exact ⟨rfl, below_chain hw' hb3⟩)
    simp only [Act.put, List.setIfInBounds_toArray, List.set_cons_zero, List.set_cons_succ]
    refine calm_take (by rfl) ?v5003 (fun w' hw' => ?hy5003) ?rest5003
    case hy5003 => go_simp <;> first | rfl | skip
    simp only [Act.put, List.setIfInBounds_toArray, List.set_cons_zero, List.set_cons_succ]
    refine calm_take (by rfl) ?v5004 (fun w' hw' => ?hy5004) ?rest5004
    case hy5004 => go_simp <;> first | rfl | skip
    simp only [Act.put, List.setIfInBounds_toArray, List.set_cons_zero, List.set_cons_succ]
    refine calm_skip (by rfl) ?_
    simp only [Act.put, List.setIfInBounds_toArray, List.set_cons_zero, List.set_cons_succ]
    refine calm_skip (by rfl) ?_
    simp only [Act.put, List.setIfInBounds_toArray, List.set_cons_zero, List.set_cons_succ]
    refine calm_skip (by rfl) ?_
    simp only [Act.put, List.setIfInBounds_toArray, List.set_cons_zero, List.set_cons_succ]
    refine calm_skip (by rfl) ?_
    simp only [Act.put, List.setIfInBounds_toArray, List.set_cons_zero, List.set_cons_succ]
    refine calm_skip (by rfl) ?_
    simp only [Act.put, List.setIfInBounds_toArray, List.set_cons_zero, List.set_cons_succ]
    refine calm_skip (by rfl) ?_
    simp only [Act.put, List.setIfInBounds_toArray, List.set_cons_zero, List.set_cons_succ]
    refine calm_take (by rfl) ?v5011 (fun w' hw' => ?hy5011) ?rest5011
    case hy5011 => go_simp <;> first | rfl | skip
    simp only [Act.put, List.setIfInBounds_toArray, List.set_cons_zero, List.set_cons_succ]
    refine calm_take (by rfl) ?v5012 (fun w' hw' => ?hy5012) ?rest5012
    case hy5012 => go_simp <;> first | rfl | skip
    simp only [Act.put, List.setIfInBounds_toArray, List.set_cons_zero, List.set_cons_succ]
    refine calm_skip (by rfl) ?_
    simp only [Act.put, List.setIfInBounds_toArray, List.set_cons_zero, List.set_cons_succ]
    refine calm_skip (by rfl) ?_
    simp only [Act.put, List.setIfInBounds_toArray, List.set_cons_zero, List.set_cons_succ]
    refine calm_skip (by rfl) ?_
    simp only [Act.put, List.setIfInBounds_toArray, List.set_cons_zero, List.set_cons_succ]
    refine calm_skip (by rfl) ?_
    simp only [Act.put, List.setIfInBounds_toArray, List.set_cons_zero, List.set_cons_succ]
    refine calm_skip (by rfl) ?_
    simp only [Act.put, List.setIfInBounds_toArray, List.set_cons_zero, List.set_cons_succ]
    refine calm_skip (by rfl) ?_
    simp only [Act.put, List.setIfInBounds_toArray, List.set_cons_zero, List.set_cons_succ]
    refine calm_take (by rfl) ?v5019 (fun w' hw' => ?hy5019) ?rest5019
    case hy5019 => go_simp <;> first | rfl | skip
    simp only [Act.put, List.setIfInBounds_toArray, List.set_cons_zero, List.set_cons_succ]
    refine calm_take (by rfl) ?v5020 (fun w' hw' => ?hy5020) ?rest5020
    case hy5020 => go_simp <;> first | rfl | skip
    simp only [Act.put, List.setIfInBounds_toArray, List.set_cons_zero, List.set_cons_succ]
    refine wpQuiet_nil (fun w' hw' => ?_)
    go_wp2
    go_ret
    exact ⟨ret_int HD.out, HBW.out.trans (hw'.mono HBW.out.size)⟩
  · have hme : maskErr c.m c.bits = 0 := by rw [maskErr, if_pos hm]
    by_cases hmn : c.m = c.n
    rotate_left
    · have hmn2 : (c.m != c.n) = true := by simpa using hmn
      have HD := Aside.mk (checkC_len HO.out hmn)
      clear hm hmn
      refine wp_region_calm (by kernel_rfl) (by kernel_rfl) ?_
      refine calm_take (by rfl) ?v6000 (fun w' hw' => ?hy6000) ?rest6000
      case hy6000 => go_simp <;> first | rfl | skip
      simp only [Act.put, List.setIfInBounds_toArray, List.set_cons_zero, List.set_cons_succ]
      refine calm_take (by rfl) ?v6001 (fun w' hw' => ?hy6001) ?rest6001
      case hy6001 => obtain ⟨r0, r1, r2, r3, r4, r5, r6, r7⟩ := cells8_next HS.out hw'; go_simp <;> first | rfl | skip
      simp only [Act.put, List.setIfInBounds_toArray, List.set_cons_zero, List.set_cons_succ]
      refine' calm_call (by rfl) (.int .i64 0) ?nx6002 (fun w' => ?hr6002) _ _ ?hn6002 (fun w' hw' => ?hc6002) ?rest6002
      case hr6002 => go_simp <;> rfl
      case hn6002 => rfl
      case hc6002 => exact (hmask.out w' (HBW.out.trans (hw'.mono HBW.out.size))).mono (by rintro e w3 ⟨rfl, hb3⟩; rw [hme]; exact ⟨rfl, below_chain hw' hb3⟩)
      simp only [Act.put, List.setIfInBounds_toArray, List.set_cons_zero, List.set_cons_succ]
      refine calm_take (by rfl) ?v6003 (fun w' hw' => ?hy6003) ?rest6003
      case hy6003 => go_simp <;> first | rfl | skip
      simp only [Act.put, List.setIfInBounds_toArray, List.set_cons_zero, List.set_cons_succ]
      refine calm_take (by rfl) ?v6004 (fun w' hw' => ?hy6004) ?rest6004
      case hy6004 => go_simp <;> first | rfl | skip
      simp only [Act.put, List.setIfInBounds_toArray, List.set_cons_zero, List.set_cons_succ]
      refine calm_take (by rfl) ?v6005 (fun w' hw' => ?hy6005) ?rest6005
      case hy6005 => go_simp <;> first | rfl | skip
      simp only [Act.put, List.setIfInBounds_toArray, List.set_cons_zero, List.set_cons_succ]
      refine calm_take (by rfl) ?v6006 (fun w' hw' => ?hy6006) ?rest6006
      case hy6006 => go_simp <;> first | rfl | skip
      simp only [Act.put, List.setIfInBounds_toArray, List.set_cons_zero, List.set_cons_succ]
      refine calm_take (by rfl) ?v6007 (fun w' hw' => ?hy6007) ?rest6007
      case hy6007 => obtain ⟨r0, r1, r2, r3, r4, r5, r6, r7⟩ := cells8_next HS.out hw'; go_simp <;> first | rfl | skip
      simp only [Act.put, List.setIfInBounds_toArray, List.set_cons_zero, List.set_cons_succ]
      refine calm_take (by rfl) ?v6008 (fun w' hw' => ?hy6008) ?rest6008
      case hy6008 => go_simp <;> first | rfl | skip
      simp only [Act.put, List.setIfInBounds_toArray, List.set_cons_zero, List.set_cons_succ]
      refine calm_take (by rfl) ?v6009 (fun w' hw' => ?hy6009) ?rest6009
      case hy6009 => obtain ⟨r0, r1, r2, r3, r4, r5, r6, r7⟩ := cells8_next HS.out hw'; go_simp <;> first | rfl | skip
      simp only [Act.put, List.setIfInBounds_toArray, List.set_cons_zero, List.set_cons_succ]
      refine calm_take (by rfl) ?v6010 (fun w' hw' => ?hy6010) ?rest6010
      case hy6010 => go_simp <;> first | rfl | skip
      simp only [Act.put, List.setIfInBounds_toArray, List.set_cons_zero, List.set_cons_succ]
      refine calm_take (by rfl) ?v6011 (fun w' hw' => ?hy6011) ?rest6011
      case hy6011 => go_simp <;> first | rfl | skip
      simp only [Act.put, List.setIfInBounds_toArray, List.set_cons_zero, List.set_cons_succ]
      refine calm_take (by rfl) ?v6012 (fun w' hw' => ?hy6012) ?rest6012
      case hy6012 => go_simp <;> first | rfl | skip
      simp only [Act.put, List.setIfInBounds_toArray, List.set_cons_zero, List.set_cons_succ]
      refine calm_skip (by rfl) ?_
      simp only [Act.put, List.setIfInBounds_toArray, List.set_cons_zero, List.set_cons_succ]
      refine calm_skip (by rfl) ?_
      simp only [Act.put, List.setIfInBounds_toArray, List.set_cons_zero, List.set_cons_succ]
      refine calm_skip (by rfl) ?_
      simp only [Act.put, List.setIfInBounds_toArray, List.set_cons_zero, List.set_cons_succ]
      refine calm_skip (by rfl) ?_
      simp only [Act.put, List.setIfInBounds_toArray, List.set_cons_zero, List.set_cons_succ]
      refine calm_skip (by rfl) ?_
      simp only [Act.put, List.setIfInBounds_toArray, List.set_cons_zero, List.set_cons_succ]
      refine calm_skip (by rfl) ?_
      simp only [Act.put, List.setIfInBounds_toArray, List.set_cons_zero, List.set_cons_succ]
      refine calm_take (by rfl) ?v6019 (fun w' hw' => ?hy6019) ?rest6019
      case hy6019 => go_simp <;> first | rfl | skip
      simp only [Act.put, List.setIfInBounds_toArray, List.set_cons_zero, List.set_cons_succ]
      refine calm_take (by rfl) ?v6020 (fun w' hw' => ?hy6020) ?rest6020
      case hy6020 => go_simp <;> first | rfl | skip
      simp only [Act.put, List.setIfInBounds_toArray, List.set_cons_zero, List.set_cons_succ]
      refine wpQuiet_nil (fun w' hw' => ?_)
      go_wp2
      go_ret
      exact ⟨ret_int HD.out, HBW.out.trans (hw'.mono HBW.out.size)⟩
    · have hmn2 : (c.m != c.n) = false := by simpa using hmn
      have HD := Aside.mk (checkC_may HO.out hm hmn)
      have hmay2 := Aside.mk (hmay.out (by rw [← hmn]; exact mask_room hm))
      rw [HMB.out] at HD
      clear hm hmn hmay
      generalize mayCoded c = mb at *
      cases mb with
      | true =>
        refine wp_region_calm (by kernel_rfl) (by kernel_rfl) ?_
        refine calm_take (by rfl) ?v7000 (fun w' hw' => ?hy7000) ?rest7000
        case hy7000 => go_simp <;> first | rfl | skip
        simp only [Act.put, List.setIfInBounds_toArray, List.set_cons_zero, List.set_cons_succ]
        refine calm_take (by rfl) ?v7001 (fun w' hw' => ?hy7001) ?rest7001
        case hy7001 => obtain ⟨r0, r1, r2, r3, r4, r5, r6, r7⟩ := cells8_next HS.out hw'; go_simp <;> first | rfl | skip
        simp only [Act.put, List.setIfInBounds_toArray, List.set_cons_zero, List.set_cons_succ]
        refine' calm_call (by rfl) (.int .i64 0) ?nx7002 (fun w' => ?hr7002) _ _ ?hn7002 (fun w' hw' => ?hc7002) ?rest7002
        case hr7002 => go_simp <;> rfl
        case hn7002 => rfl
        case hc7002 => exact (hmask.out w' (HBW.out.trans (hw'.mono HBW.out.size))).mono (by rintro e w3 ⟨rfl, hb3⟩; rw [hme]; exact ⟨rfl, below_chain hw' hb3⟩)
        simp only [Act.put, List.setIfInBounds_toArray, List.set_cons_zero, List.set_cons_succ]
        refine calm_take (by rfl) ?v7003 (fun w' hw' => ?hy7003) ?rest7003
        case hy7003 => go_simp <;> first | rfl | skip
        simp only [Act.put, List.setIfInBounds_toArray, List.set_cons_zero, List.set_cons_succ]
        refine calm_take (by rfl) ?v7004 (fun w' hw' => ?hy7004) ?rest7004
        case hy7004 => go_simp <;> first | rfl | skip
        simp only [Act.put, List.setIfInBounds_toArray, List.set_cons_zero, List.set_cons_succ]
        refine calm_take (by rfl) ?v7005 (fun w' hw' => ?hy7005) ?rest7005
        case hy7005 => go_simp <;> first | rfl | skip
        simp only [Act.put, List.setIfInBounds_toArray, List.set_cons_zero, List.set_cons_succ]
        refine calm_take (by rfl) ?v7006 (fun w' hw' => ?hy7006) ?rest7006
        case hy7006 => go_simp <;> first | rfl | skip
        simp only [Act.put, List.setIfInBounds_toArray, List.set_cons_zero, List.set_cons_succ]
        refine calm_take (by rfl) ?v7007 (fun w' hw' => ?hy7007) ?rest7007
        case hy7007 => obtain ⟨r0, r1, r2, r3, r4, r5, r6, r7⟩ := cells8_next HS.out hw'; go_simp <;> first | rfl | skip
        simp only [Act.put, List.setIfInBounds_toArray, List.set_cons_zero, List.set_cons_succ]
        refine calm_take (by rfl) ?v7008 (fun w' hw' => ?hy7008) ?rest7008
        case hy7008 => go_simp <;> first | rfl | skip
        simp only [Act.put, List.setIfInBounds_toArray, List.set_cons_zero, List.set_cons_succ]
        refine calm_take (by rfl) ?v7009 (fun w' hw' => ?hy7009) ?rest7009
        case hy7009 => obtain ⟨r0, r1, r2, r3, r4, r5, r6, r7⟩ := cells8_next HS.out hw'; go_simp <;> first | rfl | skip
        simp only [Act.put, List.setIfInBounds_toArray, List.set_cons_zero, List.set_cons_succ]
        refine calm_take (by rfl) ?v7010 (fun w' hw' => ?hy7010) ?rest7010
        case hy7010 => go_simp <;> first | rfl | skip
        simp only [Act.put, List.setIfInBounds_toArray, List.set_cons_zero, List.set_cons_succ]
        refine calm_take (by rfl) ?v7011 (fun w' hw' => ?hy7011) ?rest7011
        case hy7011 => go_simp <;> first | rfl | skip
        simp only [Act.put, List.setIfInBounds_toArray, List.set_cons_zero, List.set_cons_succ]
        refine calm_take (by rfl) ?v7012 (fun w' hw' => ?hy7012) ?rest7012
        case hy7012 => go_simp <;> first | rfl | skip
        simp only [Act.put, List.setIfInBounds_toArray, List.set_cons_zero, List.set_cons_succ]
        refine calm_take (by rfl) ?v7013 (fun w' hw' => ?hy7013) ?rest7013
        case hy7013 => go_simp <;> first | rfl | skip
        simp only [Act.put, List.setIfInBounds_toArray, List.set_cons_zero, List.set_cons_succ]
        refine calm_take (by rfl) ?v7014 (fun w' hw' => ?hy7014) ?rest7014
        case hy7014 => obtain ⟨r0, r1, r2, r3, r4, r5, r6, r7⟩ := cells8_next HS.out hw'; go_simp <;> first | rfl | skip
        simp only [Act.put, List.setIfInBounds_toArray, List.set_cons_zero, List.set_cons_succ]
        refine' calm_call (by rfl) (.iface 167 (.agg #[.int .i64 4])) ?nx7015 (fun w' => ?hr7015) _ _ ?hn7015 (fun w' hw' => ?hc7015) ?rest7015
        case hr7015 => go_simp <;> rfl
        case hn7015 => rfl
        case hc7015 => exact (of_c c.s _).mono (by rintro e w3 ⟨rfl, hb3⟩; exact ⟨rfl, below_chain hw' hb3⟩)
        simp only [Act.put, List.setIfInBounds_toArray, List.set_cons_zero, List.set_cons_succ]
        refine calm_take (by rfl) ?v7016 (fun w' hw' => ?hy7016) ?rest7016
        case hy7016 => obtain ⟨r0, r1, r2, r3, r4, r5, r6, r7⟩ := cells8_next HS.out hw'; go_simp <;> first | rfl | skip
        simp only [Act.put, List.setIfInBounds_toArray, List.set_cons_zero, List.set_cons_succ]
        refine' calm_call (by rfl) (.bool true) ?nx7017 (fun w' => ?hr7017) _ _ ?hn7017 (fun w' hw' => ?hc7017) ?rest7017
        case hr7017 => go_simp <;> rfl
        case hn7017 => rfl
        case hc7017 => exact (hmay2.out w' (HBW.out.trans (hw'.mono HBW.out.size))).mono (by rintro e w3 ⟨rfl, hb3⟩; exact ⟨rfl, below_chain hw' hb3⟩)
        simp only [Act.put, List.setIfInBounds_toArray, List.set_cons_zero, List.set_cons_succ]
        refine calm_take (by rfl) ?v7018 (fun w' hw' => ?hy7018) ?rest7018
        case hy7018 => go_simp <;> first | rfl | skip
        simp only [Act.put, List.setIfInBounds_toArray, List.set_cons_zero, List.set_cons_succ]
        refine calm_take (by rfl) ?v7019 (fun w' hw' => ?hy7019) ?rest7019
        case hy7019 => go_simp <;> first | rfl | skip
        simp only [Act.put, List.setIfInBounds_toArray, List.set_cons_zero, List.set_cons_succ]
        refine calm_take (by rfl) ?v7020 (fun w' hw' => ?hy7020) ?rest7020
        case hy7020 => go_simp <;> first | rfl | skip
        simp only [Act.put, List.setIfInBounds_toArray, List.set_cons_zero, List.set_cons_succ]
        refine wpQuiet_nil (fun w' hw' => ?_)
        go_wp2
        go_ret
        exact ⟨ret_int HD.out, HBW.out.trans (hw'.mono HBW.out.size)⟩
      | false =>
        refine wp_region_calm (by kernel_rfl) (by kernel_rfl) ?_
        refine calm_take (by rfl) ?v8000 (fun w' hw' => ?hy8000) ?rest8000
        case hy8000 => go_simp <;> first | rfl | skip
        simp only [Act.put, List.setIfInBounds_toArray, List.set_cons_zero, List.set_cons_succ]
        refine calm_take (by rfl) ?v8001 (fun w' hw' => ?hy8001) ?rest8001
        case hy8001 => obtain ⟨r0, r1, r2, r3, r4, r5, r6, r7⟩ := cells8_next HS.out hw'; go_simp <;> first | rfl | skip
        simp only [Act.put, List.setIfInBounds_toArray, List.set_cons_zero, List.set_cons_succ]
        refine' calm_call (by rfl) (.int .i64 0) ?nx8002 (fun w' => ?hr8002) _ _ ?hn8002 (fun w' hw' => ?hc8002) ?rest8002
        case hr8002 => go_simp <;> rfl
        case hn8002 => rfl
        case hc8002 => exact (hmask.out w' (HBW.out.trans (hw'.mono HBW.out.size))).mono (by rintro e w3 ⟨rfl, hb3⟩; rw [hme]; exact ⟨rfl, below_chain hw' hb3⟩)
        simp only [Act.put, List.setIfInBounds_toArray, List.set_cons_zero, List.set_cons_succ]
        refine calm_take (by rfl) ?v8003 (fun w' hw' => ?hy8003) ?rest8003
        case hy8003 => go_simp <;> first | rfl | skip
        simp only [Act.put, List.setIfInBounds_toArray, List.set_cons_zero, List.set_cons_succ]
        refine calm_take (by rfl) ?v8004 (fun w' hw' => ?hy8004) ?rest8004
        case hy8004 => go_simp <;> first | rfl | skip
        simp only [Act.put, List.setIfInBounds_toArray, List.set_cons_zero, List.set_cons_succ]
        refine calm_take (by rfl) ?v8005 (fun w' hw' => ?hy8005) ?rest8005
        case hy8005 => go_simp <;> first | rfl | skip
        simp only [Act.put, List.setIfInBounds_toArray, List.set_cons_zero, List.set_cons_succ]
        refine calm_take (by rfl) ?v8006 (fun w' hw' => ?hy8006) ?rest8006
        case hy8006 => go_simp <;> first | rfl | skip
        simp only [Act.put, List.setIfInBounds_toArray, List.set_cons_zero, List.set_cons_succ]
        refine calm_take (by rfl) ?v8007 (fun w' hw' => ?hy8007) ?rest8007
        case hy8007 => obtain ⟨r0, r1, r2, r3, r4, r5, r6, r7⟩ := cells8_next HS.out hw'; go_simp <;> first | rfl | skip
        simp only [Act.put, List.setIfInBounds_toArray, List.set_cons_zero, List.set_cons_succ]
        refine calm_take (by rfl) ?v8008 (fun w' hw' => ?hy8008) ?rest8008
        case hy8008 => go_simp <;> first | rfl | skip
        simp only [Act.put, List.setIfInBounds_toArray, List.set_cons_zero, List.set_cons_succ]
        refine calm_take (by rfl) ?v8009 (fun w' hw' => ?hy8009) ?rest8009
        case hy8009 => obtain ⟨r0, r1, r2, r3, r4, r5, r6, r7⟩ := cells8_next HS.out hw'; go_simp <;> first | rfl | skip
        simp only [Act.put, List.setIfInBounds_toArray, List.set_cons_zero, List.set_cons_succ]
        refine calm_take (by rfl) ?v8010 (fun w' hw' => ?hy8010) ?rest8010
        case hy8010 => go_simp <;> first | rfl | skip
        simp only [Act.put, List.setIfInBounds_toArray, List.set_cons_zero, List.set_cons_succ]
        refine calm_take (by rfl) ?v8011 (fun w' hw' => ?hy8011) ?rest8011
        case hy8011 => go_simp <;> first | rfl | skip
        simp only [Act.put, List.setIfInBounds_toArray, List.set_cons_zero, List.set_cons_succ]
        refine calm_take (by rfl) ?v8012 (fun w' hw' => ?hy8012) ?rest8012
        case hy8012 => go_simp <;> first | rfl | skip
        simp only [Act.put, List.setIfInBounds_toArray, List.set_cons_zero, List.set_cons_succ]
        refine calm_take (by rfl) ?v8013 (fun w' hw' => ?hy8013) ?rest8013
        case hy8013 => go_simp <;> first | rfl | skip
        simp only [Act.put, List.setIfInBounds_toArray, List.set_cons_zero, List.set_cons_succ]
        refine calm_take (by rfl) ?v8014 (fun w' hw' => ?hy8014) ?rest8014
        case hy8014 => obtain ⟨r0, r1, r2, r3, r4, r5, r6, r7⟩ := cells8_next HS.out hw'; go_simp <;> first | rfl | skip
        simp only [Act.put, List.setIfInBounds_toArray, List.set_cons_zero, List.set_cons_succ]
        refine' calm_call (by rfl) (.iface 167 (.agg #[.int .i64 4])) ?nx8015 (fun w' => ?hr8015) _ _ ?hn8015 (fun w' hw' => ?hc8015) ?rest8015
        case hr8015 => go_simp <;> rfl
        case hn8015 => rfl
        case hc8015 => exact (of_c c.s _).mono (by rintro e w3 ⟨rfl, hb3⟩; exact ⟨rfl, below_chain hw' hb3⟩)
        simp only [Act.put, List.setIfInBounds_toArray, List.set_cons_zero, List.set_cons_succ]
        refine calm_take (by rfl) ?v8016 (fun w' hw' => ?hy8016) ?rest8016
        case hy8016 => obtain ⟨r0, r1, r2, r3, r4, r5, r6, r7⟩ := cells8_next HS.out hw'; go_simp <;> first | rfl | skip
        simp only [Act.put, List.setIfInBounds_toArray, List.set_cons_zero, List.set_cons_succ]
        refine' calm_call (by rfl) (.bool false) ?nx8017 (fun w' => ?hr8017) _ _ ?hn8017 (fun w' hw' => ?hc8017) ?rest8017
        case hr8017 => go_simp <;> rfl
        case hn8017 => rfl
        case hc8017 => exact (hmay2.out w' (HBW.out.trans (hw'.mono HBW.out.size))).mono (by rintro e w3 ⟨rfl, hb3⟩; exact ⟨rfl, below_chain hw' hb3⟩)
        simp only [Act.put, List.setIfInBounds_toArray, List.set_cons_zero, List.set_cons_succ]
        refine calm_take (by rfl) ?v8018 (fun w' hw' => ?hy8018) ?rest8018
        case hy8018 => go_simp <;> first | rfl | skip
        simp only [Act.put, List.setIfInBounds_toArray, List.set_cons_zero, List.set_cons_succ]
        refine calm_take (by rfl) ?v8019 (fun w' hw' => ?hy8019) ?rest8019
        case hy8019 => go_simp <;> first | rfl | skip
        simp only [Act.put, List.setIfInBounds_toArray, List.set_cons_zero, List.set_cons_succ]
        refine calm_take (by rfl) ?v8020 (fun w' hw' => ?hy8020) ?rest8020
        case hy8020 => go_simp <;> first | rfl | skip
        simp only [Act.put, List.setIfInBounds_toArray, List.set_cons_zero, List.set_cons_succ]
        refine wpQuiet_nil (fun w' hw' => ?_)
        go_wp2
        go_ret
        exact ⟨ret_int HD.out, HBW.out.trans (hw'.mono HBW.out.size)⟩

theorem check_f (c : Col) (h1 : c.k ≠ 15) (h2 : c.k ≠ 16) {W : Nat} (hW : widthOf c.k = (W : Int)) (hW8 : W = 1 ∨ W = 2 ∨ W = 4 ∨ W = 8) (ho : okType c.k c.s = true) (hc : COK c) (B D E X : SL) (vals : List Value) (w : World) (h : RdC w c B D E X vals) : Calls Tryz.prog 82 #[colV c B D E X] w (IntP (checkC c) w) := by
  have HR := Aside.mk h
  have HC := Aside.mk hc
  have hmay := Aside.mk (fun (hn : c.n ≤ 8 * (c.bits.length : Int)) (w2 : World) (hb : Below w.heap.size w w2) => mayF_any W hW8 c HC.out hn B D E X vals w2 (HR.out.below hb))
  have hmask := Aside.mk (fun (w2 : World) (hb : Below w.heap.size w w2) => maskCheck_any c.m c.bits B HC.out.lb HC.out.bits w2 (HR.out.bits.below hb))
  have hct := Aside.mk (fun w2 => by have := check_f2 c.k c.s w2; rw [ho] at this; exact this)
  have HMB := Aside.mk (show mayB c = mayFixed c.k c.s W c by unfold mayB; rw [if_neg h1, if_neg h2, hW]; rfl)
  have HO := Aside.mk ho
  have H1 := Aside.mk h1
  have H2 := Aside.mk h2
  have HWW := Aside.mk hW
  clear h hc ho h1 h2 hW
  dsimp only [colV] at hmay ⊢
  go_enter Tryz.func82, Tryz.ntmps82
  go_wp2_with fail
  have HBW := Aside.mk (below_new w (.cells #[.int .i64 c.k, .int .i64 c.s, .int .i64 c.n, .int .i64 c.m, .slice B.a c.bits.length B.c, .slice D.a c.data.length D.c, .slice E.a c.ends.length E.c, .slice X.a c.words.length X.c] 63))
  have HS := Aside.mk (show Cells8 w.heap.size (.int .i64 c.k) (.int .i64 c.s) (.int .i64 c.n) (.int .i64 c.m) (.slice B.a c.bits.length B.c) (.slice D.a c.data.length D.c) (.slice E.a c.ends.length E.c) (.slice X.a c.words.length X.c) (w.alloc (.cells #[.int .i64 c.k, .int .i64 c.s, .int .i64 c.n, .int .i64 c.m, .slice B.a c.bits.length B.c, .slice D.a c.data.length D.c, .slice E.a c.ends.length E.c, .slice X.a c.words.length X.c] 63)) from box8 (heap_alloc_new w _))
  generalize hw1 : w.alloc (.cells #[.int .i64 c.k, .int .i64 c.s, .int .i64 c.n, .int .i64 c.m, .slice B.a c.bits.length B.c, .slice D.a c.data.length D.c, .slice E.a c.ends.length E.c, .slice X.a c.words.length X.c] 63) = w1 at *
  clear hw1
  refine (hct.out _).mono ?_
  rintro e w2 ⟨rfl, hb2⟩
  replace HBW := Aside.mk (HBW.out.trans (hb2.mono HBW.out.size))
  replace HS := Aside.mk (cells8_next HS.out hb2)
  clear hb2
  go_wp2
  obtain ⟨p0, p1, p2, p3, p4, p5, p6, p7⟩ := HS.out
  by_cases hm : maskOK c.m c.bits = true
  rotate_left
  · have hme : maskErr c.m c.bits = 160 := by rw [maskErr, if_neg hm]
    have HD := Aside.mk (checkC_mask HO.out (by simpa using hm))
    clear hm
    refine wp_region_calm (by kernel_rfl) (by kernel_rfl) ?_
    refine calm_take (by rfl) ?v9000 (fun w' hw' => ?hy9000) ?rest9000
    case hy9000 => go_simp <;> first | rfl | skip
    simp only [Act.put, List.setIfInBounds_toArray, List.set_cons_zero, List.set_cons_succ]
    refine calm_take (by rfl) ?v9001 (fun w' hw' => ?hy9001) ?rest9001
    case hy9001 => obtain ⟨r0, r1, r2, r3, r4, r5, r6, r7⟩ := cells8_next HS.out hw'; go_simp <;> first | rfl | skip
    simp only [Act.put, List.setIfInBounds_toArray, List.set_cons_zero, List.set_cons_succ]
    refine' calm_call (by rfl) (.int .i64 160) ?nx9002 (fun w' => ?hr9002) _ _ ?hn9002 (fun w' hw' => ?hc9002) ?rest9002
    case hr9002 => go_simp <;> rfl
    case hn9002 => rfl
    case hc9002 => exact (hmask.out w' (HBW.out.trans (hw'.mono HBW.out.size))).mono (by rintro e w3 ⟨rfl, hb3⟩; rw [hme]; exact ⟨rfl, below_chain hw' hb3⟩)
    simp only [Act.put, List.setIfInBounds_toArray, List.set_cons_zero, List.set_cons_succ]
    refine calm_take (by rfl) ?v9003 (fun w' hw' => ?hy9003) ?rest9003
    case hy9003 => go_simp <;> first | rfl | skip
    simp only [Act.put, List.setIfInBounds_toArray, List.set_cons_zero, List.set_cons_succ]
    refine calm_take (by rfl) ?v9004 (fun w' hw' => ?hy9004) ?rest9004
    case hy9004 => go_simp <;> first | rfl | skip
    simp only [Act.put, List.setIfInBounds_toArray, List.set_cons_zero, List.set_cons_succ]
    refine calm_skip (by rfl) ?_
    simp only [Act.put, List.setIfInBounds_toArray, List.set_cons_zero, List.set_cons_succ]
    refine calm_skip (by rfl) ?_
    simp only [Act.put, List.setIfInBounds_toArray, List.set_cons_zero, List.set_cons_succ]
    refine calm_skip (by rfl) ?_
    simp only [Act.put, List.setIfInBounds_toArray, List.set_cons_zero, List.set_cons_succ]
    refine calm_skip (by rfl) ?_
    simp only [Act.put, List.setIfInBounds_toArray, List.set_cons_zero, List.set_cons_succ]
    refine calm_skip (by rfl) ?_
    simp only [Act.put, List.setIfInBounds_toArray, List.set_cons_zero, List.set_cons_succ]
    refine calm_skip (by rfl) ?_
    simp only [Act.put, List.setIfInBounds_toArray, List.set_cons_zero, List.set_cons_succ]
    refine calm_take (by rfl) ?v9011 (fun w' hw' => ?hy9011) ?rest9011
    case hy9011 => go_simp <;> first | rfl | skip
    simp only [Act.put, List.setIfInBounds_toArray, List.set_cons_zero, List.set_cons_succ]
    refine calm_take (by rfl) ?v9012 (fun w' hw' => ?hy9012) ?rest9012
    case hy9012 => go_simp <;> first | rfl | skip
    simp only [Act.put, List.setIfInBounds_toArray, List.set_cons_zero, List.set_cons_succ]
    refine calm_skip (by rfl) ?_
    simp only [Act.put, List.setIfInBounds_toArray, List.set_cons_zero, List.set_cons_succ]
    refine calm_skip (by rfl) ?_
    simp only [Act.put, List.setIfInBounds_toArray, List.set_cons_zero, List.set_cons_succ]
    refine calm_skip (by rfl) ?_
    simp only [Act.put, List.setIfInBounds_toArray, List.set_cons_zero, List.set_cons_succ]
    refine calm_skip (by rfl) ?_
    simp only [Act.put, List.setIfInBounds_toArray, List.set_cons_zero, List.set_cons_succ]
    refine calm_skip (by rfl) ?_
    simp only [Act.put, List.setIfInBounds_toArray, List.set_cons_zero, List.set_cons_succ]
    refine calm_skip (by rfl) ?_
    simp only [Act.put, List.setIfInBounds_toArray, List.set_cons_zero, List.set_cons_succ]
    refine calm_take (by rfl) ?v9019 (fun w' hw' => ?hy9019) ?rest9019
    case hy9019 => go_simp <;> first | rfl | skip
    simp only [Act.put, List.setIfInBounds_toArray, List.set_cons_zero, List.set_cons_succ]
    refine calm_take (by rfl) ?v9020 (fun w' hw' => ?hy9020) ?rest9020
    case hy9020 => go_simp <;> first | rfl | skip
    simp only [Act.put, List.setIfInBounds_toArray, List.set_cons_zero, List.set_cons_succ]
    refine wpQuiet_nil (fun w' hw' => ?_)
    go_wp2
    go_ret
    exact ⟨ret_int HD.out, HBW.out.trans (hw'.mono HBW.out.size)⟩
  · have hme : maskErr c.m c.bits = 0 := by rw [maskErr, if_pos hm]
    by_cases hmn : c.m = c.n
    rotate_left
    · have hmn2 : (c.m != c.n) = true := by simpa using hmn
      have HD := Aside.mk (checkC_len HO.out hmn)
      clear hm hmn
      refine wp_region_calm (by kernel_rfl) (by kernel_rfl) ?_
      refine calm_take (by rfl) ?v10000 (fun w' hw' => ?hy10000) ?rest10000
      case hy10000 => go_simp <;> first | rfl | skip
      simp only [Act.put, List.setIfInBounds_toArray, List.set_cons_zero, List.set_cons_succ]
      refine calm_take (by rfl) ?v10001 (fun w' hw' => ?hy10001) ?rest10001
      case hy10001 => obtain ⟨r0, r1, r2, r3, r4, r5, r6, r7⟩ := cells8_next HS.out hw'; go_simp <;> first | rfl | skip
      simp only [Act.put, List.setIfInBounds_toArray, List.set_cons_zero, List.set_cons_succ]
      refine' calm_call (by rfl) (.int .i64 0) ?nx10002 (fun w' => ?hr10002) _ _ ?hn10002 (fun w' hw' => ?hc10002) ?rest10002
      case hr10002 => go_simp <;> rfl
      case hn10002 => rfl
      case hc10002 => exact (hmask.out w' (HBW.out.trans (hw'.mono HBW.out.size))).mono (by rintro e w3 ⟨rfl, hb3⟩; rw [hme]; exact ⟨rfl, below_chain hw' hb3⟩)
      simp only [Act.put, List.setIfInBounds_toArray, List.set_cons_zero, List.set_cons_succ]
      refine calm_take (by rfl) ?v10003 (fun w' hw' => ?hy10003) ?rest10003
      case hy10003 => go_simp <;> first | rfl | skip
      simp only [Act.put, List.setIfInBounds_toArray, List.set_cons_zero, List.set_cons_succ]
      refine calm_take (by rfl) ?v10004 (fun w' hw' => ?hy10004) ?rest10004
      case hy10004 => go_simp <;> first | rfl | skip
      simp only [Act.put, List.setIfInBounds_toArray, List.set_cons_zero, List.set_cons_succ]
      refine calm_take (by rfl) ?v10005 (fun w' hw' => ?hy10005) ?rest10005
      case hy10005 => go_simp <;> first | rfl | skip
      simp only [Act.put, List.setIfInBounds_toArray, List.set_cons_zero, List.set_cons_succ]
      refine calm_take (by rfl) ?v10006 (fun w' hw' => ?hy10006) ?rest10006
      case hy10006 => go_simp <;> first | rfl | skip
      simp only [Act.put, List.setIfInBounds_toArray, List.set_cons_zero, List.set_cons_succ]
      refine calm_take (by rfl) ?v10007 (fun w' hw' => ?hy10007) ?rest10007
      case hy10007 => obtain ⟨r0, r1, r2, r3, r4, r5, r6, r7⟩ := cells8_next HS.out hw'; go_simp <;> first | rfl | skip
      simp only [Act.put, List.setIfInBounds_toArray, List.set_cons_zero, List.set_cons_succ]
      refine calm_take (by rfl) ?v10008 (fun w' hw' => ?hy10008) ?rest10008
      case hy10008 => go_simp <;> first | rfl | skip
      simp only [Act.put, List.setIfInBounds_toArray, List.set_cons_zero, List.set_cons_succ]
      refine calm_take (by rfl) ?v10009 (fun w' hw' => ?hy10009) ?rest10009
      case hy10009 => obtain ⟨r0, r1, r2, r3, r4, r5, r6, r7⟩ := cells8_next HS.out hw'; go_simp <;> first | rfl | skip
      simp only [Act.put, List.setIfInBounds_toArray, List.set_cons_zero, List.set_cons_succ]
      refine calm_take (by rfl) ?v10010 (fun w' hw' => ?hy10010) ?rest10010
      case hy10010 => go_simp <;> first | rfl | skip
      simp only [Act.put, List.setIfInBounds_toArray, List.set_cons_zero, List.set_cons_succ]
      refine calm_take (by rfl) ?v10011 (fun w' hw' => ?hy10011) ?rest10011
      case hy10011 => go_simp <;> first | rfl | skip
      simp only [Act.put, List.setIfInBounds_toArray, List.set_cons_zero, List.set_cons_succ]
      refine calm_take (by rfl) ?v10012 (fun w' hw' => ?hy10012) ?rest10012
      case hy10012 => go_simp <;> first | rfl | skip
      simp only [Act.put, List.setIfInBounds_toArray, List.set_cons_zero, List.set_cons_succ]
      refine calm_skip (by rfl) ?_
      simp only [Act.put, List.setIfInBounds_toArray, List.set_cons_zero, List.set_cons_succ]
      refine calm_skip (by rfl) ?_
      simp only [Act.put, List.setIfInBounds_toArray, List.set_cons_zero, List.set_cons_succ]
      refine calm_skip (by rfl) ?_
      simp only [Act.put, List.setIfInBounds_toArray, List.set_cons_zero, List.set_cons_succ]
      refine calm_skip (by rfl) ?_
      simp only [Act.put, List.setIfInBounds_toArray, List.set_cons_zero, List.set_cons_succ]
      refine calm_skip (by rfl) ?_
      simp only [Act.put, List.setIfInBounds_toArray, List.set_cons_zero, List.set_cons_succ]
      refine calm_skip (by rfl) ?_
      simp only [Act.put, List.setIfInBounds_toArray, List.set_cons_zero, List.set_cons_succ]
      refine calm_take (by rfl) ?v10019 (fun w' hw' => ?hy10019) ?rest10019
      case hy10019 => go_simp <;> first | rfl | skip
      simp only [Act.put, List.setIfInBounds_toArray, List.set_cons_zero, List.set_cons_succ]
      refine calm_take (by rfl) ?v10020 (fun w' hw' => ?hy10020) ?rest10020
      case hy10020 => go_simp <;> first | rfl | skip
      simp only [Act.put, List.setIfInBounds_toArray, List.set_cons_zero, List.set_cons_succ]
      refine wpQuiet_nil (fun w' hw' => ?_)
      go_wp2
      go_ret
      exact ⟨ret_int HD.out, HBW.out.trans (hw'.mono HBW.out.size)⟩
    · have hmn2 : (c.m != c.n) = false := by simpa using hmn
      have HD := Aside.mk (checkC_may HO.out hm hmn)
      have hmay2 := Aside.mk (hmay.out (by rw [← hmn]; exact mask_room hm))
      rw [HMB.out] at HD
      clear hm hmn hmay
      generalize mayFixed c.k c.s W c = mb at *
      cases mb with
      | true =>
        refine wp_region_calm (by kernel_rfl) (by kernel_rfl) ?_
        refine calm_take (by rfl) ?v11000 (fun w' hw' => ?hy11000) ?rest11000
        case hy11000 => go_simp <;> first | rfl | skip
        simp only [Act.put, List.setIfInBounds_toArray, List.set_cons_zero, List.set_cons_succ]
        refine calm_take (by rfl) ?v11001 (fun w' hw' => ?hy11001) ?rest11001
        case hy11001 => obtain ⟨r0, r1, r2, r3, r4, r5, r6, r7⟩ := cells8_next HS.out hw'; go_simp <;> first | rfl | skip
        simp only [Act.put, List.setIfInBounds_toArray, List.set_cons_zero, List.set_cons_succ]
        refine' calm_call (by rfl) (.int .i64 0) ?nx11002 (fun w' => ?hr11002) _ _ ?hn11002 (fun w' hw' => ?hc11002) ?rest11002
        case hr11002 => go_simp <;> rfl
        case hn11002 => rfl
        case hc11002 => exact (hmask.out w' (HBW.out.trans (hw'.mono HBW.out.size))).mono (by rintro e w3 ⟨rfl, hb3⟩; rw [hme]; exact ⟨rfl, below_chain hw' hb3⟩)
        simp only [Act.put, List.setIfInBounds_toArray, List.set_cons_zero, List.set_cons_succ]
        refine calm_take (by rfl) ?v11003 (fun w' hw' => ?hy11003) ?rest11003
        case hy11003 => go_simp <;> first | rfl | skip
        simp only [Act.put, List.setIfInBounds_toArray, List.set_cons_zero, List.set_cons_succ]
        refine calm_take (by rfl) ?v11004 (fun w' hw' => ?hy11004) ?rest11004
        case hy11004 => go_simp <;> first | rfl | skip
        simp only [Act.put, List.setIfInBounds_toArray, List.set_cons_zero, List.set_cons_succ]
        refine calm_take (by rfl) ?v11005 (fun w' hw' => ?hy11005) ?rest11005
        case hy11005 => go_simp <;> first | rfl | skip
        simp only [Act.put, List.setIfInBounds_toArray, List.set_cons_zero, List.set_cons_succ]
        refine calm_take (by rfl) ?v11006 (fun w' hw' => ?hy11006) ?rest11006
        case hy11006 => go_simp <;> first | rfl | skip
        simp only [Act.put, List.setIfInBounds_toArray, List.set_cons_zero, List.set_cons_succ]
        refine calm_take (by rfl) ?v11007 (fun w' hw' => ?hy11007) ?rest11007
        case hy11007 => obtain ⟨r0, r1, r2, r3, r4, r5, r6, r7⟩ := cells8_next HS.out hw'; go_simp <;> first | rfl | skip
        simp only [Act.put, List.setIfInBounds_toArray, List.set_cons_zero, List.set_cons_succ]
        refine calm_take (by rfl) ?v11008 (fun w' hw' => ?hy11008) ?rest11008
        case hy11008 => go_simp <;> first | rfl | skip
        simp only [Act.put, List.setIfInBounds_toArray, List.set_cons_zero, List.set_cons_succ]
        refine calm_take (by rfl) ?v11009 (fun w' hw' => ?hy11009) ?rest11009
        case hy11009 => obtain ⟨r0, r1, r2, r3, r4, r5, r6, r7⟩ := cells8_next HS.out hw'; go_simp <;> first | rfl | skip
        simp only [Act.put, List.setIfInBounds_toArray, List.set_cons_zero, List.set_cons_succ]
        refine calm_take (by rfl) ?v11010 (fun w' hw' => ?hy11010) ?rest11010
        case hy11010 => go_simp <;> first | rfl | skip
        simp only [Act.put, List.setIfInBounds_toArray, List.set_cons_zero, List.set_cons_succ]
        refine calm_take (by rfl) ?v11011 (fun w' hw' => ?hy11011) ?rest11011
        case hy11011 => go_simp <;> first | rfl | skip
        simp only [Act.put, List.setIfInBounds_toArray, List.set_cons_zero, List.set_cons_succ]
        refine calm_take (by rfl) ?v11012 (fun w' hw' => ?hy11012) ?rest11012
        case hy11012 => go_simp <;> first | rfl | skip
        simp only [Act.put, List.setIfInBounds_toArray, List.set_cons_zero, List.set_cons_succ]
        refine calm_take (by rfl) ?v11013 (fun w' hw' => ?hy11013) ?rest11013
        case hy11013 => go_simp <;> first | rfl | skip
        simp only [Act.put, List.setIfInBounds_toArray, List.set_cons_zero, List.set_cons_succ]
        refine calm_take (by rfl) ?v11014 (fun w' hw' => ?hy11014) ?rest11014
        case hy11014 => obtain ⟨r0, r1, r2, r3, r4, r5, r6, r7⟩ := cells8_next HS.out hw'; go_simp <;> first | rfl | skip
        simp only [Act.put, List.setIfInBounds_toArray, List.set_cons_zero, List.set_cons_succ]
        refine' calm_call (by rfl) (.iface 165 (.agg #[.int .i64 (W : Int)])) ?nx11015 (fun w' => ?hr11015) _ _ ?hn11015 (fun w' hw' => ?hc11015) ?rest11015
        case hr11015 => go_simp <;> rfl
        case hn11015 => rfl
        case hc11015 => exact (of_f c.k c.s H1.out H2.out HWW.out _).mono (by rintro e w3 ⟨rfl, hb3⟩; exact ⟨rfl, below_chain hw' hb3⟩)
        simp only [Act.put, List.setIfInBounds_toArray, List.set_cons_zero, List.set_cons_succ]
        refine calm_take (by rfl) ?v11016 (fun w' hw' => ?hy11016) ?rest11016
        case hy11016 => obtain ⟨r0, r1, r2, r3, r4, r5, r6, r7⟩ := cells8_next HS.out hw'; go_simp <;> first | rfl | skip
        simp only [Act.put, List.setIfInBounds_toArray, List.set_cons_zero, List.set_cons_succ]
        refine' calm_call (by rfl) (.bool true) ?nx11017 (fun w' => ?hr11017) _ _ ?hn11017 (fun w' hw' => ?hc11017) ?rest11017
        case hr11017 => go_simp <;> rfl
        case hn11017 => rfl
        case hc11017 => exact (hmay2.out w' (HBW.out.trans (hw'.mono HBW.out.size))).mono (by rintro e w3 ⟨rfl, hb3⟩; exact ⟨rfl, below_chain hw' hb3⟩)
        simp only [Act.put, List.setIfInBounds_toArray, List.set_cons_zero, List.set_cons_succ]
        refine calm_take (by rfl) ?v11018 (fun w' hw' => ?hy11018) ?rest11018
        case hy11018 => go_simp <;> first | rfl | skip
        simp only [Act.put, List.setIfInBounds_toArray, List.set_cons_zero, List.set_cons_succ]
        refine calm_take (by rfl) ?v11019 (fun w' hw' => ?hy11019) ?rest11019
        case hy11019 => go_simp <;> first | rfl | skip
        simp only [Act.put, List.setIfInBounds_toArray, List.set_cons_zero, List.set_cons_succ]
        refine calm_take (by rfl) ?v11020 (fun w' hw' => ?hy11020) ?rest11020
        case hy11020 => go_simp <;> first | rfl | skip
        simp only [Act.put, List.setIfInBounds_toArray, List.set_cons_zero, List.set_cons_succ]
        refine wpQuiet_nil (fun w' hw' => ?_)
        go_wp2
        go_ret
        exact ⟨ret_int HD.out, HBW.out.trans (hw'.mono HBW.out.size)⟩
      | false =>
        refine wp_region_calm (by kernel_rfl) (by kernel_rfl) ?_
        refine calm_take (by rfl) ?v12000 (fun w' hw' => ?hy12000) ?rest12000
        case hy12000 => go_simp <;> first | rfl | skip
        simp only [Act.put, List.setIfInBounds_toArray, List.set_cons_zero, List.set_cons_succ]
        refine calm_take (by rfl) ?v12001 (fun w' hw' => ?hy12001) ?rest12001
        case hy12001 => obtain ⟨r0, r1, r2, r3, r4, r5, r6, r7⟩ := cells8_next HS.out hw'; go_simp <;> first | rfl | skip
        simp only [Act.put, List.setIfInBounds_toArray, List.set_cons_zero, List.set_cons_succ]
        refine' calm_call (by rfl) (.int .i64 0) ?nx12002 (fun w' => ?hr12002) _ _ ?hn12002 (fun w' hw' => ?hc12002) ?rest12002
        case hr12002 => go_simp <;> rfl
        case hn12002 => rfl
        case hc12002 => exact (hmask.out w' (HBW.out.trans (hw'.mono HBW.out.size))).mono (by rintro e w3 ⟨rfl, hb3⟩; rw [hme]; exact ⟨rfl, below_chain hw' hb3⟩)
        simp only [Act.put, List.setIfInBounds_toArray, List.set_cons_zero, List.set_cons_succ]
        refine calm_take (by rfl) ?v12003 (fun w' hw' => ?hy12003) ?rest12003
        case hy12003 => go_simp <;> first | rfl | skip
        simp only [Act.put, List.setIfInBounds_toArray, List.set_cons_zero, List.set_cons_succ]
        refine calm_take (by rfl) ?v12004 (fun w' hw' => ?hy12004) ?rest12004
        case hy12004 => go_simp <;> first | rfl | skip
        simp only [Act.put, List.setIfInBounds_toArray, List.set_cons_zero, List.set_cons_succ]
        refine calm_take (by rfl) ?v12005 (fun w' hw' => ?hy12005) ?rest12005
        case hy12005 => go_simp <;> first | rfl | skip
        simp only [Act.put, List.setIfInBounds_toArray, List.set_cons_zero, List.set_cons_succ]
        refine calm_take (by rfl) ?v12006 (fun w' hw' => ?hy12006) ?rest12006
        case hy12006 => go_simp <;> first | rfl | skip
        simp only [Act.put, List.setIfInBounds_toArray, List.set_cons_zero, List.set_cons_succ]
        refine calm_take (by rfl) ?v12007 (fun w' hw' => ?hy12007) ?rest12007
        case hy12007 => obtain ⟨r0, r1, r2, r3, r4, r5, r6, r7⟩ := cells8_next HS.out hw'; go_simp <;> first | rfl | skip
        simp only [Act.put, List.setIfInBounds_toArray, List.set_cons_zero, List.set_cons_succ]
        refine calm_take (by rfl) ?v12008 (fun w' hw' => ?hy12008) ?rest12008
        case hy12008 => go_simp <;> first | rfl | skip
        simp only [Act.put, List.setIfInBounds_toArray, List.set_cons_zero, List.set_cons_succ]
        refine calm_take (by rfl) ?v12009 (fun w' hw' => ?hy12009) ?rest12009
        case hy12009 => obtain ⟨r0, r1, r2, r3, r4, r5, r6, r7⟩ := cells8_next HS.out hw'; go_simp <;> first | rfl | skip
        simp only [Act.put, List.setIfInBounds_toArray, List.set_cons_zero, List.set_cons_succ]
        refine calm_take (by rfl) ?v12010 (fun w' hw' => ?hy12010) ?rest12010
        case hy12010 => go_simp <;> first | rfl | skip
        simp only [Act.put, List.setIfInBounds_toArray, List.set_cons_zero, List.set_cons_succ]
        refine calm_take (by rfl) ?v12011 (fun w' hw' => ?hy12011) ?rest12011
        case hy12011 => go_simp <;> first | rfl | skip
        simp only [Act.put, List.setIfInBounds_toArray, List.set_cons_zero, List.set_cons_succ]
        refine calm_take (by rfl) ?v12012 (fun w' hw' => ?hy12012) ?rest12012
        case hy12012 => go_simp <;> first | rfl | skip
        simp only [Act.put, List.setIfInBounds_toArray, List.set_cons_zero, List.set_cons_succ]
        refine calm_take (by rfl) ?v12013 (fun w' hw' => ?hy12013) ?rest12013
        case hy12013 => go_simp <;> first | rfl | skip
        simp only [Act.put, List.setIfInBounds_toArray, List.set_cons_zero, List.set_cons_succ]
        refine calm_take (by rfl) ?v12014 (fun w' hw' => ?hy12014) ?rest12014
        case hy12014 => obtain ⟨r0, r1, r2, r3, r4, r5, r6, r7⟩ := cells8_next HS.out hw'; go_simp <;> first | rfl | skip
        simp only [Act.put, List.setIfInBounds_toArray, List.set_cons_zero, List.set_cons_succ]
        refine' calm_call (by rfl) (.iface 165 (.agg #[.int .i64 (W : Int)])) ?nx12015 (fun w' => ?hr12015) _ _ ?hn12015 (fun w' hw' => ?hc12015) ?rest12015
        case hr12015 => go_simp <;> rfl
        case hn12015 => rfl
        case hc12015 => exact (of_f c.k c.s H1.out H2.out HWW.out _).mono (by rintro e w3 ⟨rfl, hb3⟩; exact ⟨rfl, below_chain hw' hb3⟩)
        simp only [Act.put, List.setIfInBounds_toArray, List.set_cons_zero, List.set_cons_succ]
        refine calm_take (by rfl) ?v12016 (fun w' hw' => ?hy12016) ?rest12016
        case hy12016 => obtain ⟨r0, r1, r2, r3, r4, r5, r6, r7⟩ := cells8_next HS.out hw'; go_simp <;> first | rfl | skip
        simp only [Act.put, List.setIfInBounds_toArray, List.set_cons_zero, List.set_cons_succ]
        refine' calm_call (by rfl) (.bool false) ?nx12017 (fun w' => ?hr12017) _ _ ?hn12017 (fun w' hw' => ?hc12017) ?rest12017
        case hr12017 => go_simp <;> rfl
        case hn12017 => rfl
        case hc12017 => exact (hmay2.out w' (HBW.out.trans (hw'.mono HBW.out.size))).mono (by rintro e w3 ⟨rfl, hb3⟩; exact ⟨rfl, below_chain hw' hb3⟩)
        simp only [Act.put, List.setIfInBounds_toArray, List.set_cons_zero, List.set_cons_succ]
        refine calm_take (by rfl) ?v12018 (fun w' hw' => ?hy12018) ?rest12018
        case hy12018 => go_simp <;> first | rfl | skip
        simp only [Act.put, List.setIfInBounds_toArray, List.set_cons_zero, List.set_cons_succ]
        refine calm_take (by rfl) ?v12019 (fun w' hw' => ?hy12019) ?rest12019
        case hy12019 => go_simp <;> first | rfl | skip
        simp only [Act.put, List.setIfInBounds_toArray, List.set_cons_zero, List.set_cons_succ]
        refine calm_take (by rfl) ?v12020 (fun w' hw' => ?hy12020) ?rest12020
        case hy12020 => go_simp <;> first | rfl | skip
        simp only [Act.put, List.setIfInBounds_toArray, List.set_cons_zero, List.set_cons_succ]
        refine wpQuiet_nil (fun w' hw' => ?_)
        go_wp2
        go_ret
        exact ⟨ret_int HD.out, HBW.out.trans (hw'.mono HBW.out.size)⟩
end Go.Proofs.YtmhjjhaipcgbiaaGreat


/- column.Check of any column; what a column that may be gives. -/
namespace Go.Proofs.YtmhjjhaipcgbiaaGreat
open Go.RowKit
set_option linter.unusedVariables false
set_option linter.unusedSimpArgs false
set_option maxRecDepth 100000
set_option maxHeartbeats 1000000

theorem width_eight {k s : Int} (h : okType k s = true) (h1 : k ≠ 15) : ∃ W : Nat, widthOf k = (W : Int) ∧ (W = 1 ∨ W = 2 ∨ W = 4 ∨ W = 8) := by
  unfold okType at h
  simp only [decide_eq_true_eq] at h
  unfold widthOf
  split
  · exact ⟨1, rfl, by omega⟩
  split
  · exact ⟨2, rfl, by omega⟩
  split
  · exact ⟨4, rfl, by omega⟩
  split
  · exact ⟨8, rfl, by omega⟩
  · omega

theorem check_any (c : Col) (hc : COK c) (B D E X : SL) (vals : List Value) (w : World) (h : RdC w c B D E X vals) : Calls Tryz.prog 82 #[colV c B D E X] w (IntP (checkC c) w) := by
  cases ho : okType c.k c.s with
  | false => exact check_no c ho B D E X w
  | true =>
    by_cases h15 : c.k = 15
    · exact check_r c h15 ho hc B D E X vals w h
    by_cases h16 : c.k = 16
    · exact check_c c h16 ho hc B D E X vals w h
    obtain ⟨W, hW, hW8⟩ := width_eight ho h15
    exact check_f c h15 h16 hW hW8 ho hc B D E X vals w h

theorem check_zero {c : Col} (h : checkC c = 0) : okType c.k c.s = true ∧ maskOK c.m c.bits = true ∧ c.m = c.n ∧ mayB c = true := by
  unfold checkC at h
  split at h
  · cases h
  · rename_i h1
    split at h
    · rename_i h2
      simp only [Bool.and_eq_true, beq_iff_eq] at h2
      exact ⟨by simpa using h1, h2.1.1, h2.1.2, h2.2⟩
    · cases h
theorem check_bits {c : Col} (h : checkC c = 0) {i : Nat} (hi : (i : Int) < c.n) : i / 8 < c.bits.length := by
  obtain ⟨_, h2, h3, _⟩ := check_zero h
  have := mask_room h2
  omega
theorem check_room {c : Col} (h : checkC c = 0) (h1 : c.k ≠ 15) (h2 : c.k ≠ 16) {W : Nat} (hW : widthOf c.k = (W : Int)) {i : Nat} (hi : (i : Int) < c.n) : i * W + W ≤ c.data.length := by
  obtain ⟨_, _, _, h4⟩ := check_zero h
  unfold mayB at h4
  rw [if_neg h1, if_neg h2, hW, Int.toNat_natCast, mayFixed_eq] at h4
  simp only [Bool.and_eq_true] at h4
  exact sized_room h4.1.1 i (by omega)
theorem coded_facts {c : Col} (h : checkC c = 0) (h2 : c.k = 16) : sizedB 4 c = true ∧ codedRun c c.n.toNat = some c.words.length := by
  obtain ⟨_, _, _, h4⟩ := check_zero h
  unfold mayB at h4
  rw [if_neg (by omega), if_pos h2] at h4
  unfold mayCoded at h4
  simp only [Bool.and_eq_true, beq_iff_eq] at h4
  exact ⟨h4.1.1, h4.2⟩
theorem codedRun_le {c : Col} : ∀ (n i : Nat) {a b : Nat}, i ≤ n → codedRun c i = some a → codedRun c n = some b → a ≤ b
  | 0, i, a, b, hi, h1, h2 => by
    obtain rfl : i = 0 := by omega
    rw [h1] at h2; cases h2; exact Nat.le_refl _
  | n + 1, i, a, b, hi, h1, h2 => by
    by_cases e : i = n + 1
    · subst e; rw [h1] at h2; cases h2; exact Nat.le_refl _
    · rw [codedRun] at h2
      cases h3 : codedRun c n with
      | none => rw [h3] at h2; cases h2
      | some m =>
        rw [h3, Option.bind_some] at h2
        refine Nat.le_trans (codedRun_le n i (by omega) h1 h3) ?_
        unfold codedStep at h2
        dsimp only at h2
        split at h2
        · cases h2
        split at h2 <;> (cases h2; omega)
theorem codedRun_pre {c : Col} : ∀ (n i : Nat) {b : Nat}, i ≤ n → codedRun c n = some b → ∃ a, codedRun c i = some a
  | 0, i, b, hi, h => by obtain rfl : i = 0 := by omega
                         exact ⟨_, h⟩
  | n + 1, i, b, hi, h => by
    by_cases e : i = n + 1
    · subst e; exact ⟨_, h⟩
    · rw [codedRun] at h
      cases h3 : codedRun c n with
      | none => rw [h3] at h; cases h
      | some m => exact codedRun_pre n i (by omega) h3
theorem check_code {c : Col} (h : checkC c = 0) (h2 : c.k = 16) {i : Nat} (hi : (i : Int) < c.n) (hn : nullB c.bits i = false) : wordAt c.data (i * 4) 4 < c.words.length := by
  obtain ⟨_, hr⟩ := coded_facts h h2
  obtain ⟨a, ha⟩ := codedRun_pre c.n.toNat (i + 1) (by omega) hr
  have hle := codedRun_le c.n.toNat (i + 1) (by omega) ha hr
  obtain ⟨m, hm⟩ := codedRun_pre (i + 1) i (by omega) ha
  rw [codedRun, hm, Option.bind_some] at ha
  unfold codedStep at ha
  rw [hn] at ha
  simp only [Bool.false_and, Bool.false_or, Bool.not_false, Bool.true_and] at ha
  split at ha
  · cases ha
  · rename_i h5
    simp at h5
    split at ha
    · rename_i h6
      simp at h6
      cases ha; omega
    · rename_i h6
      simp at h6
      cases ha; omega
theorem running_facts {c : Col} (h : checkC c = 0) (h2 : c.k = 15) : (c.ends.length : Int) = c.n ∧ (∀ i, i < c.ends.length → okR c i = true) := by
  obtain ⟨_, _, _, h4⟩ := check_zero h
  unfold mayB at h4
  rw [if_pos h2, mayRunning_eq] at h4
  simp only [Bool.and_eq_true, beq_iff_eq, List.all_eq_true] at h4
  exact ⟨h4.1.1.1, fun i hi => h4.1.2 i (List.mem_range.2 hi)⟩
theorem check_ends {c : Col} (h : checkC c = 0) (h2 : c.k = 15) : ∀ i, i < c.ends.length → ∃ f t : Nat, aheadI c.ends i = (f : Int) ∧ c.ends.getD i 0 = (t : Int) ∧ f ≤ t ∧ t ≤ c.data.length := by
  obtain ⟨_, hr⟩ := running_facts h h2
  have step : ∀ i, i < c.ends.length → 0 ≤ aheadI c.ends i → ∃ f t : Nat, aheadI c.ends i = (f : Int) ∧ c.ends.getD i 0 = (t : Int) ∧ f ≤ t ∧ t ≤ c.data.length := fun i hi h0 => by
    have := hr i hi
    unfold okR at this
    simp only [Bool.not_eq_true', Bool.or_eq_false_iff, decide_eq_false_iff_not] at this
    obtain ⟨⟨h5, h6⟩, _⟩ := this
    exact ⟨(aheadI c.ends i).toNat, (c.ends.getD i 0).toNat, by omega, by omega, by omega, by omega⟩
  intro i
  induction i with
  | zero => intro hi; exact step 0 hi (by simp [aheadI])
  | succ i ih =>
    intro hi
    obtain ⟨f, t, _, e2, _, _⟩ := ih (by omega)
    exact step (i + 1) hi (by rw [aheadI, if_neg (by omega), Nat.add_sub_cancel, e2]; omega)
end Go.Proofs.YtmhjjhaipcgbiaaGreat


/- The values of a column: fixed.value, running.value, coded.value. -/
namespace Go.Proofs.YtmhjjhaipcgbiaaGreat
open Go.RowKit
set_option linter.unusedVariables false
set_option linter.unusedSimpArgs false
set_option maxRecDepth 100000
set_option maxHeartbeats 2000000

/-- A value of a column: bits, and a text in new memory. -/
def ValP (b : Nat) (tx : List Int) (w : World) (e : Ending) (w' : World) : Prop :=
  ∃ a cap, e = .returned (.agg #[.int .u64 (b : Int), .slice a tx.length cap, .bool false]) ∧ Own w' w.heap.size 5 1 (.slice a tx.length cap) tx.length (tx.map (.int .u8)) ∧ Below w.heap.size w w'

/-- Three blocks that a method of a form lays. -/
theorem three_new (w : World) (x1 x2 x3 : Array Value) (t1 t2 t3 : TypeId) :
    Below w.heap.size w (((w.alloc (.cells x1 t1)).alloc (.cells x2 t2)).alloc (.cells x3 t3)) ∧
    (((w.alloc (.cells x1 t1)).alloc (.cells x2 t2)).alloc (.cells x3 t3)).heap[w.heap.size]? = some (.cells x1 t1 (0, 0)) ∧
    (((w.alloc (.cells x1 t1)).alloc (.cells x2 t2)).alloc (.cells x3 t3)).heap[w.heap.size + 1]? = some (.cells x2 t2 (0, 0)) ∧
    (((w.alloc (.cells x1 t1)).alloc (.cells x2 t2)).alloc (.cells x3 t3)).heap[w.heap.size + 1 + 1]? = some (.cells x3 t3 (0, 0)) ∧
    (((w.alloc (.cells x1 t1)).alloc (.cells x2 t2)).alloc (.cells x3 t3)).heap.size = w.heap.size + 3 := by
  refine ⟨(((Below.refl _ _).alloc (Nat.le_refl _) _).alloc (by simp) _).alloc (by simp; omega) _, ?_, ?_, ?_, by simp⟩
  · rw [Below.heap_alloc _ _ _ (by simp; omega), Below.heap_alloc _ _ _ (by simp)]; exact heap_alloc_new _ _
  · rw [Below.heap_alloc _ _ _ (by simp)]
    simpa using heap_alloc_new (w.alloc (.cells x1 t1)) (.cells x2 t2)
  · simpa using heap_alloc_new ((w.alloc (.cells x1 t1)).alloc (.cells x2 t2)) (.cells x3 t3)

theorem rd_cut {w : World} {g off n cap i j : Nat} {xs : List Value} (h : Rd w 1 (.slice (some ⟨g, off, none⟩) n cap) n xs) (hij : i ≤ j) (hj : j ≤ n) : Rd w 1 (.slice (some ⟨g, off + i, none⟩) (j - i) (cap - i)) (j - i) ((xs.drop i).take (j - i)) := by
  obtain ⟨hl, a, cap', e, h1, h2, h3, h4⟩ := h
  simp only [Value.slice.injEq, true_and] at e
  obtain ⟨rfl, rfl⟩ := e
  refine ⟨by rw [List.length_take, List.length_drop, hl]; omega, _, _, rfl, by omega, by omega, (fun e => by cases e), fun k u hu => ?_⟩
  have hk := (List.getElem?_eq_some_iff.1 hu).1
  rw [List.length_take, List.length_drop, hl] at hk
  rw [List.getElem?_take, if_pos (by omega), List.getElem?_drop] at hu
  obtain ⟨b, o, e, hc⟩ := h4 (i + k) u hu
  simp only [Option.some.injEq, Addr.mk.injEq, and_true] at e
  obtain ⟨rfl, rfl⟩ := e
  exact ⟨_, _, rfl, by rw [Nat.add_assoc]; exact hc⟩

theorem val_below {w w3 w4 : World} {x1 x2 x3 : Value} (b3 : Below w.heap.size w w3) (b4 : Below w3.heap.size w3 w4) : Below w.heap.size w (((w4.setCell ⟨w.heap.size + 1 + 1, 0, none⟩ x1).setCell ⟨w.heap.size + 1 + 1, 1, none⟩ x2).setCell ⟨w.heap.size + 1 + 1, 2, none⟩ x3) :=
  (((b3.trans (b4.mono b3.size)).setCell (by simp; omega) _).setCell (by simp; omega) _).setCell (by simp; omega) _
theorem val_own {w w3 w4 : World} {x1 x2 x3 v : Value} {n : Nat} {xs : List Value} (hs : w3.heap.size = w.heap.size + 3) (h : Own w4 w3.heap.size 5 1 v n xs) : Own (((w4.setCell ⟨w.heap.size + 1 + 1, 0, none⟩ x1).setCell ⟨w.heap.size + 1 + 1, 1, none⟩ x2).setCell ⟨w.heap.size + 1 + 1, 2, none⟩ x3) w.heap.size 5 1 v n xs := by
  have hne : v.ownBlock ≠ some (w.heap.size + 1 + 1) := fun e => by have := (h.lt _ e).1; omega
  exact (((h.set_other (a := ⟨w.heap.size + 1 + 1, 0, none⟩) hne _).set_other (a := ⟨w.heap.size + 1 + 1, 1, none⟩) hne _).set_other (a := ⟨w.heap.size + 1 + 1, 2, none⟩) hne _).mono (by omega)

theorem value_f (W : Nat) (hW : W = 1 ∨ W = 2 ∨ W = 4 ∨ W = 8) (c : Col) (hc : COK c) (B D E X : SL) (vals : List Value) (i : Nat) (hi : i * W + W ≤ c.data.length) (w : World) (h : RdC w c B D E X vals) :
    Calls Tryz.prog 221 #[.agg #[.int .i64 (W : Int)], colV c B D E X, .int .i64 (i : Int)] w (ValP (wordAt c.data (i * W) W) [] w) := by
  have HR := Aside.mk h
  have HC := Aside.mk hc
  have hword := Aside.mk (fun (w2 : World) (hb : Below w.heap.size w w2) => fword_any W hW c B D E X i hi HC.out.data HC.out.ld w2 (HR.out.data.below hb))
  clear h hc
  dsimp only [colV] at hword ⊢
  go_enter Tryz.func221, Tryz.ntmps221
  go_wp2_with fail
  obtain ⟨b3, _, _, hr3, hs3⟩ := three_new w #[.int .i64 (W : Int)] #[.int .i64 c.k, .int .i64 c.s, .int .i64 c.n, .int .i64 c.m, .slice B.a c.bits.length B.c, .slice D.a c.data.length D.c, .slice E.a c.ends.length E.c, .slice X.a c.words.length X.c] #[.int .u64 0, .slice none 0 0, .bool false] 165 63 145
  have B3 := Aside.mk b3
  have HR3 := Aside.mk hr3
  have HS3 := Aside.mk hs3
  clear b3 hr3 hs3
  generalize (((w.alloc (.cells #[.int .i64 (W : Int)] 165)).alloc (.cells #[.int .i64 c.k, .int .i64 c.s, .int .i64 c.n, .int .i64 c.m, .slice B.a c.bits.length B.c, .slice D.a c.data.length D.c, .slice E.a c.ends.length E.c, .slice X.a c.words.length X.c] 63)).alloc (.cells #[.int .u64 0, .slice none 0 0, .bool false] 145)) = w3 at *
  generalize wordAt c.data (i * W) W = x at *
  refine (hword.out _ B3.out).mono ?_
  rintro e w4 ⟨rfl, hb4⟩
  have hr4 := (hb4.block _ (lt_of_blk HR3.out)).trans HR3.out
  have q0 := cell_blk (k := 0) hr4
  have q1 := cell_blk (k := 1) hr4
  have q2 := cell_blk (k := 2) hr4
  have z0 := frozen_blk (k := 0) hr4
  have z1 := frozen_blk (k := 1) hr4
  have z2 := frozen_blk (k := 2) hr4
  have hlt := lt_of_blk hr4
  simp at q0 q1 q2
  have B4 := Aside.mk hb4
  clear hb4 hr4
  go_wp2
  refine bodyPost_ret (v := .agg #[.int .u64 (x : Int), .slice none 0 0, .bool false]) (by simp [results, Tryz.results221, go_sem, q0, q1, q2]) rfl ?_
  exact ⟨none, 0, rfl, Own.nil _ _ _ _, val_below B3.out B4.out⟩

theorem cell_set3 {W : World} {R g o : Nat} {a b c v : Value} (hne : g ≠ R) (h : W.cell? ⟨g, o, none⟩ = some v) : (((W.setCell ⟨R, 0, none⟩ a).setCell ⟨R, 1, none⟩ b).setCell ⟨R, 2, none⟩ c).cell? ⟨g, o, none⟩ = some v := by
  have h1 := Below.heap_setCell W ⟨R, 0, none⟩ a g hne
  have h2 := Below.heap_setCell (W.setCell ⟨R, 0, none⟩ a) ⟨R, 1, none⟩ b g hne
  have h3 := Below.heap_setCell ((W.setCell ⟨R, 0, none⟩ a).setCell ⟨R, 1, none⟩ b) ⟨R, 2, none⟩ c g hne
  exact (World.cell?_of_block (w := W) (h3.trans (h2.trans h1))).trans h

theorem value_c (c : Col) (hc : COK c) (B D E X : SL) (vals : List Value) (i : Nat) (hi : i * 4 + 4 ≤ c.data.length) (hx : wordAt c.data (i * 4) 4 < c.words.length) (w : World) (h : RdC w c B D E X vals) :
    Calls Tryz.prog 224 #[.agg #[.int .i64 4], colV c B D E X, .int .i64 (i : Int)] w (ValP 0 (c.words.getD (wordAt c.data (i * 4) 4) []) w) := by
  obtain ⟨xa, xc⟩ := X
  have HR := Aside.mk h
  have HC := Aside.mk hc
  have hword := Aside.mk (fun (w2 : World) (hb : Below w.heap.size w w2) => fword_4 c B D E ⟨xa, xc⟩ i hi HC.out.data HC.out.ld w2 (HR.out.data.below hb))
  have hlw := HC.out.lw
  clear h hc
  dsimp only [colV] at hword ⊢
  obtain ⟨ta, tc, hv, ht⟩ := HR.out.each.2 _ _ (List.getElem?_eq_getElem hx)
  have hvl := HR.out.each.1
  obtain ⟨eb, eo, ecap, hs, hel, hecap, hcE⟩ := HR.out.words.some_ (by omega)
  simp only [Value.slice.injEq, true_and] at hs
  obtain ⟨rfl, rfl⟩ := hs
  have HCE := Aside.mk (hcE _ _ hv)
  have HT := Aside.mk ht
  have hgd : c.words.getD (wordAt c.data (i * 4) 4) [] = c.words[wordAt c.data (i * 4) 4] := by rw [List.getD_eq_getElem?_getD, List.getElem?_eq_getElem hx]; rfl
  have htl : c.words[wordAt c.data (i * 4) 4].length ≤ 1000000000 := Nat.le_trans (HC.out.words _ (List.getElem_mem hx)).2 (by decide)
  rw [hgd]
  clear hgd hcE hv ht hvl
  generalize c.words[wordAt c.data (i * 4) 4] = t at *
  generalize wordAt c.data (i * 4) 4 = x at *
  have HCL := Aside.mk (fun (w2 : World) (hb : Below w.heap.size w w2) => clone_bytes (.slice ta t.length tc) t.length _ w2 htl (HT.out.below hb) (one_map (fun x : Int => Value.int .u8 x) (fun _ => rfl) t))
  have heb : eb < w.heap.size := World.block_lt_of_cell? _ _ HCE.out
  have hne : eb ≠ w.heap.size + 1 + 1 := by omega
  go_enter Tryz.func224, Tryz.ntmps224
  go_wp2_with fail
  obtain ⟨b3, hf3, hx3, hr3, hs3⟩ := three_new w #[.int .i64 4] #[.int .i64 c.k, .int .i64 c.s, .int .i64 c.n, .int .i64 c.m, .slice B.a c.bits.length B.c, .slice D.a c.data.length D.c, .slice E.a c.ends.length E.c, .slice (some ⟨eb, eo, none⟩) c.words.length xc] #[.int .u64 0, .slice none 0 0, .bool false] 167 63 145
  have B3 := Aside.mk b3
  have HF3 := Aside.mk hf3
  have HX3 := Aside.mk hx3
  have HR3 := Aside.mk hr3
  have HS3 := Aside.mk hs3
  have HE3 := Aside.mk ((b3.cell (p := ⟨eb, eo + x, none⟩) (World.block_lt_of_cell? _ _ HCE.out)).trans HCE.out)
  clear b3 hf3 hx3 hr3 hs3
  generalize (((w.alloc (.cells #[.int .i64 4] 167)).alloc (.cells #[.int .i64 c.k, .int .i64 c.s, .int .i64 c.n, .int .i64 c.m, .slice B.a c.bits.length B.c, .slice D.a c.data.length D.c, .slice E.a c.ends.length E.c, .slice (some ⟨eb, eo, none⟩) c.words.length xc] 63)).alloc (.cells #[.int .u64 0, .slice none 0 0, .bool false] 145)) = w3 at *
  obtain ⟨p0, p1, p2, p3, p4, p5, p6, p7⟩ := box8 HX3.out
  have pf := cell_blk (k := 0) HF3.out
  have pe := HE3.out
  simp at pf
  go_region_held3 (fun w' => w'.cell? ⟨w.heap.size + 1, 0, none⟩ = some (.int .i64 c.k) ∧ w'.cell? ⟨w.heap.size + 1, 1, none⟩ = some (.int .i64 c.s) ∧ w'.cell? ⟨w.heap.size + 1, 2, none⟩ = some (.int .i64 c.n) ∧ w'.cell? ⟨w.heap.size + 1, 3, none⟩ = some (.int .i64 c.m) ∧ w'.cell? ⟨w.heap.size + 1, 4, none⟩ = some (.slice B.a c.bits.length B.c) ∧ w'.cell? ⟨w.heap.size + 1, 5, none⟩ = some (.slice D.a c.data.length D.c) ∧ w'.cell? ⟨w.heap.size + 1, 6, none⟩ = some (.slice E.a c.ends.length E.c) ∧ w'.cell? ⟨w.heap.size + 1, 7, none⟩ = some (.slice (some ⟨eb, eo, none⟩) c.words.length xc) ∧ w'.cell? ⟨w.heap.size, 0, none⟩ = some (.int .i64 4) ∧ w'.cell? ⟨eb, eo + x, none⟩ = some (.slice ta t.length tc))
    (first | (refine ⟨?_, ?_, ?_, ?_, ?_, ?_, ?_, ?_, ?_, ?_⟩ <;> assumption) | (refine ⟨?_, ?_, ?_, ?_, ?_, ?_, ?_, ?_, ?_, ?_⟩ <;> exact cell_set3 (by omega) (by assumption)))
    (first
      | (go_at_call 88; refine (hword.out _ (below_chain B3.out (by repeat (first | exact Below.refl _ _ | exact below_drew1 _ | (refine below_chain ?_ (by assumption)))))).mono ?_; rintro e wK ⟨rfl, hbK⟩; (first | (replace hbK := undrew hbK) | skip); have hcK : Below w3.heap.size w3 wK := (by repeat (first | exact Below.refl _ _ | exact below_drew1 _ | (refine below_chain ?_ (by assumption)))); obtain ⟨k0, k1, k2, k3, k4, k5, k6, k7⟩ := box8 ((hcK.block _ (lt_of_blk HX3.out)).trans HX3.out); have kf := cell_blk (k := 0) ((hcK.block _ (lt_of_blk HF3.out)).trans HF3.out); have ke := (hcK.cell (p := ⟨eb, eo + x, none⟩) (World.block_lt_of_cell? _ _ HE3.out)).trans HE3.out; simp at kf; clear hcK)
      | (go_at_call 91; refine (HCL.out _ (below_chain B3.out (by repeat (first | exact Below.refl _ _ | exact below_drew1 _ | (refine below_chain ?_ (by assumption)))))).mono ?_; rintro e wL ⟨v', rfl, ho, hbL⟩; obtain ⟨va, vc, rfl⟩ := ho.form; have HO := Aside.mk ho; clear ho; (first | (replace hbL := undrew hbL) | skip); have hcL : Below w3.heap.size w3 wL := (by repeat (first | exact Below.refl _ _ | exact below_drew1 _ | (refine below_chain ?_ (by assumption)))); have B4 := Aside.mk hcL; obtain ⟨l0, l1, l2, l3, l4, l5, l6, l7⟩ := box8 ((hcL.block _ (lt_of_blk HX3.out)).trans HX3.out); have lf := cell_blk (k := 0) ((hcL.block _ (lt_of_blk HF3.out)).trans HF3.out); have le := (hcL.cell (p := ⟨eb, eo + x, none⟩) (World.block_lt_of_cell? _ _ HE3.out)).trans HE3.out; have hr4 := (hcL.block _ (lt_of_blk HR3.out)).trans HR3.out; have q0 := cell_blk (k := 0) hr4; have q1 := cell_blk (k := 1) hr4; have q2 := cell_blk (k := 2) hr4; have z0 := frozen_blk (k := 0) hr4; have z1 := frozen_blk (k := 1) hr4; have z2 := frozen_blk (k := 2) hr4; simp at q0 q1 q2 lf; clear hcL hr4))
  go_wp2
  refine bodyPost_ret (v := .agg #[.int .u64 0, .slice va t.length vc, .bool false]) (by simp [results, Tryz.results224, go_sem, q0, q1, q2]) rfl ?_
  exact ⟨va, vc, rfl, val_own HS3.out (HO.out.mono hbK.size), val_below B3.out B4.out⟩

end Go.Proofs.YtmhjjhaipcgbiaaGreat


/- running.value. -/
namespace Go.Proofs.YtmhjjhaipcgbiaaGreat
open Go.RowKit
set_option linter.unusedVariables false
set_option linter.unusedSimpArgs false
set_option maxRecDepth 100000
set_option maxHeartbeats 3000000

theorem rd_cut2 {w : World} {g off n cap i j : Nat} {xs : List Value} (h : Rd w 1 (.slice (some ⟨g, off, none⟩) n cap) n xs) (hij : i ≤ j) (hj : j ≤ n) : Rd w 1 (.slice (if cap = i then some ⟨g, off, none⟩ else some ⟨g, off + i, none⟩) (j - i) (cap - i)) (j - i) ((xs.drop i).take (j - i)) := by
  split
  · rename_i e
    obtain ⟨hl, a, cap', e', h1, h2, h3, h4⟩ := h
    simp only [Value.slice.injEq, true_and] at e'
    obtain ⟨rfl, rfl⟩ := e'
    obtain rfl : j = i := by omega
    rw [Nat.sub_self, List.take_zero, ← e]
    exact ⟨by simp, _, _, rfl, Nat.zero_le _, by omega, (fun e => by cases e), fun k u hu => by simp at hu⟩
  · exact rd_cut h hij hj

theorem value_r (c : Col) (hc : COK c) (B D E X : SL) (vals : List Value) (i f t : Nat) (hi : i < c.ends.length) (hf : aheadI c.ends i = (f : Int)) (ht : c.ends.getD i 0 = (t : Int)) (hft : f ≤ t) (htd : t ≤ c.data.length) (g off : Nat) (hD : D.a = some ⟨g, off, none⟩) (w : World) (h : RdC w c B D E X vals) :
    Calls Tryz.prog 219 #[.agg #[], colV c B D E X, .int .i64 (i : Int)] w (ValP 0 ((c.data.drop f).take (t - f)) w) := by
  obtain ⟨ea, ec⟩ := E
  obtain ⟨da, dc⟩ := D
  obtain rfl : da = some ⟨g, off, none⟩ := hD
  have HR := Aside.mk h
  have HC := Aside.mk hc
  have hah := Aside.mk (fun (w2 : World) (hb : Below w.heap.size w w2) => show Calls Tryz.prog 87 _ w2 (IntP (f : Int) w2) from hf ▸ cahead_any c B ⟨some ⟨g, off, none⟩, dc⟩ ⟨ea, ec⟩ X i (by omega) HC.out.le w2 (HR.out.ends.below hb))
  have hle := HC.out.le
  have hld := HC.out.ld
  clear h hc
  dsimp only [colV] at hah ⊢
  obtain ⟨eb, eo, ecap, hs, hel, hecap, hcE⟩ := rd_get HR.out.ends i hi
  simp only [Value.slice.injEq, true_and] at hs
  obtain ⟨rfl, rfl⟩ := hs
  rw [ht] at hcE
  have HCE := Aside.mk hcE
  have hdm := HR.out.data.max
  obtain ⟨_, da', dcap', hds, hdl, hdc, _, _⟩ := HR.out.data
  simp only [Value.slice.injEq, true_and] at hds
  obtain ⟨hda, hdcc⟩ := hds
  rw [← hdcc] at hdl hdc
  have hdc2 : dc ≤ 9223372036854775807 := by unfold maxLen at hdc; omega
  clear hda hdcc hdc hdm
  have htc : t ≤ dc := Nat.le_trans htd hdl
  have HT := Aside.mk (rd_cut2 HR.out.data hft htd)
  have hxl : ((c.data.drop f).take (t - f)).length = t - f := by rw [List.length_take, List.length_drop]; omega
  have e1 : ((c.data.map (Value.int .u8)).drop f).take (t - f) = ((c.data.drop f).take (t - f)).map (Value.int .u8) := by rw [List.map_take, List.map_drop]
  rw [e1] at HT
  have HXL := Aside.mk hxl
  have HCL := Aside.mk (fun (w2 : World) (hb : Below w.heap.size w w2) => clone_bytes (.slice (if dc = f then some ⟨g, off, none⟩ else some ⟨g, off + f, none⟩) (t - f) (dc - f)) (t - f) _ w2 (by omega) (HT.out.below hb) (one_map (fun x : Int => Value.int .u8 x) (fun _ => rfl) ((c.data.drop f).take (t - f))))
  clear hf ht hcE hxl e1
  generalize (c.data.drop f).take (t - f) = tx at *
  have heb : eb < w.heap.size := World.block_lt_of_cell? _ _ HCE.out
  have hne : eb ≠ w.heap.size + 1 + 1 := by omega
  go_enter Tryz.func219, Tryz.ntmps219
  go_wp2_with fail
  obtain ⟨b3, hf3, hx3, hr3, hs3⟩ := three_new w #[] #[.int .i64 c.k, .int .i64 c.s, .int .i64 c.n, .int .i64 c.m, .slice B.a c.bits.length B.c, .slice (some ⟨g, off, none⟩) c.data.length dc, .slice (some ⟨eb, eo, none⟩) c.ends.length ec, .slice X.a c.words.length X.c] #[.int .u64 0, .slice none 0 0, .bool false] 162 63 145
  have B3 := Aside.mk b3
  have HX3 := Aside.mk hx3
  have HR3 := Aside.mk hr3
  have HS3 := Aside.mk hs3
  have HE3 := Aside.mk ((b3.cell (p := ⟨eb, eo + i, none⟩) (World.block_lt_of_cell? _ _ HCE.out)).trans HCE.out)
  clear b3 hf3 hx3 hr3 hs3
  generalize (((w.alloc (.cells #[] 162)).alloc (.cells #[.int .i64 c.k, .int .i64 c.s, .int .i64 c.n, .int .i64 c.m, .slice B.a c.bits.length B.c, .slice (some ⟨g, off, none⟩) c.data.length dc, .slice (some ⟨eb, eo, none⟩) c.ends.length ec, .slice X.a c.words.length X.c] 63)).alloc (.cells #[.int .u64 0, .slice none 0 0, .bool false] 145)) = w3 at *
  obtain ⟨p0, p1, p2, p3, p4, p5, p6, p7⟩ := box8 HX3.out
  have pe := HE3.out
  go_region_law (first
    | (refine step_call (P := Tryz.prog) w3.drew (by rfl) 87 [.tmp 9, .tmp 10] _ (by rfl) [.agg #[.int .i64 c.k, .int .i64 c.s, .int .i64 c.n, .int .i64 c.m, .slice B.a c.bits.length B.c, .slice (some ⟨g, off, none⟩) c.data.length dc, .slice (some ⟨eb, eo, none⟩) c.ends.length ec, .slice X.a c.words.length X.c], .int .i64 (i : Int)] (by rfl) (fun _ _ => rfl) (hah.out w3.drew (B3.out.trans (below_drewN _ _ 1))) ?_; rintro e wK ⟨rfl, hbK⟩; replace hbK := undrew hbK; have hcK : Below w3.heap.size w3 wK := hbK; obtain ⟨k0, k1, k2, k3, k4, k5, k6, k7⟩ := box8 ((hcK.block _ (lt_of_blk HX3.out)).trans HX3.out); have ke := (hcK.cell (p := ⟨eb, eo + i, none⟩) (World.block_lt_of_cell? _ _ HE3.out)).trans HE3.out; have HBK := Aside.mk hbK; clear hcK hbK; refine ⟨_, rfl, ?_⟩)
    | (refine step_call (P := Tryz.prog) wK (by rfl) 91 [.tmp 17] _ (by rfl) [.slice (if dc = f then some ⟨g, off, none⟩ else some ⟨g, off + f, none⟩) (t - f) (dc - f)] (by rfl) (fun _ _ => rfl) (HCL.out wK (B3.out.trans (HBK.out.mono B3.out.size))) ?_; rintro e wL ⟨v', rfl, ho, hbL⟩; obtain ⟨va, vc, rfl⟩ := ho.form; have HO := Aside.mk ho; clear ho; have B4 := Aside.mk (HBK.out.trans (hbL.mono HBK.out.size)); have hr4 := (B4.out.block _ (lt_of_blk HR3.out)).trans HR3.out; have q0 := cell_blk (k := 0) hr4; have q1 := cell_blk (k := 1) hr4; have q2 := cell_blk (k := 2) hr4; have z0 := frozen_blk (k := 0) hr4; have z1 := frozen_blk (k := 1) hr4; have z2 := frozen_blk (k := 2) hr4; simp at q0 q1 q2; clear hr4 hbL; refine ⟨_, rfl, ?_⟩))
  all_goals
    go_wp2
    all_goals refine bodyPost_ret (v := .agg #[.int .u64 0, .slice va (t - f) vc, .bool false]) (by simp [results, Tryz.results219, go_sem, q0, q1, q2]) rfl ?_
    all_goals exact ⟨va, vc, by rw [HXL.out]; rfl, by rw [HXL.out]; exact val_own HS3.out (HO.out.mono HBK.out.size), val_below B3.out B4.out⟩
end Go.Proofs.YtmhjjhaipcgbiaaGreat


/- running.value of no bytes. -/
namespace Go.Proofs.YtmhjjhaipcgbiaaGreat
open Go.RowKit
set_option linter.unusedVariables false
set_option linter.unusedSimpArgs false
set_option maxRecDepth 100000
set_option maxHeartbeats 1500000

theorem value_r0 (c : Col) (hc : COK c) (B D E X : SL) (vals : List Value) (i : Nat) (hi : i < c.ends.length) (hf : aheadI c.ends i = 0) (ht : c.ends.getD i 0 = 0) (hD : D.a = none) (w : World) (h : RdC w c B D E X vals) :
    Calls Tryz.prog 219 #[.agg #[], colV c B D E X, .int .i64 (i : Int)] w (ValP 0 [] w) := by
  obtain ⟨ea, ec⟩ := E
  obtain ⟨da, dc⟩ := D
  obtain rfl : da = none := hD
  have HR := Aside.mk h
  have HC := Aside.mk hc
  have hah := Aside.mk (fun (w2 : World) (hb : Below w.heap.size w w2) => show Calls Tryz.prog 87 _ w2 (IntP 0 w2) from hf ▸ cahead_any c B ⟨none, dc⟩ ⟨ea, ec⟩ X i (by omega) HC.out.le w2 (HR.out.ends.below hb))
  have hle := HC.out.le
  have hld := HC.out.ld
  clear h hc
  dsimp only [colV] at hah ⊢
  obtain ⟨eb, eo, ecap, hs, hel, hecap, hcE⟩ := rd_get HR.out.ends i hi
  simp only [Value.slice.injEq, true_and] at hs
  obtain ⟨rfl, rfl⟩ := hs
  rw [ht] at hcE
  have HCE := Aside.mk hcE
  obtain ⟨_, da', dcap', hds, hdl, hdc, h0, _⟩ := HR.out.data
  simp only [Value.slice.injEq, true_and] at hds
  obtain ⟨rfl, rfl⟩ := hds
  obtain ⟨e0, rfl⟩ := h0 rfl
  have HCL := Aside.mk (fun (w2 : World) (hb : Below w.heap.size w w2) => clone_bytes (.slice none 0 0) 0 [] w2 (by omega) (Rd.nil w2 1) (fun u hu => by cases hu))
  have E0 := Aside.mk e0
  clear hf ht hcE hdl hdc h0 e0
  have heb : eb < w.heap.size := World.block_lt_of_cell? _ _ HCE.out
  have hne : eb ≠ w.heap.size + 1 + 1 := by omega
  go_enter Tryz.func219, Tryz.ntmps219
  go_wp2_with fail
  obtain ⟨b3, hf3, hx3, hr3, hs3⟩ := three_new w #[] #[.int .i64 c.k, .int .i64 c.s, .int .i64 c.n, .int .i64 c.m, .slice B.a c.bits.length B.c, .slice none c.data.length 0, .slice (some ⟨eb, eo, none⟩) c.ends.length ec, .slice X.a c.words.length X.c] #[.int .u64 0, .slice none 0 0, .bool false] 162 63 145
  have B3 := Aside.mk b3
  have HX3 := Aside.mk hx3
  have HR3 := Aside.mk hr3
  have HS3 := Aside.mk hs3
  have HE3 := Aside.mk ((b3.cell (p := ⟨eb, eo + i, none⟩) (World.block_lt_of_cell? _ _ HCE.out)).trans HCE.out)
  clear b3 hf3 hx3 hr3 hs3
  generalize (((w.alloc (.cells #[] 162)).alloc (.cells #[.int .i64 c.k, .int .i64 c.s, .int .i64 c.n, .int .i64 c.m, .slice B.a c.bits.length B.c, .slice none c.data.length 0, .slice (some ⟨eb, eo, none⟩) c.ends.length ec, .slice X.a c.words.length X.c] 63)).alloc (.cells #[.int .u64 0, .slice none 0 0, .bool false] 145)) = w3 at *
  obtain ⟨p0, p1, p2, p3, p4, p5, p6, p7⟩ := box8 HX3.out
  have pe := HE3.out
  go_region_law (first
    | (refine step_call (P := Tryz.prog) w3.drew (by rfl) 87 [.tmp 9, .tmp 10] _ (by rfl) [.agg #[.int .i64 c.k, .int .i64 c.s, .int .i64 c.n, .int .i64 c.m, .slice B.a c.bits.length B.c, .slice none c.data.length 0, .slice (some ⟨eb, eo, none⟩) c.ends.length ec, .slice X.a c.words.length X.c], .int .i64 (i : Int)] (by rfl) (fun _ _ => rfl) (hah.out w3.drew (B3.out.trans (below_drewN _ _ 1))) ?_; rintro e wK ⟨rfl, hbK⟩; replace hbK := undrew hbK; have hcK : Below w3.heap.size w3 wK := hbK; obtain ⟨k0, k1, k2, k3, k4, k5, k6, k7⟩ := box8 ((hcK.block _ (lt_of_blk HX3.out)).trans HX3.out); have ke := (hcK.cell (p := ⟨eb, eo + i, none⟩) (World.block_lt_of_cell? _ _ HE3.out)).trans HE3.out; have HBK := Aside.mk hbK; clear hcK hbK; refine ⟨_, rfl, ?_⟩)
    | (refine step_call (P := Tryz.prog) wK (by rfl) 91 [.tmp 17] _ (by rfl) [.slice none 0 0] (by rfl) (fun _ _ => rfl) (HCL.out wK (B3.out.trans (HBK.out.mono B3.out.size))) ?_; rintro e wL ⟨v', rfl, ho, hbL⟩; obtain ⟨va, vc, rfl⟩ := ho.form; have HO := Aside.mk ho; clear ho; have B4 := Aside.mk (HBK.out.trans (hbL.mono HBK.out.size)); have hr4 := (B4.out.block _ (lt_of_blk HR3.out)).trans HR3.out; have q0 := cell_blk (k := 0) hr4; have q1 := cell_blk (k := 1) hr4; have q2 := cell_blk (k := 2) hr4; have z0 := frozen_blk (k := 0) hr4; have z1 := frozen_blk (k := 1) hr4; have z2 := frozen_blk (k := 2) hr4; simp at q0 q1 q2; clear hr4 hbL; refine ⟨_, rfl, ?_⟩))
  all_goals
    go_wp2
    all_goals refine bodyPost_ret (v := .agg #[.int .u64 0, .slice va 0 vc, .bool false]) (by simp [results, Tryz.results219, go_sem, q0, q1, q2]) rfl ?_
    all_goals exact ⟨va, vc, rfl, val_own HS3.out (HO.out.mono HBK.out.size), val_below B3.out B4.out⟩
end Go.Proofs.YtmhjjhaipcgbiaaGreat


/- column.Get where there is nothing to tell. (Printed by genget.py.) -/
namespace Go.Proofs.YtmhjjhaipcgbiaaGreat
open Go.RowKit
set_option linter.unusedVariables false
set_option linter.unusedSimpArgs false
set_option maxRecDepth 100000
set_option maxHeartbeats 2000000

def GetP (b : Nat) (tx : List Int) (w : World) (e : Ending) (w' : World) : Prop :=
  ∃ a cap, e = .returned (.tuple #[.int .u64 (b : Int), .slice a tx.length cap, .bool false, .int .i64 0]) ∧ Own w' w.heap.size 5 1 (.slice a tx.length cap) tx.length (tx.map (.int .u8)) ∧ Below w.heap.size w w'
def GetNP (null : Bool) (r : Int) (w : World) (e : Ending) (w' : World) : Prop :=
  e = .returned (.tuple #[.int .u64 0, .slice none 0 0, .bool null, .int .i64 r]) ∧ Below w.heap.size w w'

theorem get_err (c : Col) (hc : COK c) (B D E X : SL) (vals : List Value) (i : Int) (hr : checkC c ≠ 0) (w : World) (h : RdC w c B D E X vals) : Calls Tryz.prog 61 #[colV c B D E X, .int .i64 i] w (GetNP false (checkC c) w) := by
  have HBW := Aside.mk (below_new w (.cells #[.int .i64 c.k, .int .i64 c.s, .int .i64 c.n, .int .i64 c.m, .slice B.a c.bits.length B.c, .slice D.a c.data.length D.c, .slice E.a c.ends.length E.c, .slice X.a c.words.length X.c] 63))
  have hck := Aside.mk (check_any c hc B D E X vals (w.alloc (.cells #[.int .i64 c.k, .int .i64 c.s, .int .i64 c.n, .int .i64 c.m, .slice B.a c.bits.length B.c, .slice D.a c.data.length D.c, .slice E.a c.ends.length E.c, .slice X.a c.words.length X.c] 63)) (h.below HBW.out))
  have hne : (checkC c == 0) = false := by simpa using hr
  clear h hr
  dsimp only [colV] at hck ⊢
  generalize checkC c = r at *
  go_enter Tryz.func61, Tryz.ntmps61
  go_wp2_with (go_at_call 82; refine hck.out.mono ?_; rintro e w2 ⟨rfl, hb2⟩; have B2 := Aside.mk (HBW.out.trans (hb2.mono HBW.out.size)); clear hb2)
  refine bodyPost_ret (v := .tuple #[.int .u64 0, .slice none 0 0, .bool false, .int .i64 r]) (by simp [results, Tryz.results61, go_sem]) rfl ⟨rfl, B2.out⟩

theorem get_place (c : Col) (hc : COK c) (B D E X : SL) (vals : List Value) (i : Int) (hr : checkC c = 0) (hi : i < 0 ∨ c.n ≤ i) (w : World) (h : RdC w c B D E X vals) : Calls Tryz.prog 61 #[colV c B D E X, .int .i64 i] w (GetNP false 173 w) := by
  have HBW := Aside.mk (below_new w (.cells #[.int .i64 c.k, .int .i64 c.s, .int .i64 c.n, .int .i64 c.m, .slice B.a c.bits.length B.c, .slice D.a c.data.length D.c, .slice E.a c.ends.length E.c, .slice X.a c.words.length X.c] 63))
  have hck := Aside.mk (check_any c hc B D E X vals (w.alloc (.cells #[.int .i64 c.k, .int .i64 c.s, .int .i64 c.n, .int .i64 c.m, .slice B.a c.bits.length B.c, .slice D.a c.data.length D.c, .slice E.a c.ends.length E.c, .slice X.a c.words.length X.c] 63)) (h.below HBW.out))
  have HX := Aside.mk (heap_alloc_new w (.cells #[.int .i64 c.k, .int .i64 c.s, .int .i64 c.n, .int .i64 c.m, .slice B.a c.bits.length B.c, .slice D.a c.data.length D.c, .slice E.a c.ends.length E.c, .slice X.a c.words.length X.c] 63))
  rw [hr] at hck
  clear h hr
  dsimp only [colV] at hck ⊢
  by_cases h0 : i < 0
  · go_enter Tryz.func61, Tryz.ntmps61
    go_wp2_with (go_at_call 82; refine hck.out.mono ?_; rintro e w2 ⟨rfl, hb2⟩; obtain ⟨c0, c1, c2, c3, c4, c5, c6, c7⟩ := box8 ((hb2.block _ (lt_of_blk HX.out)).trans HX.out); have B2 := Aside.mk (HBW.out.trans (hb2.mono HBW.out.size)); clear hb2)
    refine bodyPost_ret (v := .tuple #[.int .u64 0, .slice none 0 0, .bool false, .int .i64 173]) (by simp [results, Tryz.results61, go_sem]) rfl ⟨rfl, B2.out⟩
  · have h1 : c.n ≤ i := by omega
    go_enter Tryz.func61, Tryz.ntmps61
    go_wp2_with (go_at_call 82; refine hck.out.mono ?_; rintro e w2 ⟨rfl, hb2⟩; obtain ⟨c0, c1, c2, c3, c4, c5, c6, c7⟩ := box8 ((hb2.block _ (lt_of_blk HX.out)).trans HX.out); have B2 := Aside.mk (HBW.out.trans (hb2.mono HBW.out.size)); clear hb2)
    refine bodyPost_ret (v := .tuple #[.int .u64 0, .slice none 0 0, .bool false, .int .i64 173]) (by simp [results, Tryz.results61, go_sem]) rfl ⟨rfl, B2.out⟩

theorem get_null (c : Col) (hc : COK c) (B D E X : SL) (vals : List Value) (i : Nat) (hr : checkC c = 0) (hi : (i : Int) < c.n) (hnl : nullB c.bits i = true) (w : World) (h : RdC w c B D E X vals) : Calls Tryz.prog 61 #[colV c B D E X, .int .i64 (i : Int)] w (GetNP true 0 w) := by
  have HBW := Aside.mk (below_new w (.cells #[.int .i64 c.k, .int .i64 c.s, .int .i64 c.n, .int .i64 c.m, .slice B.a c.bits.length B.c, .slice D.a c.data.length D.c, .slice E.a c.ends.length E.c, .slice X.a c.words.length X.c] 63))
  have hck := Aside.mk (check_any c hc B D E X vals (w.alloc (.cells #[.int .i64 c.k, .int .i64 c.s, .int .i64 c.n, .int .i64 c.m, .slice B.a c.bits.length B.c, .slice D.a c.data.length D.c, .slice E.a c.ends.length E.c, .slice X.a c.words.length X.c] 63)) (h.below HBW.out))
  have HX := Aside.mk (heap_alloc_new w (.cells #[.int .i64 c.k, .int .i64 c.s, .int .i64 c.n, .int .i64 c.m, .slice B.a c.bits.length B.c, .slice D.a c.data.length D.c, .slice E.a c.ends.length E.c, .slice X.a c.words.length X.c] 63))
  have hnull := Aside.mk (fun (w2 : World) (hb : Below w.heap.size w w2) => null_any c B D E X i (check_bits hr hi) hc.bits hc.lb w2 (h.bits.below hb))
  rw [hr] at hck
  rw [hnl] at hnull
  clear h hr hnl
  dsimp only [colV] at hck hnull ⊢
  go_enter Tryz.func61, Tryz.ntmps61
  go_wp2_with (first | (go_at_call 82; refine hck.out.mono ?_; rintro e w2 ⟨rfl, hb2⟩; replace HX := Aside.mk ((hb2.block _ (lt_of_blk HX.out)).trans HX.out); obtain ⟨c0, c1, c2, c3, c4, c5, c6, c7⟩ := box8 HX.out; have B2 := Aside.mk (HBW.out.trans (hb2.mono HBW.out.size)); clear hb2) | (go_at_call 129; refine (hnull.out _ B2.out).mono ?_; rintro e w3 ⟨rfl, hb3⟩; replace B2 := Aside.mk (B2.out.trans (hb3.mono B2.out.size)); clear hb3))
  refine bodyPost_ret (v := .tuple #[.int .u64 0, .slice none 0 0, .bool true, .int .i64 0]) (by simp [results, Tryz.results61, go_sem]) rfl ⟨rfl, B2.out⟩
end Go.Proofs.YtmhjjhaipcgbiaaGreat


/- column.Get of a value. (Printed by genget2.py.) -/
namespace Go.Proofs.YtmhjjhaipcgbiaaGreat
open Go.RowKit
set_option linter.unusedVariables false
set_option linter.unusedSimpArgs false
set_option maxRecDepth 100000
set_option maxHeartbeats 8000000

theorem meth_f (v : Value) (w : World) : (method 400 165 v "mintage/column.value").run Tryz.prog w = .ok (221, v) w := by kernel_rfl
theorem meth_c (v : Value) (w : World) : (method 400 167 v "mintage/column.value").run Tryz.prog w = .ok (224, v) w := by kernel_rfl
theorem meth_r (v : Value) (w : World) : (method 400 162 v "mintage/column.value").run Tryz.prog w = .ok (219, v) w := by kernel_rfl
theorem get_end {w w3 wL : World} {zb n : Nat} {cs : Array Value} {v : Value} {xs : List Value} {x1 x2 x3 : Value} (b2 : Below w.heap.size w w3) (hcl : Below w3.heap.size w3 wL) (hzb : w3.heap.size ≤ zb) (hz : wL.heap[zb]? = some (.cells cs 145 (0, 0))) (ho : Own wL w3.heap.size 5 1 v n xs) (m : Nat) :
    Own ((((wL.setCell ⟨zb, 0, none⟩ x1).setCell ⟨zb, 1, none⟩ x2).setCell ⟨zb, 2, none⟩ x3).drewN m) w.heap.size 5 1 v n xs ∧ Below w.heap.size w ((((wL.setCell ⟨zb, 0, none⟩ x1).setCell ⟨zb, 1, none⟩ x2).setCell ⟨zb, 2, none⟩ x3).drewN m) := by
  have hne : v.ownBlock ≠ some zb := ho.blk_ne hz (by decide)
  have hs := b2.size
  refine ⟨((((ho.set_other (a := ⟨zb, 0, none⟩) hne _).set_other (a := ⟨zb, 1, none⟩) hne _).set_other (a := ⟨zb, 2, none⟩) hne _).mono b2.size).drewN m, ?_⟩
  exact ((((b2.trans (hcl.mono b2.size)).setCell (by simp; omega) _).setCell (by simp; omega) _).setCell (by simp; omega) _).trans (below_drewN _ _ _)
theorem get_endA {w w3 wL : World} {n : Nat} {v : Value} {xs : List Value} (b2 : Below w.heap.size w w3) (hcl : Below w3.heap.size w3 wL) (ho : Own wL w3.heap.size 5 1 v n xs) (o : Obj) (m : Nat) :
    Own ((wL.alloc o).drewN m) w.heap.size 5 1 v n xs ∧ Below w.heap.size w ((wL.alloc o).drewN m) :=
  ⟨((ho.mono b2.size).alloc o).drewN m, ((b2.trans (hcl.mono b2.size)).alloc (Nat.le_trans b2.size hcl.size) o).trans (below_drewN _ _ _)⟩
theorem cell_drew {W : World} {a : Addr} {v : Value} (h : W.cell? a = some v) : W.drew.cell? a = some v := h
theorem lt_drew {W : World} {n : Nat} (h : n < W.heap.size) : n < W.drew.heap.size := h
theorem cell_alloc {W : World} {o : Obj} {g n : Nat} {v : Value} (hlt : g < W.heap.size) (h : W.cell? ⟨g, n, none⟩ = some v) : (W.alloc o).cell? ⟨g, n, none⟩ = some v :=
  (World.cell?_of_block (w := W) (Below.heap_alloc W o g hlt)).trans h

theorem get_f (c : Col) (h1 : c.k ≠ 15) (h2 : c.k ≠ 16) {W : Nat} (hW : widthOf c.k = (W : Int)) (hc : COK c) (B D E X : SL) (vals : List Value) (i : Nat) (hr : checkC c = 0) (hi : (i : Int) < c.n) (hnl : nullB c.bits i = false) (b : Nat) (tx : List Int) (w : World) (h : RdC w c B D E X vals) (hv : ∀ w2, Below w.heap.size w w2 → Calls Tryz.prog 221 #[(.agg #[.int .i64 (W : Int)]), colV c B D E X, .int .i64 (i : Int)] w2 (ValP b tx w2)) : Calls Tryz.prog 61 #[colV c B D E X, .int .i64 (i : Int)] w (GetP b tx w) := by
  have HBW := Aside.mk (below_new w (.cells #[.int .i64 c.k, .int .i64 c.s, .int .i64 c.n, .int .i64 c.m, .slice B.a c.bits.length B.c, .slice D.a c.data.length D.c, .slice E.a c.ends.length E.c, .slice X.a c.words.length X.c] 63))
  have hck := Aside.mk (fun (w2 : World) (hb : Below w.heap.size w w2) => check_any c hc B D E X vals w2 (h.below hb))
  have hnull := Aside.mk (fun (w2 : World) (hb : Below w.heap.size w w2) => null_any c B D E X i (check_bits hr hi) hc.bits hc.lb w2 (h.bits.below hb))
  have hval := Aside.mk hv
  rw [hr] at hck
  rw [hnl] at hnull
  clear h hr hnl hv
  have H1 := Aside.mk h1
  have H2 := Aside.mk h2
  have HWW := Aside.mk hW
  clear h1 h2 hW
  dsimp only [colV] at hck hnull hval ⊢
  have HX := Aside.mk (heap_alloc_new w (.cells #[.int .i64 c.k, .int .i64 c.s, .int .i64 c.n, .int .i64 c.m, .slice B.a c.bits.length B.c, .slice D.a c.data.length D.c, .slice E.a c.ends.length E.c, .slice X.a c.words.length X.c] 63))
  go_enter Tryz.func61, Tryz.ntmps61
  go_wp2_with (first | (go_at_call 82; refine (hck.out _ HBW.out).mono ?_; rintro e w2 ⟨rfl, hb2⟩; replace HX := Aside.mk ((hb2.block _ (lt_of_blk HX.out)).trans HX.out); obtain ⟨c0, c1, c2, c3, c4, c5, c6, c7⟩ := box8 HX.out; have B2 := Aside.mk (HBW.out.trans (hb2.mono HBW.out.size)); clear hb2) | (go_at_call 129; refine (hnull.out _ B2.out).mono ?_; rintro e w3 ⟨rfl, hb3⟩; replace HX := Aside.mk ((hb3.block _ (lt_of_blk HX.out)).trans HX.out); replace B2 := Aside.mk (B2.out.trans (hb3.mono B2.out.size)); clear hb3 c0 c1 c2 c3 c4 c5 c6 c7))
  obtain ⟨p0, p1, p2, p3, p4, p5, p6, p7⟩ := box8 HX.out
  have hlt := lt_of_blk HX.out
  have hmeth := meth_f
  go_region_held3 (fun w' => w'.cell? ⟨w.heap.size, 0, none⟩ = some (.int .i64 c.k) ∧ w'.cell? ⟨w.heap.size, 1, none⟩ = some (.int .i64 c.s) ∧ w'.cell? ⟨w.heap.size, 2, none⟩ = some (.int .i64 c.n) ∧ w'.cell? ⟨w.heap.size, 3, none⟩ = some (.int .i64 c.m) ∧ w'.cell? ⟨w.heap.size, 4, none⟩ = some (.slice B.a c.bits.length B.c) ∧ w'.cell? ⟨w.heap.size, 5, none⟩ = some (.slice D.a c.data.length D.c) ∧ w'.cell? ⟨w.heap.size, 6, none⟩ = some (.slice E.a c.ends.length E.c) ∧ w'.cell? ⟨w.heap.size, 7, none⟩ = some (.slice X.a c.words.length X.c))
    (first | (refine ⟨?_, ?_, ?_, ?_, ?_, ?_, ?_, ?_⟩ <;> with_reducible assumption) | (refine ⟨?_, ?_, ?_, ?_, ?_, ?_, ?_, ?_⟩ <;> with_reducible exact cell_drew (by assumption)) | (refine ⟨?_, ?_, ?_, ?_, ?_, ?_, ?_, ?_⟩ <;> with_reducible exact cell_alloc (by first | assumption | exact lt_drew (by assumption)) (by first | assumption | exact cell_drew (by assumption))) | (refine ⟨?_, ?_, ?_, ?_, ?_, ?_, ?_, ?_⟩ <;> with_reducible exact cell_set3 (by omega) (by first | assumption | exact cell_alloc (by assumption) (by assumption))) | (refine ⟨?_, ?_, ?_, ?_, ?_, ?_, ?_, ?_⟩ <;> exact cell_alloc (by assumption) (by assumption)))
    (first
      | (go_at_call 86; refine (of_f c.k c.s H1.out H2.out HWW.out _).mono ?_; rintro e wK ⟨rfl, hbK⟩; (first | (guard_hyp hbK : Below w3.drew.heap.size w3.drew wK; have hcK : Below w3.heap.size w3 wK := undrew hbK) | (have hcK : Below w3.heap.size w3 wK := below_chain ((below_drew1 w3).alloc (Nat.le_refl _) _) hbK; have hz : wK.heap[w3.heap.size]? = some (.cells #[.int .u64 0, .slice none 0 0, .bool false] 145 (0, 0)) := (hbK.block _ (lt_of_blk (heap_alloc_new w3.drew (.cells #[.int .u64 0, .slice none 0 0, .bool false] 145)))).trans (heap_alloc_new w3.drew (.cells #[.int .u64 0, .slice none 0 0, .bool false] 145)))); obtain ⟨k0, k1, k2, k3, k4, k5, k6, k7⟩ := box8 ((hcK.block _ hlt).trans HX.out); have hltK := Nat.lt_of_lt_of_le hlt hcK.size)
      | (go_at_call 221; refine (hval.out _ (B2.out.trans (Below.mono (by first | (with_reducible exact hcK) | exact hcK.alloc hcK.size _) B2.out.size))).mono ?_; rintro e wL ⟨va, vc, rfl, ho, hbL⟩; (first | (guard_hyp hbL : Below wK.heap.size wK wL; have hcL : Below w3.heap.size w3 wL := below_chain hcK hbL; have hoK : w3.heap.size ≤ wK.heap.size := hcK.size; have HO := Aside.mk (ho.mono hoK); (first | (replace hz := (hbL.block _ (lt_of_blk hz)).trans hz) | skip)) | (have hcL : Below w3.heap.size w3 wL := below_chain (hcK.alloc hcK.size _) hbL; have HO := Aside.mk (ho.mono (base' := w3.heap.size) (by have := hcK.size; simp; omega)); have hz := (hbL.block _ (lt_of_blk (heap_alloc_new wK (.cells #[.int .u64 0, .slice none 0 0, .bool false] 145)))).trans (heap_alloc_new wK (.cells #[.int .u64 0, .slice none 0 0, .bool false] 145)))); obtain ⟨l0, l1, l2, l3, l4, l5, l6, l7⟩ := box8 ((hcL.block _ hlt).trans HX.out); have hltL := Nat.lt_of_lt_of_le hlt hcL.size; clear ho; have HCL := Aside.mk hcL; (first | (have z0 := cell_blk (k := 0) hz; have z1 := cell_blk (k := 1) hz; have z2 := cell_blk (k := 2) hz; have y0 := frozen_blk (k := 0) hz; have y1 := frozen_blk (k := 1) hz; have y2 := frozen_blk (k := 2) hz; simp at z0 z1 z2; have HZ := Aside.mk hz; clear hz) | skip)))
  all_goals
    go_wp2
    go_quiet (fail)
    go_wp2
    refine bodyPost_ret (v := .tuple #[.int .u64 (b : Int), .slice va tx.length vc, .bool false, .int .i64 0]) (by simp [results, Tryz.results61, go_sem]) rfl ?_
    refine ⟨va, vc, rfl, ?_⟩
    first
      | exact get_end B2.out HCL.out (Nat.le_refl _) HZ.out HO.out _
      | exact get_end B2.out HCL.out hcK.size HZ.out HO.out _
      | exact get_endA B2.out HCL.out HO.out _ _

theorem get_c (c : Col) (hk : c.k = 16) (hc : COK c) (B D E X : SL) (vals : List Value) (i : Nat) (hr : checkC c = 0) (hi : (i : Int) < c.n) (hnl : nullB c.bits i = false) (b : Nat) (tx : List Int) (w : World) (h : RdC w c B D E X vals) (hv : ∀ w2, Below w.heap.size w w2 → Calls Tryz.prog 224 #[(.agg #[.int .i64 4]), colV c B D E X, .int .i64 (i : Int)] w2 (ValP b tx w2)) : Calls Tryz.prog 61 #[colV c B D E X, .int .i64 (i : Int)] w (GetP b tx w) := by
  have HBW := Aside.mk (below_new w (.cells #[.int .i64 16, .int .i64 c.s, .int .i64 c.n, .int .i64 c.m, .slice B.a c.bits.length B.c, .slice D.a c.data.length D.c, .slice E.a c.ends.length E.c, .slice X.a c.words.length X.c] 63))
  have hck := Aside.mk (fun (w2 : World) (hb : Below w.heap.size w w2) => check_any c hc B D E X vals w2 (h.below hb))
  have hnull := Aside.mk (fun (w2 : World) (hb : Below w.heap.size w w2) => null_any c B D E X i (check_bits hr hi) hc.bits hc.lb w2 (h.bits.below hb))
  have hval := Aside.mk hv
  rw [hr] at hck
  rw [hnl] at hnull
  clear h hr hnl hv
  have HCV := (show colV c B D E X = .agg #[.int .i64 16, .int .i64 c.s, .int .i64 c.n, .int .i64 c.m, .slice B.a c.bits.length B.c, .slice D.a c.data.length D.c, .slice E.a c.ends.length E.c, .slice X.a c.words.length X.c] by rw [colV, hk])
  rw [HCV] at hck hnull hval ⊢
  clear hk HCV
  have HX := Aside.mk (heap_alloc_new w (.cells #[.int .i64 16, .int .i64 c.s, .int .i64 c.n, .int .i64 c.m, .slice B.a c.bits.length B.c, .slice D.a c.data.length D.c, .slice E.a c.ends.length E.c, .slice X.a c.words.length X.c] 63))
  go_enter Tryz.func61, Tryz.ntmps61
  go_wp2_with (first | (go_at_call 82; refine (hck.out _ HBW.out).mono ?_; rintro e w2 ⟨rfl, hb2⟩; replace HX := Aside.mk ((hb2.block _ (lt_of_blk HX.out)).trans HX.out); obtain ⟨c0, c1, c2, c3, c4, c5, c6, c7⟩ := box8 HX.out; have B2 := Aside.mk (HBW.out.trans (hb2.mono HBW.out.size)); clear hb2) | (go_at_call 129; refine (hnull.out _ B2.out).mono ?_; rintro e w3 ⟨rfl, hb3⟩; replace HX := Aside.mk ((hb3.block _ (lt_of_blk HX.out)).trans HX.out); replace B2 := Aside.mk (B2.out.trans (hb3.mono B2.out.size)); clear hb3 c0 c1 c2 c3 c4 c5 c6 c7))
  obtain ⟨p0, p1, p2, p3, p4, p5, p6, p7⟩ := box8 HX.out
  have hlt := lt_of_blk HX.out
  have hmeth := meth_c
  go_region_held3 (fun w' => w'.cell? ⟨w.heap.size, 0, none⟩ = some (.int .i64 16) ∧ w'.cell? ⟨w.heap.size, 1, none⟩ = some (.int .i64 c.s) ∧ w'.cell? ⟨w.heap.size, 2, none⟩ = some (.int .i64 c.n) ∧ w'.cell? ⟨w.heap.size, 3, none⟩ = some (.int .i64 c.m) ∧ w'.cell? ⟨w.heap.size, 4, none⟩ = some (.slice B.a c.bits.length B.c) ∧ w'.cell? ⟨w.heap.size, 5, none⟩ = some (.slice D.a c.data.length D.c) ∧ w'.cell? ⟨w.heap.size, 6, none⟩ = some (.slice E.a c.ends.length E.c) ∧ w'.cell? ⟨w.heap.size, 7, none⟩ = some (.slice X.a c.words.length X.c))
    (first | (refine ⟨?_, ?_, ?_, ?_, ?_, ?_, ?_, ?_⟩ <;> with_reducible assumption) | (refine ⟨?_, ?_, ?_, ?_, ?_, ?_, ?_, ?_⟩ <;> with_reducible exact cell_drew (by assumption)) | (refine ⟨?_, ?_, ?_, ?_, ?_, ?_, ?_, ?_⟩ <;> with_reducible exact cell_alloc (by first | assumption | exact lt_drew (by assumption)) (by first | assumption | exact cell_drew (by assumption))) | (refine ⟨?_, ?_, ?_, ?_, ?_, ?_, ?_, ?_⟩ <;> with_reducible exact cell_set3 (by omega) (by first | assumption | exact cell_alloc (by assumption) (by assumption))) | (refine ⟨?_, ?_, ?_, ?_, ?_, ?_, ?_, ?_⟩ <;> exact cell_alloc (by assumption) (by assumption)))
    (first
      | (go_at_call 86; refine (of_c c.s _).mono ?_; rintro e wK ⟨rfl, hbK⟩; (first | (guard_hyp hbK : Below w3.drew.heap.size w3.drew wK; have hcK : Below w3.heap.size w3 wK := undrew hbK) | (have hcK : Below w3.heap.size w3 wK := below_chain ((below_drew1 w3).alloc (Nat.le_refl _) _) hbK; have hz : wK.heap[w3.heap.size]? = some (.cells #[.int .u64 0, .slice none 0 0, .bool false] 145 (0, 0)) := (hbK.block _ (lt_of_blk (heap_alloc_new w3.drew (.cells #[.int .u64 0, .slice none 0 0, .bool false] 145)))).trans (heap_alloc_new w3.drew (.cells #[.int .u64 0, .slice none 0 0, .bool false] 145)))); obtain ⟨k0, k1, k2, k3, k4, k5, k6, k7⟩ := box8 ((hcK.block _ hlt).trans HX.out); have hltK := Nat.lt_of_lt_of_le hlt hcK.size)
      | (go_at_call 224; refine (hval.out _ (B2.out.trans (Below.mono (by first | (with_reducible exact hcK) | exact hcK.alloc hcK.size _) B2.out.size))).mono ?_; rintro e wL ⟨va, vc, rfl, ho, hbL⟩; (first | (guard_hyp hbL : Below wK.heap.size wK wL; have hcL : Below w3.heap.size w3 wL := below_chain hcK hbL; have hoK : w3.heap.size ≤ wK.heap.size := hcK.size; have HO := Aside.mk (ho.mono hoK); (first | (replace hz := (hbL.block _ (lt_of_blk hz)).trans hz) | skip)) | (have hcL : Below w3.heap.size w3 wL := below_chain (hcK.alloc hcK.size _) hbL; have HO := Aside.mk (ho.mono (base' := w3.heap.size) (by have := hcK.size; simp; omega)); have hz := (hbL.block _ (lt_of_blk (heap_alloc_new wK (.cells #[.int .u64 0, .slice none 0 0, .bool false] 145)))).trans (heap_alloc_new wK (.cells #[.int .u64 0, .slice none 0 0, .bool false] 145)))); obtain ⟨l0, l1, l2, l3, l4, l5, l6, l7⟩ := box8 ((hcL.block _ hlt).trans HX.out); have hltL := Nat.lt_of_lt_of_le hlt hcL.size; clear ho; have HCL := Aside.mk hcL; (first | (have z0 := cell_blk (k := 0) hz; have z1 := cell_blk (k := 1) hz; have z2 := cell_blk (k := 2) hz; have y0 := frozen_blk (k := 0) hz; have y1 := frozen_blk (k := 1) hz; have y2 := frozen_blk (k := 2) hz; simp at z0 z1 z2; have HZ := Aside.mk hz; clear hz) | skip)))
  all_goals
    go_wp2
    go_quiet (fail)
    go_wp2
    refine bodyPost_ret (v := .tuple #[.int .u64 (b : Int), .slice va tx.length vc, .bool false, .int .i64 0]) (by simp [results, Tryz.results61, go_sem]) rfl ?_
    refine ⟨va, vc, rfl, ?_⟩
    first
      | exact get_end B2.out HCL.out (Nat.le_refl _) HZ.out HO.out _
      | exact get_end B2.out HCL.out hcK.size HZ.out HO.out _
      | exact get_endA B2.out HCL.out HO.out _ _

theorem get_r (c : Col) (hk : c.k = 15) (hc : COK c) (B D E X : SL) (vals : List Value) (i : Nat) (hr : checkC c = 0) (hi : (i : Int) < c.n) (hnl : nullB c.bits i = false) (b : Nat) (tx : List Int) (w : World) (h : RdC w c B D E X vals) (hv : ∀ w2, Below w.heap.size w w2 → Calls Tryz.prog 219 #[(.agg #[]), colV c B D E X, .int .i64 (i : Int)] w2 (ValP b tx w2)) : Calls Tryz.prog 61 #[colV c B D E X, .int .i64 (i : Int)] w (GetP b tx w) := by
  have HBW := Aside.mk (below_new w (.cells #[.int .i64 15, .int .i64 c.s, .int .i64 c.n, .int .i64 c.m, .slice B.a c.bits.length B.c, .slice D.a c.data.length D.c, .slice E.a c.ends.length E.c, .slice X.a c.words.length X.c] 63))
  have hck := Aside.mk (fun (w2 : World) (hb : Below w.heap.size w w2) => check_any c hc B D E X vals w2 (h.below hb))
  have hnull := Aside.mk (fun (w2 : World) (hb : Below w.heap.size w w2) => null_any c B D E X i (check_bits hr hi) hc.bits hc.lb w2 (h.bits.below hb))
  have hval := Aside.mk hv
  rw [hr] at hck
  rw [hnl] at hnull
  clear h hr hnl hv
  have HCV := (show colV c B D E X = .agg #[.int .i64 15, .int .i64 c.s, .int .i64 c.n, .int .i64 c.m, .slice B.a c.bits.length B.c, .slice D.a c.data.length D.c, .slice E.a c.ends.length E.c, .slice X.a c.words.length X.c] by rw [colV, hk])
  rw [HCV] at hck hnull hval ⊢
  clear hk HCV
  have HX := Aside.mk (heap_alloc_new w (.cells #[.int .i64 15, .int .i64 c.s, .int .i64 c.n, .int .i64 c.m, .slice B.a c.bits.length B.c, .slice D.a c.data.length D.c, .slice E.a c.ends.length E.c, .slice X.a c.words.length X.c] 63))
  go_enter Tryz.func61, Tryz.ntmps61
  go_wp2_with (first | (go_at_call 82; refine (hck.out _ HBW.out).mono ?_; rintro e w2 ⟨rfl, hb2⟩; replace HX := Aside.mk ((hb2.block _ (lt_of_blk HX.out)).trans HX.out); obtain ⟨c0, c1, c2, c3, c4, c5, c6, c7⟩ := box8 HX.out; have B2 := Aside.mk (HBW.out.trans (hb2.mono HBW.out.size)); clear hb2) | (go_at_call 129; refine (hnull.out _ B2.out).mono ?_; rintro e w3 ⟨rfl, hb3⟩; replace HX := Aside.mk ((hb3.block _ (lt_of_blk HX.out)).trans HX.out); replace B2 := Aside.mk (B2.out.trans (hb3.mono B2.out.size)); clear hb3 c0 c1 c2 c3 c4 c5 c6 c7))
  obtain ⟨p0, p1, p2, p3, p4, p5, p6, p7⟩ := box8 HX.out
  have hlt := lt_of_blk HX.out
  have hmeth := meth_r
  go_region_held3 (fun w' => w'.cell? ⟨w.heap.size, 0, none⟩ = some (.int .i64 15) ∧ w'.cell? ⟨w.heap.size, 1, none⟩ = some (.int .i64 c.s) ∧ w'.cell? ⟨w.heap.size, 2, none⟩ = some (.int .i64 c.n) ∧ w'.cell? ⟨w.heap.size, 3, none⟩ = some (.int .i64 c.m) ∧ w'.cell? ⟨w.heap.size, 4, none⟩ = some (.slice B.a c.bits.length B.c) ∧ w'.cell? ⟨w.heap.size, 5, none⟩ = some (.slice D.a c.data.length D.c) ∧ w'.cell? ⟨w.heap.size, 6, none⟩ = some (.slice E.a c.ends.length E.c) ∧ w'.cell? ⟨w.heap.size, 7, none⟩ = some (.slice X.a c.words.length X.c))
    (first | (refine ⟨?_, ?_, ?_, ?_, ?_, ?_, ?_, ?_⟩ <;> with_reducible assumption) | (refine ⟨?_, ?_, ?_, ?_, ?_, ?_, ?_, ?_⟩ <;> with_reducible exact cell_drew (by assumption)) | (refine ⟨?_, ?_, ?_, ?_, ?_, ?_, ?_, ?_⟩ <;> with_reducible exact cell_alloc (by first | assumption | exact lt_drew (by assumption)) (by first | assumption | exact cell_drew (by assumption))) | (refine ⟨?_, ?_, ?_, ?_, ?_, ?_, ?_, ?_⟩ <;> with_reducible exact cell_set3 (by omega) (by first | assumption | exact cell_alloc (by assumption) (by assumption))) | (refine ⟨?_, ?_, ?_, ?_, ?_, ?_, ?_, ?_⟩ <;> exact cell_alloc (by assumption) (by assumption)))
    (first
      | (go_at_call 86; refine (of_r c.s _).mono ?_; rintro e wK ⟨rfl, hbK⟩; (first | (guard_hyp hbK : Below w3.drew.heap.size w3.drew wK; have hcK : Below w3.heap.size w3 wK := undrew hbK) | (have hcK : Below w3.heap.size w3 wK := below_chain ((below_drew1 w3).alloc (Nat.le_refl _) _) hbK; have hz : wK.heap[w3.heap.size]? = some (.cells #[.int .u64 0, .slice none 0 0, .bool false] 145 (0, 0)) := (hbK.block _ (lt_of_blk (heap_alloc_new w3.drew (.cells #[.int .u64 0, .slice none 0 0, .bool false] 145)))).trans (heap_alloc_new w3.drew (.cells #[.int .u64 0, .slice none 0 0, .bool false] 145)))); obtain ⟨k0, k1, k2, k3, k4, k5, k6, k7⟩ := box8 ((hcK.block _ hlt).trans HX.out); have hltK := Nat.lt_of_lt_of_le hlt hcK.size)
      | (go_at_call 219; refine (hval.out _ (B2.out.trans (Below.mono (by first | (with_reducible exact hcK) | exact hcK.alloc hcK.size _) B2.out.size))).mono ?_; rintro e wL ⟨va, vc, rfl, ho, hbL⟩; (first | (guard_hyp hbL : Below wK.heap.size wK wL; have hcL : Below w3.heap.size w3 wL := below_chain hcK hbL; have hoK : w3.heap.size ≤ wK.heap.size := hcK.size; have HO := Aside.mk (ho.mono hoK); (first | (replace hz := (hbL.block _ (lt_of_blk hz)).trans hz) | skip)) | (have hcL : Below w3.heap.size w3 wL := below_chain (hcK.alloc hcK.size _) hbL; have HO := Aside.mk (ho.mono (base' := w3.heap.size) (by have := hcK.size; simp; omega)); have hz := (hbL.block _ (lt_of_blk (heap_alloc_new wK (.cells #[.int .u64 0, .slice none 0 0, .bool false] 145)))).trans (heap_alloc_new wK (.cells #[.int .u64 0, .slice none 0 0, .bool false] 145)))); obtain ⟨l0, l1, l2, l3, l4, l5, l6, l7⟩ := box8 ((hcL.block _ hlt).trans HX.out); have hltL := Nat.lt_of_lt_of_le hlt hcL.size; clear ho; have HCL := Aside.mk hcL; (first | (have z0 := cell_blk (k := 0) hz; have z1 := cell_blk (k := 1) hz; have z2 := cell_blk (k := 2) hz; have y0 := frozen_blk (k := 0) hz; have y1 := frozen_blk (k := 1) hz; have y2 := frozen_blk (k := 2) hz; simp at z0 z1 z2; have HZ := Aside.mk hz; clear hz) | skip)))
  all_goals
    go_wp2
    go_quiet (fail)
    go_wp2
    refine bodyPost_ret (v := .tuple #[.int .u64 (b : Int), .slice va tx.length vc, .bool false, .int .i64 0]) (by simp [results, Tryz.results61, go_sem]) rfl ?_
    refine ⟨va, vc, rfl, ?_⟩
    first
      | exact get_end B2.out HCL.out (Nat.le_refl _) HZ.out HO.out _
      | exact get_end B2.out HCL.out hcK.size HZ.out HO.out _
      | exact get_endA B2.out HCL.out HO.out _ _
end Go.Proofs.YtmhjjhaipcgbiaaGreat


/- column.Get of any value of a column that may be; mintagekeep.Same. -/
namespace Go.Proofs.YtmhjjhaipcgbiaaGreat
open Go.RowKit
set_option linter.unusedVariables false
set_option linter.unusedSimpArgs false
set_option maxRecDepth 100000
set_option maxHeartbeats 1000000

theorem own_addr {w : World} {base : Nat} {E : TypeId} {sz n c : Nat} {a : Option Addr} {xs : List Value} (h : Own w base E sz (.slice a n c) n xs) : a = none ∨ ∃ g off, a = some ⟨g, off, none⟩ := by
  rcases h.2 with ⟨e, _⟩ | ⟨g, off, cap, cur, e, _⟩
  · simp only [Value.slice.injEq] at e; exact .inl e.1
  · simp only [Value.slice.injEq] at e; exact .inr ⟨g, off, e.1⟩

theorem get_value (c : Col) (hc : COK c) (B D E X : SL) (vals : List Value) (i : Nat) (hr : checkC c = 0) (hi : (i : Int) < c.n) (hnl : nullB c.bits i = false) (hDa : D.a = none ∨ ∃ g off, D.a = some ⟨g, off, none⟩) (w : World) (h : RdC w c B D E X vals) :
    Calls Tryz.prog 61 #[colV c B D E X, .int .i64 (i : Int)] w (GetP (valueC c i).1 (valueC c i).2 w) := by
  obtain ⟨ho, _, _, _⟩ := check_zero hr
  by_cases h15 : c.k = 15
  · obtain ⟨hn, _⟩ := running_facts hr h15
    have hie : i < c.ends.length := by omega
    obtain ⟨f, t, e1, e2, hft, htd⟩ := check_ends hr h15 i hie
    have ev : valueC c i = (0, (c.data.drop f).take (t - f)) := by
      unfold valueC
      rw [if_pos h15, e1, e2, Int.toNat_natCast]
      congr 2
      omega
    rw [ev]
    refine get_r c h15 hc B D E X vals i hr hi hnl 0 _ w h (fun w2 hb => ?_)
    rcases hDa with hD | ⟨g, off, hD⟩
    · obtain ⟨_, a, cap, e, _, _, h0, _⟩ := h.data
      simp only [Value.slice.injEq, true_and] at e
      have hd0 := (h0 (by rw [← e.1, hD])).1
      obtain rfl : t = 0 := by omega
      obtain rfl : f = 0 := by omega
      have := value_r0 c hc B D E X vals i hie (by simpa using e1) (by simpa using e2) hD w2 (h.below hb)
      simpa using this
    · exact value_r c hc B D E X vals i f t hie e1 e2 hft htd g off hD w2 (h.below hb)
  by_cases h16 : c.k = 16
  · have hx := check_code hr h16 hi hnl
    have hs := (coded_facts hr h16).1
    have ev : valueC c i = (0, c.words.getD (wordAt c.data (i * 4) 4) []) := by
      unfold valueC
      rw [if_neg h15, if_pos h16]
    rw [ev]
    exact get_c c h16 hc B D E X vals i hr hi hnl 0 _ w h (fun w2 hb => value_c c hc B D E X vals i (sized_room hs i (by omega)) hx w2 (h.below hb))
  · obtain ⟨W, hW, hW8⟩ := width_eight ho h15
    have ev : valueC c i = (wordAt c.data (i * W) W, []) := by
      unfold valueC
      rw [if_neg h15, if_neg h16, hW, Int.toNat_natCast]
    rw [ev]
    exact get_f c h15 h16 hW hc B D E X vals i hr hi hnl _ _ w h (fun w2 hb => value_f W hW8 c hc B D E X vals i (check_room hr h15 h16 hW hi) w2 (h.below hb))

theorem str_inj {a b : List Int} (ha : IsBytes a) (hb : IsBytes b) (h : strOfNums a = strOfNums b) : a = b :=
  wordKey_inj ha hb (by unfold wordKey; rw [h])

theorem same_bytes (xs ys : List Int) (A B : SL) (hx : IsBytes xs) (hy : IsBytes ys) (w : World) (ha : Rd w 1 (.slice A.a xs.length A.c) xs.length (xs.map (.int .u8))) (hb : Rd w 1 (.slice B.a ys.length B.c) ys.length (ys.map (.int .u8))) :
    Calls Tryz.prog 47 #[.slice A.a xs.length A.c, .slice B.a ys.length B.c] w fun e w' => e = .returned (.bool (decide (xs = ys))) ∧ w = w' := by
  have h1 := conv_any A.a _ A.c xs rfl w ha
  have h2 := conv_any B.a _ B.c ys rfl w hb
  have HD := Aside.mk (show ((strOfNums xs).toList == (strOfNums ys).toList) = decide (xs = ys) by
    rw [Bool.eq_iff_iff, beq_iff_eq, decide_eq_true_eq, ByteArray.toList_eq, ByteArray.toList_eq, strOfNums_data, strOfNums_data]
    exact ⟨map_byte_inj xs ys hx hy, fun h => by rw [h]⟩)
  clear ha hb
  generalize strOfNums xs = sx at *
  generalize strOfNums ys = sy at *
  generalize xs.length = n at *
  generalize ys.length = m at *
  go_enter Tryz.func47, Tryz.ntmps47
  go_wp2
  go_ret
  exact ⟨ret_bool HD.out, rfl⟩
end Go.Proofs.YtmhjjhaipcgbiaaGreat


/- A range over a function, walked outside any fence. Over any program. -/
namespace Go.Proofs.YtmhjjhaipcgbiaaGreat
open Go.RowKit Go.Shelf
set_option linter.unusedVariables false

theorem calls_of_marks {P : Program} {f : FuncId} {fn : Func} {c : Code} {args : Array Value} {w : World} {R : Ending → World → Prop} (hf : P.funcs[f]? = some fn) (hb : fn.body = some c)
    (h : c.wp P (bodyPostM Fence.wide 9 P fn R) { tmps := args ++ Array.replicate (fn.ntmps - args.size) undef, defers := [] } w) : Calls P f args w R :=
  callsIn_wide.1 (callsIn_of_wp_marks hf hb trivial (wpIn_wide.2 h) rfl)

/-- Behind a loop over a function the block for the rounds' deferred calls lies there, with none. -/
theorem left_marks {P : Program} {fn : Func} {tmps : Array Value} {R : Ending → World → Prop} {W : World} {D : Nat} (hK : W.heap[D]? = some (.deferred (some [])))
    {v : Value} (hr : (results fn tmps).run P (W.putObj D (.deferred none)) = .ok v (W.putObj D (.deferred none))) (h : R (.returned v) (W.putObj D (.deferred none))) :
    LeavesInM Fence.wide 9 P fn tmps R [{ target := .collected D, args := #[] }] .returning W :=
  ⟨by simp, .inl ⟨_, _, rfl, run_takeDeferred hK, ⟨v, hr, h⟩⟩⟩

theorem wp_range {P : Program} {α : Type} {g : Operand} {ps : Array Tmp} {assign body : Code} {Q : Exit → Act → World → Prop} {a : Act} {w : World}
    {gf : Nat} {lb : Array Value} (hg : a.eval g = .func (.func gf) #[] lb) (eg : ∀ args w, (callFunc gf args).run P w = .ok (.enter gf args) w)
    {encs : α → Array Value} {Kp : World → World → Prop} {S Sp : List α → Prop} {N : Nat} {w0 : World} (hseq : SeqStopsK Fence.wide 8 P gf lb encs Kp S Sp N w0)
    (hKt : ∀ {A B C : World}, Kp A B → Kp B C → Kp A C) (hKb : ∀ (W : World) (l : Nat) (o o' : Obj), w.heap.size ≤ l → W.heap[l]? = some o → o.isCells = false → o.isWalk = false → Kp W (W.putObj l o')) (hb0 : Below w0.heap.size w0 w) (hps : ∀ x, (encs x).size = ps.size)
    (I : List α → World → Prop) (Ix : Go.Code → List α → World → Prop) (hI : OwnFrom w.heap.size I) (hIx : ∀ c, OwnFrom w.heap.size (Ix c)) (h0 : I [] w) (a₁ : α → Act)
    (hassign : ∀ (l : Nat) (x : α) (W : World) (K : Act → World → Prop), K (a₁ x) W →
      assign.wpIn (Fence.wide.inRound l) 7 P (Exit.then K (fun _ _ _ => False)) { tmps := (ps.zip (encs x)).foldl (fun t (p, v) => t.setIfInBounds p v) a.tmps, defers := [] } W)
    (hbody : ∀ (l : Nat) (pre : List α) (x : α) (W : World), I pre W → pre.length < N → body.wpIn (Fence.wide.inRound l) 7 P (ownPostG w.heap.size Kp I Ix (pre ++ [x]) W) (a₁ x) W)
    (hdone : ∀ (D : Nat) (xs : List α) (W : World), w.heap.size ≤ D → S xs → I xs W → W.heap[D]? = some (.deferred (some [])) → Q .normal { a with defers := { target := .collected D, args := #[] } :: a.defers } W)
    (hstop : ∀ (D : Nat) (c : Go.Code) (pre : List α) (W : World), w.heap.size ≤ D → Sp pre → Ix c pre W → W.heap[D]? = some (.deferred (some [])) → c.wp P Q { a with defers := { target := .collected D, args := #[] } :: a.defers } W) :
    (Code.rangeFunc g ps assign body).wp P Q a w :=
  wpIn_wide.1 (wpIn_rangeFunc_ownG (F := Fence.wide) (n := 9) rfl (by decide) hg trivial eg hseq hKt hKb hb0 hps I Ix hI hIx h0 a₁ hassign hbody hdone (fun D c pre W h1 h2 h3 h4 => wpIn_wide.2 (hstop D c pre W h1 h2 h3 h4)))

/-- What a row that is owned owns behind the turn of a block that is no cells. -/
theorem Own.from_ {w w' : World} {base : Nat} {E : TypeId} {sz n : Nat} {v : Value} {xs : List Value} {row : Option Nat} (h : Own w base E sz v n xs) (hg : w.grownBy w' row) (hr : ∀ r, row = some r → ∃ o : Obj, w.heap[r]? = some o ∧ o.isCells = false) : Own w' base E sz v n xs := by
  refine h.moved (fun k hk => hg.block k (h.lt k hk).2 (fun e => ?_))
  obtain ⟨o, ho, hc⟩ := hr k e.symm
  rcases h.2 with ⟨rfl, _⟩ | ⟨g, off, cap, cur, rfl, _, hgb, _⟩
  · cases hk
  · cases hk; rw [hgb] at ho; cases ho; cases hc
theorem blk_from {w w' : World} {b : Nat} {cs : Array Value} {T : TypeId} {fr : Nat × Nat} {row : Option Nat} (h : w.heap[b]? = some (.cells cs T fr)) (hg : w.grownBy w' row) (hr : ∀ r, row = some r → ∃ o : Obj, w.heap[r]? = some o ∧ o.isCells = false) : w'.heap[b]? = some (.cells cs T fr) := by
  refine (hg.block b (lt_of_blk h) (fun e => ?_)).trans h
  obtain ⟨o, ho, hc⟩ := hr b e.symm
  rw [h] at ho; cases ho; cases hc
end Go.Proofs.YtmhjjhaipcgbiaaGreat


/- A range over a function whose elements lie in memory of their own: the round is told where they read. Over any program. -/
namespace Go.Proofs.YtmhjjhaipcgbiaaGreat
open Go.RowKit Go.Shelf
set_option linter.unusedVariables false

/-- The contract of an iterator: round k is handed a value of which Q k speaks, in a world that the caller's invariant J k holds of. -/
def SeqV (P : Program) (gf : Nat) (lb : Array Value) (encs : Nat → Value → Array Value) (D : Nat → Value → World → Prop) (Good : World → Prop) (N : Nat) : Prop :=
  ∀ (l : Nat) (J : Nat → World → Prop) (Jx : World → Prop) (W : World),
    (∀ k A B, J k A → Below A.heap.size A B → J k B) → (∀ k A, J k A → Good A) →
    (∀ k v W1, k < N → J k W1 → D k v W1 → YieldAt Fence.wide 7 P l (encs k v) W1 fun e W' => (e = .returned (.bool true) ∧ J (k + 1) W') ∨ (e = .returned (.bool false) ∧ Jx W')) →
    J 0 W → CallsIn Fence.wide 8 P gf (#[.func (.yield l) #[] #[]] ++ lb) W fun e W' => (∃ v, e = .returned v) ∧ (J N W' ∨ Jx W')

/-- The two blocks that the statement lays for itself lie as they lay. -/
def Bk (b : Nat) (A B : World) : Prop := ∀ k, k = b ∨ k = b + 1 → B.heap[k]? = A.heap[k]?

/-- How a round may be left. -/
def roundV (b : Nat) (I : World → Prop) (Ix : Code → World → Prop) (A : World) : Exit → Act → World → Prop
  | .normal, _, W' => Bk b A W' ∧ I W'
  | .ret, _, W' => Bk b A W' ∧ Ix .ret W'
  | .exit id, _, W' => Bk b A W' ∧ Ix (.exit id) W'
  | .goto t, _, W' => Bk b A W' ∧ Ix (.goto t) W'
  | .panic _, _, _ => False
  | .outgrown, _, _ => False

/-- The two blocks are no cells. -/
def Marks (b : Nat) (W : World) : Prop := (∃ o, W.heap[b]? = some (.deferred o)) ∧ ∃ r, W.heap[b + 1]? = some (.loop r)
theorem Rd.marks {W W' : World} {sz n b : Nat} {v : Value} {xs : List Value} (h : Rd W sz v n xs) (hm : Marks b W) (hk : Kept (fun k => k = b ∨ k = b + 1) W W') : Rd W' sz v n xs := by
  obtain ⟨hl, a, cap, rfl, h1, h2, h3, h4⟩ := h
  refine ⟨hl, a, cap, rfl, h1, h2, h3, fun j u hu => ?_⟩
  obtain ⟨g, off, rfl, hc⟩ := h4 j u hu
  refine ⟨g, off, rfl, hk.cell hc ?_⟩
  obtain ⟨⟨o, ho⟩, r, hr⟩ := hm
  rintro (e | e)
  · simp only at e
    rw [e] at hc
    simp [World.cell?, ho] at hc
  · simp only at e
    rw [e] at hc
    simp [World.cell?, hr] at hc

theorem kept_putObj {W : World} {l b : Nat} {o : Obj} (h : l = b ∨ l = b + 1) : Kept (fun k => k = b ∨ k = b + 1) W (W.putObj l o) :=
  ⟨rfl, rfl, rfl, by simp, fun k hk hn => World.putObj_heap_other (fun e => hn (e ▸ h))⟩
theorem below_two (w : World) (o1 o2 : Obj) : Below w.heap.size w ((w.alloc o1).alloc o2) ∧ ((w.alloc o1).alloc o2).heap.size = w.heap.size + 2 ∧
    ((w.alloc o1).alloc o2).heap[w.heap.size]? = some o1 ∧ ((w.alloc o1).alloc o2).heap[w.heap.size + 1]? = some o2 := by
  refine ⟨((Below.refl _ w).alloc (Nat.le_refl _) _).alloc (by simp) _, by simp, ?_, ?_⟩
  · exact (Below.heap_alloc _ _ _ (by simp)).trans (World.alloc_heap_new w _)
  · have := World.alloc_heap_new (w.alloc o1) o2
    rwa [World.size_alloc] at this

theorem wp_seq {P : Program} {g : Operand} {ps : Array Tmp} {assign body : Code} {Q : Exit → Act → World → Prop} {a : Act} {w : World}
    {gf : Nat} {lb : Array Value} (hg : a.eval g = .func (.func gf) #[] lb) (eg : ∀ args w, (callFunc gf args).run P w = .ok (.enter gf args) w)
    {encs : Nat → Value → Array Value} {D : Nat → Value → World → Prop} {Good : World → Prop} {N : Nat} (hseq : SeqV P gf lb encs D Good N) (hps : ∀ k v, (encs k v).size = ps.size)
    (I : Nat → World → Prop) (Ix : Code → World → Prop) (hIG : ∀ k A, I k A → Good A)
    (hI : ∀ k A B, Kept (fun k => k = w.heap.size ∨ k = w.heap.size + 1) A B → I k A → I k B) (hIx : ∀ c A B, Kept (fun k => k = w.heap.size ∨ k = w.heap.size + 1) A B → Ix c A → Ix c B)
    (h0 : ∀ W, Below w.heap.size w W → W.heap.size = w.heap.size + 2 → I 0 W)
    (hround : ∀ l k v W, k < N → I k W → D k v W → w.heap.size + 1 < W.heap.size → Marks w.heap.size W → assign.wpIn (Fence.wide.inRound l) 7 P (Exit.then (fun a₁ W₁ => Bk w.heap.size W W₁ ∧
        ∀ W₂, Kept (fun k => k = w.heap.size ∨ k = w.heap.size + 1) W₁ W₂ → W₂.heap.size = W₁.heap.size →
          body.wpIn (Fence.wide.inRound l) 7 P (roundV w.heap.size (I (k + 1)) Ix W₂) a₁ W₂) (fun _ _ _ => False))
      { tmps := (ps.zip (encs k v)).foldl (fun t (p, v) => t.setIfInBounds p v) a.tmps, defers := [] } W)
    (hdone : ∀ W, I N W → W.heap[w.heap.size]? = some (.deferred (some [])) → Q .normal { a with defers := { target := .collected w.heap.size, args := #[] } :: a.defers } W)
    (hstop : ∀ c W, Ix c W → W.heap[w.heap.size]? = some (.deferred (some [])) → c.wp P Q { a with defers := { target := .collected w.heap.size, args := #[] } :: a.defers } W) :
    (Code.rangeFunc g ps assign body).wp P Q a w := by
  refine wpIn_wide.1 (wpIn_rangeFunc (F := Fence.wide) (n := 9) fun fn hfn => ?_)
  let rec_ : LoopState → Option Code → Loop := fun st pe => { state := st, pending := pe, fn, tmps := a.tmps, params := ps, assign, body, defers := w.heap.size }
  obtain ⟨t1, t2, t3, t4⟩ := below_two w (.deferred (some [])) (.loop (rec_ .ready none))
  generalize hW1 : (w.alloc (.deferred (some []))).alloc (.loop (rec_ .ready none)) = W1 at t1 t2 t3 t4
  refine ⟨w.heap.size + 1, [{ target := .collected w.heap.size, args := #[] }], W1, { target := .fn (.func gf) lb, args := #[.func (.yield (w.heap.size + 1)) #[] #[]] }, W1, gf,
    #[.func (.yield (w.heap.size + 1)) #[] #[]] ++ lb, W1, ?_, ?_, ?_, ?_, fun _ => by decide, ?_⟩
  · rw [← hW1]; exact run_enterLoop_outer _ _ _ _ _
  · simp only [resolve, hg]
    simp [go_sem]
  · intro f' hf'; trivial
  · simp [invoke, go_sem, eg]
  refine (hseq (w.heap.size + 1) (fun k A => I k A ∧ A.heap[w.heap.size + 1]? = some (.loop (rec_ .ready none)) ∧ A.heap[w.heap.size]? = some (.deferred (some [])))
    (fun A => ∃ c, Ix c A ∧ A.heap[w.heap.size + 1]? = some (.loop (rec_ .done (some c))) ∧ A.heap[w.heap.size]? = some (.deferred (some []))) W1 ?_ (fun k A h => hIG k A h.1) ?_ ⟨h0 W1 t1 t2, t4, t3⟩).mono ?_
  · rintro k A B ⟨h1, h2, h3⟩ hb
    exact ⟨hI k A B (Kept.of_below hb) h1, (hb.block _ (lt_of_blk h2)).trans h2, (hb.block _ (lt_of_blk h3)).trans h3⟩
  · rintro k v A hk ⟨h1, h2, h3⟩ hd
    have hlt := lt_of_blk h2
    refine ⟨fn, _, assign, body, run_yield (P := P) (args := encs k v) h2 (hps k v), roundIn_of_wpIn hfn (wpIn_mono (hround _ k v A hk h1 hd hlt ⟨⟨_, h3⟩, ⟨_, h2⟩⟩) ?_)⟩
    rintro e a1 W₁ hp
    cases e with
    | normal =>
      obtain ⟨hb1, hbody⟩ := hp
      have h2' := (hb1 _ (.inr rfl)).trans h2
      have h3' := (hb1 _ (.inl rfl)).trans h3
      refine ⟨_, run_beginRound h2' rfl, wpIn_mono (hbody _ (kept_putObj (.inr rfl)) (by simp)) ?_⟩
      have hl2 : (W₁.putObj (w.heap.size + 1) (.loop { rec_ .ready none with state := .busy })).heap[w.heap.size + 1]? = some (.loop { rec_ .ready none with state := .busy }) := World.putObj_heap_same (lt_of_blk h2')
      have hk2 : (W₁.putObj (w.heap.size + 1) (.loop { rec_ .ready none with state := .busy })).heap[w.heap.size]? = some (.deferred (some [])) := (World.putObj_heap_other (by omega)).trans h3'
      have fin : ∀ (j : Option Code) (W3 : World), Bk w.heap.size (W₁.putObj (w.heap.size + 1) (.loop { rec_ .ready none with state := .busy })) W3 →
          (Instr.endRound (w.heap.size + 1) j).run P W3 = .ok (.bool j.isNone) (W3.putObj (w.heap.size + 1) (.loop (rec_ (if j.isNone then .ready else .done) j))) ∧
          (W3.putObj (w.heap.size + 1) (.loop (rec_ (if j.isNone then .ready else .done) j))).heap[w.heap.size + 1]? = some (.loop (rec_ (if j.isNone then .ready else .done) j)) ∧
          (W3.putObj (w.heap.size + 1) (.loop (rec_ (if j.isNone then .ready else .done) j))).heap[w.heap.size]? = some (.deferred (some [])) := fun j W3 hb3 => by
        have hl3 := (hb3 _ (.inr rfl)).trans hl2
        exact ⟨run_endRound (P := P) j hl3, World.putObj_heap_same (lt_of_blk hl3), (World.putObj_heap_other (by omega)).trans ((hb3 _ (.inl rfl)).trans hk2)⟩
      rintro e a3 W3 hp3
      cases e with
      | normal => obtain ⟨hb3, hi3⟩ := hp3; obtain ⟨hr, q1, q2⟩ := fin none W3 hb3; exact ⟨_, _, hr, .inl ⟨rfl, hI _ _ _ (kept_putObj (.inr rfl)) hi3, q1, q2⟩⟩
      | ret => obtain ⟨hb3, hi3⟩ := hp3; obtain ⟨hr, q1, q2⟩ := fin (some .ret) W3 hb3; exact ⟨_, _, hr, .inr ⟨rfl, _, hIx _ _ _ (kept_putObj (.inr rfl)) hi3, q1, q2⟩⟩
      | exit id => obtain ⟨hb3, hi3⟩ := hp3; obtain ⟨hr, q1, q2⟩ := fin (some (.exit id)) W3 hb3; exact ⟨_, _, hr, .inr ⟨rfl, _, hIx _ _ _ (kept_putObj (.inr rfl)) hi3, q1, q2⟩⟩
      | goto t => obtain ⟨hb3, hi3⟩ := hp3; obtain ⟨hr, q1, q2⟩ := fin (some (.goto t)) W3 hb3; exact ⟨_, _, hr, .inr ⟨rfl, _, hIx _ _ _ (kept_putObj (.inr rfl)) hi3, q1, q2⟩⟩
      | panic ch => exact hp3.elim
      | outgrown => exact hp3.elim
    | ret => exact hp.elim
    | exit id => exact hp.elim
    | goto t => exact hp.elim
    | panic ch => exact hp.elim
    | outgrown => exact hp.elim
  · rintro e W2 ⟨⟨v, rfl⟩, ⟨h1, h2, h3⟩ | ⟨c, h1, h2, h3⟩⟩
    · have := run_endLoop (P := P) h2 (by simp [rec_])
      refine ⟨none, _, this, ?_⟩
      refine hdone _ (hI _ _ _ (kept_putObj (.inr rfl)) h1) ((World.putObj_heap_other (by omega)).trans h3)
    · have := run_endLoop (P := P) h2 (by simp [rec_])
      refine ⟨some c, _, this, ?_⟩
      exact wpIn_wide.2 (hstop c _ (hIx _ _ _ (kept_putObj (.inr rfl)) h1) ((World.putObj_heap_other (by omega)).trans h3))
end Go.Proofs.YtmhjjhaipcgbiaaGreat
