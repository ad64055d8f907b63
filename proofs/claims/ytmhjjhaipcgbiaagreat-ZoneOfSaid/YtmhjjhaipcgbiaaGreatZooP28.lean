/- Texts of this claim, one behind the other: Zy, Zj. -/
import Derived.Test.YtmhjjhaipcgbiaaGreatZooP27

namespace Go.Proofs.YtmhjjhaipcgbiaaGreat
open Go.RowKit
set_option linter.unusedVariables false
set_option linter.unusedSimpArgs false
set_option maxRecDepth 100000
set_option maxHeartbeats 4000000
def zLow (z : Zn) : V := ⟨false, z.least, z.first⟩
def zHigh (z : Zn) : V := ⟨false, z.most, z.last⟩
def zLo (k : Int) (z : Zn) (v : V) : Bool := !z.has || decide (cmpV k v (zLow z) < 0)
def zHi (k : Int) (z : Zn) (v : V) : Bool := !z.has || decide (0 < cmpV k v (zHigh z))
def zWith (k : Int) (z : Zn) (v : V) : Zn := ⟨z.n, z.nulls, z.odd, true, if zLo k z v then v.bits else z.least, if zHi k z v then v.bits else z.most, if zLo k z v then v.text else z.first, if zHi k z v then v.text else z.last⟩
def ZOK (k : Int) (z : Zn) : Prop := z.has = true → PlainV k (zLow z) ∧ PlainV k (zHigh z)
theorem zok_with {k : Int} {z : Zn} {v : V} (hz : ZOK k z) (hv : PlainV k v) : ZOK k (zWith k z v) := fun _ => by
  have hv2 : PlainV k ⟨false, v.bits, v.text⟩ := ⟨hv.bits, hv.text⟩
  constructor
  · cases h : zLo k z v with
    | true => unfold zWith zLow; dsimp only; rw [h]; exact hv2
    | false =>
      have hh : z.has = true := by unfold zLo at h; simp at h; exact h.1
      unfold zWith zLow; dsimp only; rw [h]; exact (hz hh).1
  · cases h : zHi k z v with
    | true => unfold zWith zHigh; dsimp only; rw [h]; exact hv2
    | false =>
      have hh : z.has = true := by unfold zHi at h; simp at h; exact h.1
      unfold zWith zHigh; dsimp only; rw [h]; exact (hz hh).2
def Stays (zb : Nat) (t : List Int) (A : SL) (W : World) : Prop := ∀ W', Kept (fun k => (k = zb ∨ k = zb + 1 + 1) ∨ W.heap.size ≤ k) W W' → RdT W' t A
theorem Stays.step {zb : Nat} {t : List Int} {A : SL} {W W2 : World} (h : Stays zb t A W) (hk : Kept (fun k => k = zb ∨ W.heap.size ≤ k) W W2) : Stays zb t A W2 := fun W' h2 => h W' ((hk.mono (T := fun k => (k = zb ∨ k = zb + 1 + 1) ∨ W.heap.size ≤ k) (fun k e _ => e.imp .inl id)).trans h2 (fun k e hl => e.imp id (fun e => by have := hk.size; omega)))
theorem Stays.now {zb : Nat} {t : List Int} {A : SL} {W : World} (h : Stays zb t A W) : RdT W t A := h W (Kept.refl _ _)
theorem stays_old {w W : World} {zb : Nat} {t : List Int} {A : SL} (hb : Below w.heap.size w W) (hz : w.heap.size ≤ zb) (h : RdT w t A) : Stays zb t A W := fun W' hk =>
  h.below (hb.trans (hk.to_below hb.size (fun k e => by have := hb.size; rcases e with (e | e) | e <;> omega)))
theorem lo_step {w3 w5 : World} {zb j1 n : Nat} {cs : Array Value} {x : Value} {t : List Int} {v5 : Value} {cr : Array Value} (h3 : w3.heap[zb]? = some (.cells cs 79 (0, 0))) (hr3 : w3.heap[zb + 1 + 1]? = some (.cells cr 79 (0, 0))) (hn : t.length = n)
    (hA : AppP ((w3.setCell ⟨zb, j1, none⟩ x).alloc (.cells #[] 5)) w3.heap.size 5 1 (.slice (some ⟨w3.heap.size, 0, none⟩) 0 0) 0 [] n (t.map (.int .u8)) v5 w5) :
    ∃ A5 : SL, v5 = .slice A5.a n A5.c ∧ w5.heap[zb]? = some (.cells (cs.setIfInBounds j1 x) 79 (0, 0)) ∧ Kept (fun k => k = zb ∨ w3.heap.size ≤ k) w3 w5 ∧ Stays zb t A5 w5 := by
  subst hn
  obtain ⟨a5, c5, rfl⟩ := hA.own.form
  have ho := hA.own
  rw [Nat.zero_add, List.nil_append] at ho
  have hl := lt_of_blk h3
  have hs : (w3.setCell ⟨zb, j1, none⟩ x).heap.size = w3.heap.size := by simp
  have hb1 : (w3.setCell ⟨zb, j1, none⟩ x).heap[zb]? = some (.cells (cs.setIfInBounds j1 x) 79 (0, 0)) := heap_setCell_at h3 x
  have hb2 := (below_new (w3.setCell ⟨zb, j1, none⟩ x) (.cells #[] 5)).block zb (by omega)
  have K : Kept (fun k => k = w3.heap.size) ((w3.setCell ⟨zb, j1, none⟩ x).alloc (.cells #[] 5)) w5 := (Kept.of_grown hA.grown).mono (fun k e _ => by cases e; rfl)
  have hz5 : w5.heap[zb]? = some (.cells (cs.setIfInBounds j1 x) 79 (0, 0)) := (K.block zb (by simp; omega) (by omega)).trans (hb2.trans hb1)
  have hlr := lt_of_blk hr3
  have hr5 : w5.heap[zb + 1 + 1]? = some (.cells cr 79 (0, 0)) := (K.block _ (by simp; omega) (by omega)).trans (((below_new (w3.setCell ⟨zb, j1, none⟩ x) (.cells #[] 5)).block _ (by omega)).trans (((Kept.setCell w3 ⟨zb, j1, none⟩ x).block _ hlr (by simp; omega)).trans hr3))
  refine ⟨⟨a5, c5⟩, by rw [Nat.zero_add], hz5, ?_, fun W' hk => ?_⟩
  · exact ((Kept.setCell w3 ⟨zb, j1, none⟩ x).trans (Kept.of_below (S := fun _ => False) (below_new _ _)) (fun _ e _ => e.elim)).mono (fun k e _ => .inl e) |>.trans K (fun k e _ => .inr (by omega))
  · refine (ho.kept hk (fun k e e2 => ?_)).rd
    rcases e2 with (rfl | rfl) | e2
    · exact ho.blk_ne hz5 (by decide) e
    · exact ho.blk_ne hr5 (by decide) e
    · have := (ho.lt k e).2; omega
theorem kept_box {w5 : World} {zb j : Nat} {x : Value} : Kept (fun k => k = zb ∨ w5.heap.size ≤ k) w5 (w5.setCell ⟨zb, j, none⟩ x) := (Kept.setCell w5 ⟨zb, j, none⟩ x).mono (fun k e _ => .inl e)
theorem fin_ret {w W : World} (hb : Below w.heap.size w W) {t1 t2 : List Int} {A1 A2 : SL} (s1 : Stays w.heap.size t1 A1 W) (s2 : Stays w.heap.size t2 A2 W) (x y0 y1 y2 y3 y4 y5 y6 y7 y8 y9 : Value) : RdT (((((((((((W.setCell ⟨w.heap.size, 5, none⟩ x).setCell ⟨w.heap.size + 1 + 1, 0, none⟩ y0).setCell ⟨w.heap.size + 1 + 1, 1, none⟩ y1).setCell ⟨w.heap.size + 1 + 1, 2, none⟩ y2).setCell ⟨w.heap.size + 1 + 1, 3, none⟩ y3).setCell ⟨w.heap.size + 1 + 1, 4, none⟩ y4).setCell ⟨w.heap.size + 1 + 1, 5, none⟩ y5).setCell ⟨w.heap.size + 1 + 1, 6, none⟩ y6).setCell ⟨w.heap.size + 1 + 1, 7, none⟩ y7).setCell ⟨w.heap.size + 1 + 1, 8, none⟩ y8).setCell ⟨w.heap.size + 1 + 1, 9, none⟩ y9) t1 A1 ∧ RdT (((((((((((W.setCell ⟨w.heap.size, 5, none⟩ x).setCell ⟨w.heap.size + 1 + 1, 0, none⟩ y0).setCell ⟨w.heap.size + 1 + 1, 1, none⟩ y1).setCell ⟨w.heap.size + 1 + 1, 2, none⟩ y2).setCell ⟨w.heap.size + 1 + 1, 3, none⟩ y3).setCell ⟨w.heap.size + 1 + 1, 4, none⟩ y4).setCell ⟨w.heap.size + 1 + 1, 5, none⟩ y5).setCell ⟨w.heap.size + 1 + 1, 6, none⟩ y6).setCell ⟨w.heap.size + 1 + 1, 7, none⟩ y7).setCell ⟨w.heap.size + 1 + 1, 8, none⟩ y8).setCell ⟨w.heap.size + 1 + 1, 9, none⟩ y9) t2 A2 ∧ Below w.heap.size w (((((((((((W.setCell ⟨w.heap.size, 5, none⟩ x).setCell ⟨w.heap.size + 1 + 1, 0, none⟩ y0).setCell ⟨w.heap.size + 1 + 1, 1, none⟩ y1).setCell ⟨w.heap.size + 1 + 1, 2, none⟩ y2).setCell ⟨w.heap.size + 1 + 1, 3, none⟩ y3).setCell ⟨w.heap.size + 1 + 1, 4, none⟩ y4).setCell ⟨w.heap.size + 1 + 1, 5, none⟩ y5).setCell ⟨w.heap.size + 1 + 1, 6, none⟩ y6).setCell ⟨w.heap.size + 1 + 1, 7, none⟩ y7).setCell ⟨w.heap.size + 1 + 1, 8, none⟩ y8).setCell ⟨w.heap.size + 1 + 1, 9, none⟩ y9) := by
  have K : Kept (fun k => k = w.heap.size ∨ k = w.heap.size + 1 + 1) W (((((((((((W.setCell ⟨w.heap.size, 5, none⟩ x).setCell ⟨w.heap.size + 1 + 1, 0, none⟩ y0).setCell ⟨w.heap.size + 1 + 1, 1, none⟩ y1).setCell ⟨w.heap.size + 1 + 1, 2, none⟩ y2).setCell ⟨w.heap.size + 1 + 1, 3, none⟩ y3).setCell ⟨w.heap.size + 1 + 1, 4, none⟩ y4).setCell ⟨w.heap.size + 1 + 1, 5, none⟩ y5).setCell ⟨w.heap.size + 1 + 1, 6, none⟩ y6).setCell ⟨w.heap.size + 1 + 1, 7, none⟩ y7).setCell ⟨w.heap.size + 1 + 1, 8, none⟩ y8).setCell ⟨w.heap.size + 1 + 1, 9, none⟩ y9) := by
    repeat (refine Kept.trans ?_ (Kept.setCell _ _ _) (fun _ e _ => .inr e))
    exact (Kept.setCell W ⟨w.heap.size, 5, none⟩ x).mono (fun _ e _ => .inl e)
  exact ⟨s1 _ (K.mono (fun _ e _ => .inl e)), s2 _ (K.mono (fun _ e _ => .inl e)), hb.trans (K.to_below hb.size (fun k e => by rcases e with e | e <;> omega))⟩
def ZRet (k s : Int) (z' : Zn) (w : World) (e : Ending) (w' : World) : Prop := ∃ F' L' : SL, e = .returned (zV k s z' F' L') ∧ RdT w' z'.first F' ∧ RdT w' z'.last L' ∧ Below w.heap.size w w'
theorem with_any (k s : Int) (hk : 1 ≤ k ∧ k ≤ 16) (zn znl zo : Nat) (zh : Bool) (zl zm : Nat) (zf zt : List Int) (hz : ZOK k ⟨zn, znl, zo, zh, zl, zm, zf, zt⟩) (vn : Bool) (vb : Nat) (vt : List Int) (hv : PlainV k ⟨vn, vb, vt⟩) (hlv : vt.length ≤ 100000000) (F L A : SL) (w : World) (hF : RdT w zf F) (hL : RdT w zt L) (hA : RdT w vt A) : Calls Tryz.prog 103 #[.agg #[.int .i64 k, .int .i64 s, .int .i64 (zn : Int), .int .i64 (znl : Int), .int .i64 (zo : Int), .bool zh, .int .u64 (zl : Int), .int .u64 (zm : Int), .slice F.a zf.length F.c, .slice L.a zt.length L.c], .agg #[.bool vn, .int .u64 (vb : Int), .slice A.a vt.length A.c]] w (ZRet k s (zWith k ⟨zn, znl, zo, zh, zl, zm, zf, zt⟩ ⟨vn, vb, vt⟩) w) := by
  obtain ⟨t1, t2, t3, t4, t5⟩ := below_three' w (.cells #[.int .i64 k, .int .i64 s, .int .i64 (zn : Int), .int .i64 (znl : Int), .int .i64 (zo : Int), .bool zh, .int .u64 (zl : Int), .int .u64 (zm : Int), .slice F.a zf.length F.c, .slice L.a zt.length L.c] 79 (0, 0)) (.cells #[.bool vn, .int .u64 (vb : Int), .slice A.a vt.length A.c] 50 (0, 0)) (.cells #[.int .i64 0, .int .i64 0, .int .i64 0, .int .i64 0, .int .i64 0, .bool false, .int .u64 0, .int .u64 0, .slice none 0 0, .slice none 0 0] 79 (0, 0))
  have hq : ∀ W', (((w.alloc (.cells #[.int .i64 k, .int .i64 s, .int .i64 (zn : Int), .int .i64 (znl : Int), .int .i64 (zo : Int), .bool zh, .int .u64 (zl : Int), .int .u64 (zm : Int), .slice F.a zf.length F.c, .slice L.a zt.length L.c] 79)).alloc (.cells #[.bool vn, .int .u64 (vb : Int), .slice A.a vt.length A.c] 50)).alloc (.cells #[.int .i64 0, .int .i64 0, .int .i64 0, .int .i64 0, .int .i64 0, .bool false, .int .u64 0, .int .u64 0, .slice none 0 0, .slice none 0 0] 79)) = W' → Below w.heap.size w W' ∧ W'.heap.size = w.heap.size + 3 ∧ W'.heap[w.heap.size]? = some (.cells #[.int .i64 k, .int .i64 s, .int .i64 (zn : Int), .int .i64 (znl : Int), .int .i64 (zo : Int), .bool zh, .int .u64 (zl : Int), .int .u64 (zm : Int), .slice F.a zf.length F.c, .slice L.a zt.length L.c] 79 (0, 0)) ∧ W'.heap[w.heap.size + 1]? = some (.cells #[.bool vn, .int .u64 (vb : Int), .slice A.a vt.length A.c] 50 (0, 0)) ∧ W'.heap[w.heap.size + 1 + 1]? = some (.cells #[.int .i64 0, .int .i64 0, .int .i64 0, .int .i64 0, .int .i64 0, .bool false, .int .u64 0, .int .u64 0, .slice none 0 0, .slice none 0 0] 79 (0, 0)) := fun W' e => by rw [← e]; exact ⟨t1, t2, t3, t4, t5⟩
  clear t1 t2 t3 t4 t5
  have HED := Aside.mk (fun W => edges_any k s ⟨zn, znl, zo, zh, zl, zm, zf, zt⟩ F L W)
  have HF := Aside.mk hF
  have HL := Aside.mk hL
  have HA := Aside.mk hA
  have HZ := Aside.mk hz
  have HV := Aside.mk hv
  have HKK := Aside.mk hk
  clear hF hL hA hz hv hk
  dsimp only [zV, rV] at HED ⊢
  go_enter Tryz.func103, Tryz.ntmps103
  go_upto_region 1 with fail
  generalize (((w.alloc (.cells #[.int .i64 k, .int .i64 s, .int .i64 (zn : Int), .int .i64 (znl : Int), .int .i64 (zo : Int), .bool zh, .int .u64 (zl : Int), .int .u64 (zm : Int), .slice F.a zf.length F.c, .slice L.a zt.length L.c] 79)).alloc (.cells #[.bool vn, .int .u64 (vb : Int), .slice A.a vt.length A.c] 50)).alloc (.cells #[.int .i64 0, .int .i64 0, .int .i64 0, .int .i64 0, .int .i64 0, .bool false, .int .u64 0, .int .u64 0, .slice none 0 0, .slice none 0 0] 79)) = w1 at *
  obtain ⟨t1, t2, t3, t4, t5⟩ := hq w1 rfl
  have B1 := Aside.mk t1
  have T1 := Aside.mk (And.intro t3 (And.intro t4 t5))
  have S1 := Aside.mk t2
  obtain ⟨c0, c1, c2, c3, c4, c5, c6, c7, c8, c9⟩ := box10 t3
  clear hq t1 t2 t3 t4 t5
  go_upto_region 2 with (go_at_call 44; refine (HED.out _).mono ?_; rintro e w2 ⟨rfl, hb2⟩; have HB2 := Aside.mk hb2; clear hb2)
  obtain ⟨t1, t2, t3, t4⟩ := below_two w2 (.cells #[.bool false, .int .u64 (zl : Int), .slice F.a zf.length F.c] 50 (0, 0)) (.cells #[.bool false, .int .u64 (zm : Int), .slice L.a zt.length L.c] 50 (0, 0))
  have hq : ∀ W', ((w2.alloc (.cells #[.bool false, .int .u64 (zl : Int), .slice F.a zf.length F.c] 50)).alloc (.cells #[.bool false, .int .u64 (zm : Int), .slice L.a zt.length L.c] 50)) = W' → Below w2.heap.size w2 W' ∧ W'.heap[w2.heap.size]? = some (.cells #[.bool false, .int .u64 (zl : Int), .slice F.a zf.length F.c] 50 (0, 0)) ∧ W'.heap[w2.heap.size + 1]? = some (.cells #[.bool false, .int .u64 (zm : Int), .slice L.a zt.length L.c] 50 (0, 0)) := fun W' e => by rw [← e]; exact ⟨t1, t3, t4⟩
  clear t1 t2 t3 t4 c0 c1 c2 c3 c4 c5 c6 c7 c8 c9
  generalize ((w2.alloc (.cells #[.bool false, .int .u64 (zl : Int), .slice F.a zf.length F.c] 50)).alloc (.cells #[.bool false, .int .u64 (zm : Int), .slice L.a zt.length L.c] 50)) = w3 at *
  obtain ⟨t1, t2, t3⟩ := hq w3 rfl
  have B13 := Aside.mk (below_chain HB2.out t1)
  have TL := Aside.mk (And.intro t2 t3)
  have HS2 := Aside.mk HB2.out.size
  clear hq t1 t2 t3 HED
  have B3 := Aside.mk (below_chain B1.out B13.out)
  have TZ := Aside.mk ((B13.out.block _ (lt_of_blk T1.out.1)).trans T1.out.1)
  have TV := Aside.mk ((B13.out.block _ (lt_of_blk T1.out.2.1)).trans T1.out.2.1)
  have TR := Aside.mk ((B13.out.block _ (lt_of_blk T1.out.2.2)).trans T1.out.2.2)
  have SF := Aside.mk (stays_old (zb := w.heap.size) B3.out (Nat.le_refl _) HF.out)
  have SL_ := Aside.mk (stays_old (zb := w.heap.size) B3.out (Nat.le_refl _) HL.out)
  have SA := Aside.mk (stays_old (zb := w.heap.size) B3.out (Nat.le_refl _) HA.out)
  clear T1 B13 HB2 HF HL HA B1
  obtain ⟨c0, c1, c2, c3, c4, c5, c6, c7, c8, c9⟩ := box10 TZ.out
  obtain ⟨d0, d1, d2⟩ := box3 TV.out
  obtain ⟨e0, e1, e2⟩ := box3 TL.out.1
  obtain ⟨g0, g1, g2⟩ := box3 TL.out.2
  have ff := fun k => frozen_blk (k := k) TZ.out
  have hl0 := lt_of_blk TZ.out
  have hl1 := lt_of_blk TV.out
  generalize hvl : vt.length = vl at *
  have HVL := Aside.mk hvl
  clear hvl
  cases zh with
  | false =>
    have HSRC := Aside.mk (show Src Tryz.prog 1 43 (.slice A.a vl A.c) vl (vt.map (.int .u8)) ((w3.setCell ⟨w.heap.size, 6, none⟩ (.int .u64 (vb : Int))).alloc (.cells #[] 5)) from (by
      have h := (SA.out.step ((kept_box (w5 := w3) (zb := w.heap.size) (j := 6) (x := .int .u64 (vb : Int))).trans (Kept.of_below (S := fun _ => False) (below_new _ (.cells #[] 5))) (fun _ e _ => e.elim))).now
      unfold RdT at h
      rw [HVL.out] at h
      exact h.src (P := Tryz.prog) Tryz.underlying43 (one_map (fun x : Int => Value.int .u8 x) (fun _ => rfl) vt)))
    go_wp2_with (at_builtin; refine wpList_app2 _ rfl _ _ 43 43 rfl w3.heap.size 5 (.int .u8 0) 1 1 Tryz.underlying43 byteinfoR rfl _ 0 [] rfl (own_empty _ _ _ _ _ (by simp) (Nat.le_refl _)) _ vl (vt.map (.int .u8)) rfl HSRC.out (by unfold maxLen; omega) (by omega) (by simp) ?_)
    intro v5 w5 hA
    obtain ⟨A5, rfl, hz5, hk5, hst5⟩ := lo_step TZ.out TR.out HVL.out hA
    have hz6 := heap_setCell_at (k := 8) hz5 (.slice A5.a vl A5.c)
    have KK := Aside.mk (hk5.trans (kept_box (w5 := w5) (zb := w.heap.size) (j := 8) (x := .slice A5.a vl A5.c)) (fun k e hl => e.imp id (fun e => by have := hk5.size; omega)))
    have SF2 := Aside.mk (hst5.step (kept_box (w5 := w5) (zb := w.heap.size) (j := 8) (x := .slice A5.a vl A5.c)))
    clear c0 c1 c2 c3 c4 c5 c6 c7 c8 c9 d0 d1 d2 e0 e1 e2 g0 g1 g2 ff hl0 hl1
    obtain ⟨c0, c1, c2, c3, c4, c5, c6, c7, c8, c9⟩ := box10 hz5
    have ff := fun k => frozen_blk (k := k) hz5
    have hl0 := lt_of_blk hz5
    go_upto_region 5 with fail
    replace TZ := Aside.mk (show _ = some (Obj.cells #[.int .i64 k, .int .i64 s, .int .i64 (zn : Int), .int .i64 (znl : Int), .int .i64 (zo : Int), .bool false, .int .u64 (vb : Int), .int .u64 (zm : Int), .slice A5.a vl A5.c, .slice L.a zt.length L.c] 79 (0, 0)) from hz6)
    clear hA hz5 hz6 hk5 hst5 HSRC c0 c1 c2 c3 c4 c5 c6 c7 c8 c9 ff hl0
    generalize w5.setCell ⟨w.heap.size, 8, none⟩ (.slice A5.a vl A5.c) = w6 at *
    replace B3 := Aside.mk (B3.out.trans (KK.out.to_below B3.out.size (fun k e => by have := B3.out.size; rcases e with e | e <;> omega)))
    replace TV := Aside.mk ((KK.out.block _ (lt_of_blk TV.out) (fun e => by have h1 := lt_of_blk TV.out; omega)).trans TV.out)
    replace TR := Aside.mk ((KK.out.block _ (lt_of_blk TR.out) (fun e => by have h1 := lt_of_blk TR.out; omega)).trans TR.out)
    replace TL := Aside.mk (And.intro ((KK.out.block _ (lt_of_blk TL.out.1) (fun e => by have h1 := lt_of_blk TL.out.1; have h2 := HS2.out; have h3 := S1.out; omega)).trans TL.out.1) ((KK.out.block _ (lt_of_blk TL.out.2) (fun e => by have h1 := lt_of_blk TL.out.2; have h2 := HS2.out; have h3 := S1.out; omega)).trans TL.out.2))
    replace SF := Aside.mk (SF.out.step KK.out)
    replace SL_ := Aside.mk (SL_.out.step KK.out)
    replace SA := Aside.mk (SA.out.step KK.out)
    clear KK
    obtain ⟨c0, c1, c2, c3, c4, c5, c6, c7, c8, c9⟩ := box10 TZ.out
    obtain ⟨d0, d1, d2⟩ := box3 TV.out
    obtain ⟨e0, e1, e2⟩ := box3 TL.out.1
    obtain ⟨g0, g1, g2⟩ := box3 TL.out.2
    have ff := fun k => frozen_blk (k := k) TZ.out
    have hl0 := lt_of_blk TZ.out
    have hl1 := lt_of_blk TV.out
    have HSRC := Aside.mk (show Src Tryz.prog 1 43 (.slice A.a vl A.c) vl (vt.map (.int .u8)) ((w6.setCell ⟨w.heap.size, 7, none⟩ (.int .u64 (vb : Int))).alloc (.cells #[] 5)) from (by
      have h := (SA.out.step ((kept_box (w5 := w6) (zb := w.heap.size) (j := 7) (x := .int .u64 (vb : Int))).trans (Kept.of_below (S := fun _ => False) (below_new _ (.cells #[] 5))) (fun _ e _ => e.elim))).now
      unfold RdT at h
      rw [HVL.out] at h
      exact h.src (P := Tryz.prog) Tryz.underlying43 (one_map (fun x : Int => Value.int .u8 x) (fun _ => rfl) vt)))
    go_wp2_with (at_builtin; refine wpList_app2 _ rfl _ _ 43 43 rfl w6.heap.size 5 (.int .u8 0) 1 1 Tryz.underlying43 byteinfoR rfl _ 0 [] rfl (own_empty _ _ _ _ _ (by simp) (Nat.le_refl _)) _ vl (vt.map (.int .u8)) rfl HSRC.out (by unfold maxLen; omega) (by omega) (by simp) ?_)
    intro v5 w7 hA
    obtain ⟨A7, rfl, hz5, hk5, hst5⟩ := lo_step TZ.out TR.out HVL.out hA
    have hz6 := heap_setCell_at (k := 9) hz5 (.slice A7.a vl A7.c)
    have KK := Aside.mk (hk5.trans (kept_box (w5 := w7) (zb := w.heap.size) (j := 9) (x := .slice A7.a vl A7.c)) (fun k e hl => e.imp id (fun e => by have := hk5.size; omega)))
    have SL2 := Aside.mk (hst5.step (kept_box (w5 := w7) (zb := w.heap.size) (j := 9) (x := .slice A7.a vl A7.c)))
    clear c0 c1 c2 c3 c4 c5 c6 c7 c8 c9 d0 d1 d2 e0 e1 e2 g0 g1 g2 ff hl0 hl1
    obtain ⟨c0, c1, c2, c3, c4, c5, c6, c7, c8, c9⟩ := box10 hz5
    have ff := fun k => frozen_blk (k := k) hz5
    have hl0 := lt_of_blk hz5
    go_upto_region 8 with fail
    replace TZ := Aside.mk (show _ = some (Obj.cells #[.int .i64 k, .int .i64 s, .int .i64 (zn : Int), .int .i64 (znl : Int), .int .i64 (zo : Int), .bool false, .int .u64 (vb : Int), .int .u64 (vb : Int), .slice A5.a vl A5.c, .slice A7.a vl A7.c] 79 (0, 0)) from hz6)
    clear hA hz5 hz6 hk5 hst5 HSRC c0 c1 c2 c3 c4 c5 c6 c7 c8 c9 ff hl0
    generalize w7.setCell ⟨w.heap.size, 9, none⟩ (.slice A7.a vl A7.c) = w8 at *
    replace B3 := Aside.mk (B3.out.trans (KK.out.to_below B3.out.size (fun k e => by have := B3.out.size; rcases e with e | e <;> omega)))
    replace TV := Aside.mk ((KK.out.block _ (lt_of_blk TV.out) (fun e => by have h1 := lt_of_blk TV.out; omega)).trans TV.out)
    replace TR := Aside.mk ((KK.out.block _ (lt_of_blk TR.out) (fun e => by have h1 := lt_of_blk TR.out; omega)).trans TR.out)
    replace TL := Aside.mk (And.intro ((KK.out.block _ (lt_of_blk TL.out.1) (fun e => by have h1 := lt_of_blk TL.out.1; have h2 := HS2.out; have h3 := S1.out; omega)).trans TL.out.1) ((KK.out.block _ (lt_of_blk TL.out.2) (fun e => by have h1 := lt_of_blk TL.out.2; have h2 := HS2.out; have h3 := S1.out; omega)).trans TL.out.2))
    replace SF2 := Aside.mk (SF2.out.step KK.out)
    replace SF := Aside.mk (SF.out.step KK.out)
    replace SL_ := Aside.mk (SL_.out.step KK.out)
    replace SA := Aside.mk (SA.out.step KK.out)
    clear KK
    obtain ⟨c0, c1, c2, c3, c4, c5, c6, c7, c8, c9⟩ := box10 TZ.out
    obtain ⟨d0, d1, d2⟩ := box3 TV.out
    obtain ⟨e0, e1, e2⟩ := box3 TL.out.1
    obtain ⟨g0, g1, g2⟩ := box3 TL.out.2
    have ff := fun k => frozen_blk (k := k) TZ.out
    have hl0 := lt_of_blk TZ.out
    have hl1 := lt_of_blk TV.out
    have hzr := TR.out
    obtain ⟨r0, r1, r2, r3, r4, r5, r6, r7, r8, r9⟩ := box10 hzr
    have rf := fun k => frozen_blk (k := k) hzr
    have hlr := lt_of_blk hzr
    clear hzr
    go_wp2_with fail
    refine bodyPost_ret (v := .agg #[.int .i64 k, .int .i64 s, .int .i64 (zn : Int), .int .i64 (znl : Int), .int .i64 (zo : Int), .bool true, .int .u64 (vb : Int), .int .u64 (vb : Int), .slice A5.a vl A5.c, .slice A7.a vl A7.c]) (by simp [results, Tryz.results103, go_sem, r0, r1, r2, r3, r4, r5, r6, r7, r8, r9]) rfl ?_
    have hE : zWith k ⟨zn, znl, zo, false, zl, zm, zf, zt⟩ ⟨vn, vb, vt⟩ = ⟨zn, znl, zo, true, vb, vb, vt, vt⟩ := by
      have q1 : zLo k ⟨zn, znl, zo, false, zl, zm, zf, zt⟩ ⟨vn, vb, vt⟩ = true := (by unfold zLo; rfl)
      have q2 : zHi k ⟨zn, znl, zo, false, zl, zm, zf, zt⟩ ⟨vn, vb, vt⟩ = true := (by unfold zHi; rfl)
      unfold zWith
      rw [q1, q2]
      rfl
    rw [hE]
    have hvl := HVL.out
    subst hvl
    obtain ⟨h1, h2, h3⟩ := fin_ret B3.out SF2.out SL2.out (.bool true) (.int .i64 k) (.int .i64 s) (.int .i64 (zn : Int)) (.int .i64 (znl : Int)) (.int .i64 (zo : Int)) (.bool true) (.int .u64 (vb : Int)) (.int .u64 (vb : Int)) (.slice A5.a vt.length A5.c) (.slice A7.a vt.length A7.c)
    exact ⟨A5, A7, rfl, h1, h2, h3⟩
  | true =>
    have hc := rcmp_any k s HKK.out ⟨vn, vb, vt⟩ (zLow ⟨zn, znl, zo, true, zl, zm, zf, zt⟩) vn false HV.out (HZ.out rfl).1 A F w3 SA.out.now SF.out.now
    dsimp only [zLow] at hc
    rw [HVL.out] at hc
    have HC := Aside.mk hc
    clear hc
    obtain ⟨r1, hr1⟩ : ∃ r, cmpV k ⟨vn, vb, vt⟩ ⟨false, zl, zf⟩ = r := ⟨_, rfl⟩
    rw [hr1] at HC
    have Hr1 := Aside.mk hr1
    clear hr1
    by_cases h1 : r1 < 0
    · have h1d : decide (r1 < 0) = true := by simpa using h1
      go_upto_region 3 with (go_at_call 46; refine HC.out.mono ?_; rintro e w4 ⟨rfl, hb⟩; have KK := Aside.mk (Kept.of_below (S := fun k => k = w.heap.size ∨ w3.heap.size ≤ k) hb); replace TZ := Aside.mk ((hb.block _ (lt_of_blk TZ.out)).trans TZ.out); clear hb)
      clear c0 c1 c2 c3 c4 c5 c6 c7 c8 c9 d0 d1 d2 e0 e1 e2 g0 g1 g2 ff hl0 hl1
      replace B3 := Aside.mk (B3.out.trans (KK.out.to_below B3.out.size (fun k e => by have := B3.out.size; rcases e with e | e <;> omega)))
      replace TV := Aside.mk ((KK.out.block _ (lt_of_blk TV.out) (fun e => by have h1 := lt_of_blk TV.out; omega)).trans TV.out)
      replace TR := Aside.mk ((KK.out.block _ (lt_of_blk TR.out) (fun e => by have h1 := lt_of_blk TR.out; omega)).trans TR.out)
      replace TL := Aside.mk (And.intro ((KK.out.block _ (lt_of_blk TL.out.1) (fun e => by have h1 := lt_of_blk TL.out.1; have h2 := HS2.out; have h3 := S1.out; omega)).trans TL.out.1) ((KK.out.block _ (lt_of_blk TL.out.2) (fun e => by have h1 := lt_of_blk TL.out.2; have h2 := HS2.out; have h3 := S1.out; omega)).trans TL.out.2))
      replace SF := Aside.mk (SF.out.step KK.out)
      replace SL_ := Aside.mk (SL_.out.step KK.out)
      replace SA := Aside.mk (SA.out.step KK.out)
      clear KK HC
      obtain ⟨c0, c1, c2, c3, c4, c5, c6, c7, c8, c9⟩ := box10 TZ.out
      obtain ⟨d0, d1, d2⟩ := box3 TV.out
      obtain ⟨e0, e1, e2⟩ := box3 TL.out.1
      obtain ⟨g0, g1, g2⟩ := box3 TL.out.2
      have ff := fun k => frozen_blk (k := k) TZ.out
      have hl0 := lt_of_blk TZ.out
      have hl1 := lt_of_blk TV.out
      have HSRC := Aside.mk (show Src Tryz.prog 1 43 (.slice A.a vl A.c) vl (vt.map (.int .u8)) ((w4.setCell ⟨w.heap.size, 6, none⟩ (.int .u64 (vb : Int))).alloc (.cells #[] 5)) from (by
        have h := (SA.out.step ((kept_box (w5 := w4) (zb := w.heap.size) (j := 6) (x := .int .u64 (vb : Int))).trans (Kept.of_below (S := fun _ => False) (below_new _ (.cells #[] 5))) (fun _ e _ => e.elim))).now
        unfold RdT at h
        rw [HVL.out] at h
        exact h.src (P := Tryz.prog) Tryz.underlying43 (one_map (fun x : Int => Value.int .u8 x) (fun _ => rfl) vt)))
      go_wp2_with (at_builtin; refine wpList_app2 _ rfl _ _ 43 43 rfl w4.heap.size 5 (.int .u8 0) 1 1 Tryz.underlying43 byteinfoR rfl _ 0 [] rfl (own_empty _ _ _ _ _ (by simp) (Nat.le_refl _)) _ vl (vt.map (.int .u8)) rfl HSRC.out (by unfold maxLen; omega) (by omega) (by simp) ?_)
      intro v5 w5 hA
      obtain ⟨A5, rfl, hz5, hk5, hst5⟩ := lo_step TZ.out TR.out HVL.out hA
      have hz6 := heap_setCell_at (k := 8) hz5 (.slice A5.a vl A5.c)
      have KK := Aside.mk (hk5.trans (kept_box (w5 := w5) (zb := w.heap.size) (j := 8) (x := .slice A5.a vl A5.c)) (fun k e hl => e.imp id (fun e => by have := hk5.size; omega)))
      have SF2 := Aside.mk (hst5.step (kept_box (w5 := w5) (zb := w.heap.size) (j := 8) (x := .slice A5.a vl A5.c)))
      clear c0 c1 c2 c3 c4 c5 c6 c7 c8 c9 d0 d1 d2 e0 e1 e2 g0 g1 g2 ff hl0 hl1
      obtain ⟨c0, c1, c2, c3, c4, c5, c6, c7, c8, c9⟩ := box10 hz5
      have ff := fun k => frozen_blk (k := k) hz5
      have hl0 := lt_of_blk hz5
      go_upto_region 5 with fail
      replace TZ := Aside.mk (show _ = some (Obj.cells #[.int .i64 k, .int .i64 s, .int .i64 (zn : Int), .int .i64 (znl : Int), .int .i64 (zo : Int), .bool true, .int .u64 (vb : Int), .int .u64 (zm : Int), .slice A5.a vl A5.c, .slice L.a zt.length L.c] 79 (0, 0)) from hz6)
      clear hA hz5 hz6 hk5 hst5 HSRC c0 c1 c2 c3 c4 c5 c6 c7 c8 c9 ff hl0
      generalize w5.setCell ⟨w.heap.size, 8, none⟩ (.slice A5.a vl A5.c) = w6 at *
      replace B3 := Aside.mk (B3.out.trans (KK.out.to_below B3.out.size (fun k e => by have := B3.out.size; rcases e with e | e <;> omega)))
      replace TV := Aside.mk ((KK.out.block _ (lt_of_blk TV.out) (fun e => by have h1 := lt_of_blk TV.out; omega)).trans TV.out)
      replace TR := Aside.mk ((KK.out.block _ (lt_of_blk TR.out) (fun e => by have h1 := lt_of_blk TR.out; omega)).trans TR.out)
      replace TL := Aside.mk (And.intro ((KK.out.block _ (lt_of_blk TL.out.1) (fun e => by have h1 := lt_of_blk TL.out.1; have h2 := HS2.out; have h3 := S1.out; omega)).trans TL.out.1) ((KK.out.block _ (lt_of_blk TL.out.2) (fun e => by have h1 := lt_of_blk TL.out.2; have h2 := HS2.out; have h3 := S1.out; omega)).trans TL.out.2))
      replace SF := Aside.mk (SF.out.step KK.out)
      replace SL_ := Aside.mk (SL_.out.step KK.out)
      replace SA := Aside.mk (SA.out.step KK.out)
      clear KK
      obtain ⟨c0, c1, c2, c3, c4, c5, c6, c7, c8, c9⟩ := box10 TZ.out
      obtain ⟨d0, d1, d2⟩ := box3 TV.out
      obtain ⟨e0, e1, e2⟩ := box3 TL.out.1
      obtain ⟨g0, g1, g2⟩ := box3 TL.out.2
      have ff := fun k => frozen_blk (k := k) TZ.out
      have hl0 := lt_of_blk TZ.out
      have hl1 := lt_of_blk TV.out
      have hc := rcmp_any k s HKK.out ⟨vn, vb, vt⟩ (zHigh ⟨zn, znl, zo, true, zl, zm, zf, zt⟩) vn false HV.out (HZ.out rfl).2 A L w6 SA.out.now SL_.out.now
      dsimp only [zHigh] at hc
      rw [HVL.out] at hc
      have HC := Aside.mk hc
      clear hc
      obtain ⟨r2, hr2⟩ : ∃ r, cmpV k ⟨vn, vb, vt⟩ ⟨false, zm, zt⟩ = r := ⟨_, rfl⟩
      rw [hr2] at HC
      have Hr2 := Aside.mk hr2
      clear hr2
      by_cases h2 : 0 < r2
      · have h2d : decide (0 < r2) = true := by simpa using h2
        go_upto_region 6 with (go_at_call 46; refine HC.out.mono ?_; rintro e w7 ⟨rfl, hb⟩; have KK := Aside.mk (Kept.of_below (S := fun k => k = w.heap.size ∨ w6.heap.size ≤ k) hb); replace TZ := Aside.mk ((hb.block _ (lt_of_blk TZ.out)).trans TZ.out); clear hb)
        clear c0 c1 c2 c3 c4 c5 c6 c7 c8 c9 d0 d1 d2 e0 e1 e2 g0 g1 g2 ff hl0 hl1
        replace B3 := Aside.mk (B3.out.trans (KK.out.to_below B3.out.size (fun k e => by have := B3.out.size; rcases e with e | e <;> omega)))
        replace TV := Aside.mk ((KK.out.block _ (lt_of_blk TV.out) (fun e => by have h1 := lt_of_blk TV.out; omega)).trans TV.out)
        replace TR := Aside.mk ((KK.out.block _ (lt_of_blk TR.out) (fun e => by have h1 := lt_of_blk TR.out; omega)).trans TR.out)
        replace TL := Aside.mk (And.intro ((KK.out.block _ (lt_of_blk TL.out.1) (fun e => by have h1 := lt_of_blk TL.out.1; have h2 := HS2.out; have h3 := S1.out; omega)).trans TL.out.1) ((KK.out.block _ (lt_of_blk TL.out.2) (fun e => by have h1 := lt_of_blk TL.out.2; have h2 := HS2.out; have h3 := S1.out; omega)).trans TL.out.2))
        replace SF2 := Aside.mk (SF2.out.step KK.out)
        replace SF := Aside.mk (SF.out.step KK.out)
        replace SL_ := Aside.mk (SL_.out.step KK.out)
        replace SA := Aside.mk (SA.out.step KK.out)
        clear KK HC
        obtain ⟨c0, c1, c2, c3, c4, c5, c6, c7, c8, c9⟩ := box10 TZ.out
        obtain ⟨d0, d1, d2⟩ := box3 TV.out
        obtain ⟨e0, e1, e2⟩ := box3 TL.out.1
        obtain ⟨g0, g1, g2⟩ := box3 TL.out.2
        have ff := fun k => frozen_blk (k := k) TZ.out
        have hl0 := lt_of_blk TZ.out
        have hl1 := lt_of_blk TV.out
        have HSRC := Aside.mk (show Src Tryz.prog 1 43 (.slice A.a vl A.c) vl (vt.map (.int .u8)) ((w7.setCell ⟨w.heap.size, 7, none⟩ (.int .u64 (vb : Int))).alloc (.cells #[] 5)) from (by
          have h := (SA.out.step ((kept_box (w5 := w7) (zb := w.heap.size) (j := 7) (x := .int .u64 (vb : Int))).trans (Kept.of_below (S := fun _ => False) (below_new _ (.cells #[] 5))) (fun _ e _ => e.elim))).now
          unfold RdT at h
          rw [HVL.out] at h
          exact h.src (P := Tryz.prog) Tryz.underlying43 (one_map (fun x : Int => Value.int .u8 x) (fun _ => rfl) vt)))
        go_wp2_with (at_builtin; refine wpList_app2 _ rfl _ _ 43 43 rfl w7.heap.size 5 (.int .u8 0) 1 1 Tryz.underlying43 byteinfoR rfl _ 0 [] rfl (own_empty _ _ _ _ _ (by simp) (Nat.le_refl _)) _ vl (vt.map (.int .u8)) rfl HSRC.out (by unfold maxLen; omega) (by omega) (by simp) ?_)
        intro v5 w8 hA
        obtain ⟨A7, rfl, hz5, hk5, hst5⟩ := lo_step TZ.out TR.out HVL.out hA
        have hz6 := heap_setCell_at (k := 9) hz5 (.slice A7.a vl A7.c)
        have KK := Aside.mk (hk5.trans (kept_box (w5 := w8) (zb := w.heap.size) (j := 9) (x := .slice A7.a vl A7.c)) (fun k e hl => e.imp id (fun e => by have := hk5.size; omega)))
        have SL2 := Aside.mk (hst5.step (kept_box (w5 := w8) (zb := w.heap.size) (j := 9) (x := .slice A7.a vl A7.c)))
        clear c0 c1 c2 c3 c4 c5 c6 c7 c8 c9 d0 d1 d2 e0 e1 e2 g0 g1 g2 ff hl0 hl1
        obtain ⟨c0, c1, c2, c3, c4, c5, c6, c7, c8, c9⟩ := box10 hz5
        have ff := fun k => frozen_blk (k := k) hz5
        have hl0 := lt_of_blk hz5
        go_upto_region 8 with fail
        replace TZ := Aside.mk (show _ = some (Obj.cells #[.int .i64 k, .int .i64 s, .int .i64 (zn : Int), .int .i64 (znl : Int), .int .i64 (zo : Int), .bool true, .int .u64 (vb : Int), .int .u64 (vb : Int), .slice A5.a vl A5.c, .slice A7.a vl A7.c] 79 (0, 0)) from hz6)
        clear hA hz5 hz6 hk5 hst5 HSRC c0 c1 c2 c3 c4 c5 c6 c7 c8 c9 ff hl0
        generalize w8.setCell ⟨w.heap.size, 9, none⟩ (.slice A7.a vl A7.c) = w9 at *
        replace B3 := Aside.mk (B3.out.trans (KK.out.to_below B3.out.size (fun k e => by have := B3.out.size; rcases e with e | e <;> omega)))
        replace TV := Aside.mk ((KK.out.block _ (lt_of_blk TV.out) (fun e => by have h1 := lt_of_blk TV.out; omega)).trans TV.out)
        replace TR := Aside.mk ((KK.out.block _ (lt_of_blk TR.out) (fun e => by have h1 := lt_of_blk TR.out; omega)).trans TR.out)
        replace TL := Aside.mk (And.intro ((KK.out.block _ (lt_of_blk TL.out.1) (fun e => by have h1 := lt_of_blk TL.out.1; have h2 := HS2.out; have h3 := S1.out; omega)).trans TL.out.1) ((KK.out.block _ (lt_of_blk TL.out.2) (fun e => by have h1 := lt_of_blk TL.out.2; have h2 := HS2.out; have h3 := S1.out; omega)).trans TL.out.2))
        replace SF2 := Aside.mk (SF2.out.step KK.out)
        replace SF := Aside.mk (SF.out.step KK.out)
        replace SL_ := Aside.mk (SL_.out.step KK.out)
        replace SA := Aside.mk (SA.out.step KK.out)
        clear KK
        obtain ⟨c0, c1, c2, c3, c4, c5, c6, c7, c8, c9⟩ := box10 TZ.out
        obtain ⟨d0, d1, d2⟩ := box3 TV.out
        obtain ⟨e0, e1, e2⟩ := box3 TL.out.1
        obtain ⟨g0, g1, g2⟩ := box3 TL.out.2
        have ff := fun k => frozen_blk (k := k) TZ.out
        have hl0 := lt_of_blk TZ.out
        have hl1 := lt_of_blk TV.out
        have hzr := TR.out
        obtain ⟨r0, r1, r2, r3, r4, r5, r6, r7, r8, r9⟩ := box10 hzr
        have rf := fun k => frozen_blk (k := k) hzr
        have hlr := lt_of_blk hzr
        clear hzr
        go_wp2_with fail
        refine bodyPost_ret (v := .agg #[.int .i64 k, .int .i64 s, .int .i64 (zn : Int), .int .i64 (znl : Int), .int .i64 (zo : Int), .bool true, .int .u64 (vb : Int), .int .u64 (vb : Int), .slice A5.a vl A5.c, .slice A7.a vl A7.c]) (by simp [results, Tryz.results103, go_sem, r0, r1, r2, r3, r4, r5, r6, r7, r8, r9]) rfl ?_
        have hE : zWith k ⟨zn, znl, zo, true, zl, zm, zf, zt⟩ ⟨vn, vb, vt⟩ = ⟨zn, znl, zo, true, vb, vb, vt, vt⟩ := by
          have q1 : zLo k ⟨zn, znl, zo, true, zl, zm, zf, zt⟩ ⟨vn, vb, vt⟩ = true := (by show (!true || decide (cmpV k ⟨vn, vb, vt⟩ ⟨false, zl, zf⟩ < 0)) = true; rw [Hr1.out]; simp; omega)
          have q2 : zHi k ⟨zn, znl, zo, true, zl, zm, zf, zt⟩ ⟨vn, vb, vt⟩ = true := (by show (!true || decide (0 < cmpV k ⟨vn, vb, vt⟩ ⟨false, zm, zt⟩)) = true; rw [Hr2.out]; simp; omega)
          unfold zWith
          rw [q1, q2]
          rfl
        rw [hE]
        have hvl := HVL.out
        subst hvl
        obtain ⟨h1, h2, h3⟩ := fin_ret B3.out SF2.out SL2.out (.bool true) (.int .i64 k) (.int .i64 s) (.int .i64 (zn : Int)) (.int .i64 (znl : Int)) (.int .i64 (zo : Int)) (.bool true) (.int .u64 (vb : Int)) (.int .u64 (vb : Int)) (.slice A5.a vt.length A5.c) (.slice A7.a vt.length A7.c)
        exact ⟨A5, A7, rfl, h1, h2, h3⟩
      · have h2d : decide (0 < r2) = false := by simpa using h2
        go_upto_region 8 with (go_at_call 46; refine HC.out.mono ?_; rintro e w7 ⟨rfl, hb⟩; have KK := Aside.mk (Kept.of_below (S := fun k => k = w.heap.size ∨ w6.heap.size ≤ k) hb); replace TZ := Aside.mk ((hb.block _ (lt_of_blk TZ.out)).trans TZ.out); clear hb)
        clear c0 c1 c2 c3 c4 c5 c6 c7 c8 c9 d0 d1 d2 e0 e1 e2 g0 g1 g2 ff hl0 hl1
        replace B3 := Aside.mk (B3.out.trans (KK.out.to_below B3.out.size (fun k e => by have := B3.out.size; rcases e with e | e <;> omega)))
        replace TV := Aside.mk ((KK.out.block _ (lt_of_blk TV.out) (fun e => by have h1 := lt_of_blk TV.out; omega)).trans TV.out)
        replace TR := Aside.mk ((KK.out.block _ (lt_of_blk TR.out) (fun e => by have h1 := lt_of_blk TR.out; omega)).trans TR.out)
        replace TL := Aside.mk (And.intro ((KK.out.block _ (lt_of_blk TL.out.1) (fun e => by have h1 := lt_of_blk TL.out.1; have h2 := HS2.out; have h3 := S1.out; omega)).trans TL.out.1) ((KK.out.block _ (lt_of_blk TL.out.2) (fun e => by have h1 := lt_of_blk TL.out.2; have h2 := HS2.out; have h3 := S1.out; omega)).trans TL.out.2))
        replace SF2 := Aside.mk (SF2.out.step KK.out)
        replace SF := Aside.mk (SF.out.step KK.out)
        replace SL_ := Aside.mk (SL_.out.step KK.out)
        replace SA := Aside.mk (SA.out.step KK.out)
        clear KK HC
        obtain ⟨c0, c1, c2, c3, c4, c5, c6, c7, c8, c9⟩ := box10 TZ.out
        obtain ⟨d0, d1, d2⟩ := box3 TV.out
        obtain ⟨e0, e1, e2⟩ := box3 TL.out.1
        obtain ⟨g0, g1, g2⟩ := box3 TL.out.2
        have ff := fun k => frozen_blk (k := k) TZ.out
        have hl0 := lt_of_blk TZ.out
        have hl1 := lt_of_blk TV.out
        have hzr := TR.out
        obtain ⟨r0, r1, r2, r3, r4, r5, r6, r7, r8, r9⟩ := box10 hzr
        have rf := fun k => frozen_blk (k := k) hzr
        have hlr := lt_of_blk hzr
        clear hzr
        go_wp2_with fail
        refine bodyPost_ret (v := .agg #[.int .i64 k, .int .i64 s, .int .i64 (zn : Int), .int .i64 (znl : Int), .int .i64 (zo : Int), .bool true, .int .u64 (vb : Int), .int .u64 (zm : Int), .slice A5.a vl A5.c, .slice L.a zt.length L.c]) (by simp [results, Tryz.results103, go_sem, r0, r1, r2, r3, r4, r5, r6, r7, r8, r9]) rfl ?_
        have hE : zWith k ⟨zn, znl, zo, true, zl, zm, zf, zt⟩ ⟨vn, vb, vt⟩ = ⟨zn, znl, zo, true, vb, zm, vt, zt⟩ := by
          have q1 : zLo k ⟨zn, znl, zo, true, zl, zm, zf, zt⟩ ⟨vn, vb, vt⟩ = true := (by show (!true || decide (cmpV k ⟨vn, vb, vt⟩ ⟨false, zl, zf⟩ < 0)) = true; rw [Hr1.out]; simp; omega)
          have q2 : zHi k ⟨zn, znl, zo, true, zl, zm, zf, zt⟩ ⟨vn, vb, vt⟩ = false := (by show (!true || decide (0 < cmpV k ⟨vn, vb, vt⟩ ⟨false, zm, zt⟩)) = false; rw [Hr2.out]; simp; omega)
          unfold zWith
          rw [q1, q2]
          rfl
        rw [hE]
        have hvl := HVL.out
        subst hvl
        obtain ⟨h1, h2, h3⟩ := fin_ret B3.out SF2.out SL_.out (.bool true) (.int .i64 k) (.int .i64 s) (.int .i64 (zn : Int)) (.int .i64 (znl : Int)) (.int .i64 (zo : Int)) (.bool true) (.int .u64 (vb : Int)) (.int .u64 (zm : Int)) (.slice A5.a vt.length A5.c) (.slice L.a zt.length L.c)
        exact ⟨A5, L, rfl, h1, h2, h3⟩
    · have h1d : decide (r1 < 0) = false := by simpa using h1
      go_upto_region 5 with (go_at_call 46; refine HC.out.mono ?_; rintro e w4 ⟨rfl, hb⟩; have KK := Aside.mk (Kept.of_below (S := fun k => k = w.heap.size ∨ w3.heap.size ≤ k) hb); replace TZ := Aside.mk ((hb.block _ (lt_of_blk TZ.out)).trans TZ.out); clear hb)
      clear c0 c1 c2 c3 c4 c5 c6 c7 c8 c9 d0 d1 d2 e0 e1 e2 g0 g1 g2 ff hl0 hl1
      replace B3 := Aside.mk (B3.out.trans (KK.out.to_below B3.out.size (fun k e => by have := B3.out.size; rcases e with e | e <;> omega)))
      replace TV := Aside.mk ((KK.out.block _ (lt_of_blk TV.out) (fun e => by have h1 := lt_of_blk TV.out; omega)).trans TV.out)
      replace TR := Aside.mk ((KK.out.block _ (lt_of_blk TR.out) (fun e => by have h1 := lt_of_blk TR.out; omega)).trans TR.out)
      replace TL := Aside.mk (And.intro ((KK.out.block _ (lt_of_blk TL.out.1) (fun e => by have h1 := lt_of_blk TL.out.1; have h2 := HS2.out; have h3 := S1.out; omega)).trans TL.out.1) ((KK.out.block _ (lt_of_blk TL.out.2) (fun e => by have h1 := lt_of_blk TL.out.2; have h2 := HS2.out; have h3 := S1.out; omega)).trans TL.out.2))
      replace SF := Aside.mk (SF.out.step KK.out)
      replace SL_ := Aside.mk (SL_.out.step KK.out)
      replace SA := Aside.mk (SA.out.step KK.out)
      clear KK HC
      obtain ⟨c0, c1, c2, c3, c4, c5, c6, c7, c8, c9⟩ := box10 TZ.out
      obtain ⟨d0, d1, d2⟩ := box3 TV.out
      obtain ⟨e0, e1, e2⟩ := box3 TL.out.1
      obtain ⟨g0, g1, g2⟩ := box3 TL.out.2
      have ff := fun k => frozen_blk (k := k) TZ.out
      have hl0 := lt_of_blk TZ.out
      have hl1 := lt_of_blk TV.out
      have hc := rcmp_any k s HKK.out ⟨vn, vb, vt⟩ (zHigh ⟨zn, znl, zo, true, zl, zm, zf, zt⟩) vn false HV.out (HZ.out rfl).2 A L w4 SA.out.now SL_.out.now
      dsimp only [zHigh] at hc
      rw [HVL.out] at hc
      have HC := Aside.mk hc
      clear hc
      obtain ⟨r2, hr2⟩ : ∃ r, cmpV k ⟨vn, vb, vt⟩ ⟨false, zm, zt⟩ = r := ⟨_, rfl⟩
      rw [hr2] at HC
      have Hr2 := Aside.mk hr2
      clear hr2
      by_cases h2 : 0 < r2
      · have h2d : decide (0 < r2) = true := by simpa using h2
        go_upto_region 6 with (go_at_call 46; refine HC.out.mono ?_; rintro e w7 ⟨rfl, hb⟩; have KK := Aside.mk (Kept.of_below (S := fun k => k = w.heap.size ∨ w4.heap.size ≤ k) hb); replace TZ := Aside.mk ((hb.block _ (lt_of_blk TZ.out)).trans TZ.out); clear hb)
        clear c0 c1 c2 c3 c4 c5 c6 c7 c8 c9 d0 d1 d2 e0 e1 e2 g0 g1 g2 ff hl0 hl1
        replace B3 := Aside.mk (B3.out.trans (KK.out.to_below B3.out.size (fun k e => by have := B3.out.size; rcases e with e | e <;> omega)))
        replace TV := Aside.mk ((KK.out.block _ (lt_of_blk TV.out) (fun e => by have h1 := lt_of_blk TV.out; omega)).trans TV.out)
        replace TR := Aside.mk ((KK.out.block _ (lt_of_blk TR.out) (fun e => by have h1 := lt_of_blk TR.out; omega)).trans TR.out)
        replace TL := Aside.mk (And.intro ((KK.out.block _ (lt_of_blk TL.out.1) (fun e => by have h1 := lt_of_blk TL.out.1; have h2 := HS2.out; have h3 := S1.out; omega)).trans TL.out.1) ((KK.out.block _ (lt_of_blk TL.out.2) (fun e => by have h1 := lt_of_blk TL.out.2; have h2 := HS2.out; have h3 := S1.out; omega)).trans TL.out.2))
        replace SF := Aside.mk (SF.out.step KK.out)
        replace SL_ := Aside.mk (SL_.out.step KK.out)
        replace SA := Aside.mk (SA.out.step KK.out)
        clear KK HC
        obtain ⟨c0, c1, c2, c3, c4, c5, c6, c7, c8, c9⟩ := box10 TZ.out
        obtain ⟨d0, d1, d2⟩ := box3 TV.out
        obtain ⟨e0, e1, e2⟩ := box3 TL.out.1
        obtain ⟨g0, g1, g2⟩ := box3 TL.out.2
        have ff := fun k => frozen_blk (k := k) TZ.out
        have hl0 := lt_of_blk TZ.out
        have hl1 := lt_of_blk TV.out
        have HSRC := Aside.mk (show Src Tryz.prog 1 43 (.slice A.a vl A.c) vl (vt.map (.int .u8)) ((w7.setCell ⟨w.heap.size, 7, none⟩ (.int .u64 (vb : Int))).alloc (.cells #[] 5)) from (by
          have h := (SA.out.step ((kept_box (w5 := w7) (zb := w.heap.size) (j := 7) (x := .int .u64 (vb : Int))).trans (Kept.of_below (S := fun _ => False) (below_new _ (.cells #[] 5))) (fun _ e _ => e.elim))).now
          unfold RdT at h
          rw [HVL.out] at h
          exact h.src (P := Tryz.prog) Tryz.underlying43 (one_map (fun x : Int => Value.int .u8 x) (fun _ => rfl) vt)))
        go_wp2_with (at_builtin; refine wpList_app2 _ rfl _ _ 43 43 rfl w7.heap.size 5 (.int .u8 0) 1 1 Tryz.underlying43 byteinfoR rfl _ 0 [] rfl (own_empty _ _ _ _ _ (by simp) (Nat.le_refl _)) _ vl (vt.map (.int .u8)) rfl HSRC.out (by unfold maxLen; omega) (by omega) (by simp) ?_)
        intro v5 w8 hA
        obtain ⟨A7, rfl, hz5, hk5, hst5⟩ := lo_step TZ.out TR.out HVL.out hA
        have hz6 := heap_setCell_at (k := 9) hz5 (.slice A7.a vl A7.c)
        have KK := Aside.mk (hk5.trans (kept_box (w5 := w8) (zb := w.heap.size) (j := 9) (x := .slice A7.a vl A7.c)) (fun k e hl => e.imp id (fun e => by have := hk5.size; omega)))
        have SL2 := Aside.mk (hst5.step (kept_box (w5 := w8) (zb := w.heap.size) (j := 9) (x := .slice A7.a vl A7.c)))
        clear c0 c1 c2 c3 c4 c5 c6 c7 c8 c9 d0 d1 d2 e0 e1 e2 g0 g1 g2 ff hl0 hl1
        obtain ⟨c0, c1, c2, c3, c4, c5, c6, c7, c8, c9⟩ := box10 hz5
        have ff := fun k => frozen_blk (k := k) hz5
        have hl0 := lt_of_blk hz5
        go_upto_region 8 with fail
        replace TZ := Aside.mk (show _ = some (Obj.cells #[.int .i64 k, .int .i64 s, .int .i64 (zn : Int), .int .i64 (znl : Int), .int .i64 (zo : Int), .bool true, .int .u64 (zl : Int), .int .u64 (vb : Int), .slice F.a zf.length F.c, .slice A7.a vl A7.c] 79 (0, 0)) from hz6)
        clear hA hz5 hz6 hk5 hst5 HSRC c0 c1 c2 c3 c4 c5 c6 c7 c8 c9 ff hl0
        generalize w8.setCell ⟨w.heap.size, 9, none⟩ (.slice A7.a vl A7.c) = w9 at *
        replace B3 := Aside.mk (B3.out.trans (KK.out.to_below B3.out.size (fun k e => by have := B3.out.size; rcases e with e | e <;> omega)))
        replace TV := Aside.mk ((KK.out.block _ (lt_of_blk TV.out) (fun e => by have h1 := lt_of_blk TV.out; omega)).trans TV.out)
        replace TR := Aside.mk ((KK.out.block _ (lt_of_blk TR.out) (fun e => by have h1 := lt_of_blk TR.out; omega)).trans TR.out)
        replace TL := Aside.mk (And.intro ((KK.out.block _ (lt_of_blk TL.out.1) (fun e => by have h1 := lt_of_blk TL.out.1; have h2 := HS2.out; have h3 := S1.out; omega)).trans TL.out.1) ((KK.out.block _ (lt_of_blk TL.out.2) (fun e => by have h1 := lt_of_blk TL.out.2; have h2 := HS2.out; have h3 := S1.out; omega)).trans TL.out.2))
        replace SF := Aside.mk (SF.out.step KK.out)
        replace SL_ := Aside.mk (SL_.out.step KK.out)
        replace SA := Aside.mk (SA.out.step KK.out)
        clear KK
        obtain ⟨c0, c1, c2, c3, c4, c5, c6, c7, c8, c9⟩ := box10 TZ.out
        obtain ⟨d0, d1, d2⟩ := box3 TV.out
        obtain ⟨e0, e1, e2⟩ := box3 TL.out.1
        obtain ⟨g0, g1, g2⟩ := box3 TL.out.2
        have ff := fun k => frozen_blk (k := k) TZ.out
        have hl0 := lt_of_blk TZ.out
        have hl1 := lt_of_blk TV.out
        have hzr := TR.out
        obtain ⟨r0, r1, r2, r3, r4, r5, r6, r7, r8, r9⟩ := box10 hzr
        have rf := fun k => frozen_blk (k := k) hzr
        have hlr := lt_of_blk hzr
        clear hzr
        go_wp2_with fail
        refine bodyPost_ret (v := .agg #[.int .i64 k, .int .i64 s, .int .i64 (zn : Int), .int .i64 (znl : Int), .int .i64 (zo : Int), .bool true, .int .u64 (zl : Int), .int .u64 (vb : Int), .slice F.a zf.length F.c, .slice A7.a vl A7.c]) (by simp [results, Tryz.results103, go_sem, r0, r1, r2, r3, r4, r5, r6, r7, r8, r9]) rfl ?_
        have hE : zWith k ⟨zn, znl, zo, true, zl, zm, zf, zt⟩ ⟨vn, vb, vt⟩ = ⟨zn, znl, zo, true, zl, vb, zf, vt⟩ := by
          have q1 : zLo k ⟨zn, znl, zo, true, zl, zm, zf, zt⟩ ⟨vn, vb, vt⟩ = false := (by show (!true || decide (cmpV k ⟨vn, vb, vt⟩ ⟨false, zl, zf⟩ < 0)) = false; rw [Hr1.out]; simp; omega)
          have q2 : zHi k ⟨zn, znl, zo, true, zl, zm, zf, zt⟩ ⟨vn, vb, vt⟩ = true := (by show (!true || decide (0 < cmpV k ⟨vn, vb, vt⟩ ⟨false, zm, zt⟩)) = true; rw [Hr2.out]; simp; omega)
          unfold zWith
          rw [q1, q2]
          rfl
        rw [hE]
        have hvl := HVL.out
        subst hvl
        obtain ⟨h1, h2, h3⟩ := fin_ret B3.out SF.out SL2.out (.bool true) (.int .i64 k) (.int .i64 s) (.int .i64 (zn : Int)) (.int .i64 (znl : Int)) (.int .i64 (zo : Int)) (.bool true) (.int .u64 (zl : Int)) (.int .u64 (vb : Int)) (.slice F.a zf.length F.c) (.slice A7.a vt.length A7.c)
        exact ⟨F, A7, rfl, h1, h2, h3⟩
      · have h2d : decide (0 < r2) = false := by simpa using h2
        go_upto_region 8 with (go_at_call 46; refine HC.out.mono ?_; rintro e w7 ⟨rfl, hb⟩; have KK := Aside.mk (Kept.of_below (S := fun k => k = w.heap.size ∨ w4.heap.size ≤ k) hb); replace TZ := Aside.mk ((hb.block _ (lt_of_blk TZ.out)).trans TZ.out); clear hb)
        clear c0 c1 c2 c3 c4 c5 c6 c7 c8 c9 d0 d1 d2 e0 e1 e2 g0 g1 g2 ff hl0 hl1
        replace B3 := Aside.mk (B3.out.trans (KK.out.to_below B3.out.size (fun k e => by have := B3.out.size; rcases e with e | e <;> omega)))
        replace TV := Aside.mk ((KK.out.block _ (lt_of_blk TV.out) (fun e => by have h1 := lt_of_blk TV.out; omega)).trans TV.out)
        replace TR := Aside.mk ((KK.out.block _ (lt_of_blk TR.out) (fun e => by have h1 := lt_of_blk TR.out; omega)).trans TR.out)
        replace TL := Aside.mk (And.intro ((KK.out.block _ (lt_of_blk TL.out.1) (fun e => by have h1 := lt_of_blk TL.out.1; have h2 := HS2.out; have h3 := S1.out; omega)).trans TL.out.1) ((KK.out.block _ (lt_of_blk TL.out.2) (fun e => by have h1 := lt_of_blk TL.out.2; have h2 := HS2.out; have h3 := S1.out; omega)).trans TL.out.2))
        replace SF := Aside.mk (SF.out.step KK.out)
        replace SL_ := Aside.mk (SL_.out.step KK.out)
        replace SA := Aside.mk (SA.out.step KK.out)
        clear KK HC
        obtain ⟨c0, c1, c2, c3, c4, c5, c6, c7, c8, c9⟩ := box10 TZ.out
        obtain ⟨d0, d1, d2⟩ := box3 TV.out
        obtain ⟨e0, e1, e2⟩ := box3 TL.out.1
        obtain ⟨g0, g1, g2⟩ := box3 TL.out.2
        have ff := fun k => frozen_blk (k := k) TZ.out
        have hl0 := lt_of_blk TZ.out
        have hl1 := lt_of_blk TV.out
        have hzr := TR.out
        obtain ⟨r0, r1, r2, r3, r4, r5, r6, r7, r8, r9⟩ := box10 hzr
        have rf := fun k => frozen_blk (k := k) hzr
        have hlr := lt_of_blk hzr
        clear hzr
        go_wp2_with fail
        refine bodyPost_ret (v := .agg #[.int .i64 k, .int .i64 s, .int .i64 (zn : Int), .int .i64 (znl : Int), .int .i64 (zo : Int), .bool true, .int .u64 (zl : Int), .int .u64 (zm : Int), .slice F.a zf.length F.c, .slice L.a zt.length L.c]) (by simp [results, Tryz.results103, go_sem, r0, r1, r2, r3, r4, r5, r6, r7, r8, r9]) rfl ?_
        have hE : zWith k ⟨zn, znl, zo, true, zl, zm, zf, zt⟩ ⟨vn, vb, vt⟩ = ⟨zn, znl, zo, true, zl, zm, zf, zt⟩ := by
          have q1 : zLo k ⟨zn, znl, zo, true, zl, zm, zf, zt⟩ ⟨vn, vb, vt⟩ = false := (by show (!true || decide (cmpV k ⟨vn, vb, vt⟩ ⟨false, zl, zf⟩ < 0)) = false; rw [Hr1.out]; simp; omega)
          have q2 : zHi k ⟨zn, znl, zo, true, zl, zm, zf, zt⟩ ⟨vn, vb, vt⟩ = false := (by show (!true || decide (0 < cmpV k ⟨vn, vb, vt⟩ ⟨false, zm, zt⟩)) = false; rw [Hr2.out]; simp; omega)
          unfold zWith
          rw [q1, q2]
          rfl
        rw [hE]
        have hvl := HVL.out
        subst hvl
        obtain ⟨h1, h2, h3⟩ := fin_ret B3.out SF.out SL_.out (.bool true) (.int .i64 k) (.int .i64 s) (.int .i64 (zn : Int)) (.int .i64 (znl : Int)) (.int .i64 (zo : Int)) (.bool true) (.int .u64 (zl : Int)) (.int .u64 (zm : Int)) (.slice F.a zf.length F.c) (.slice L.a zt.length L.c)
        exact ⟨F, L, rfl, h1, h2, h3⟩
end Go.Proofs.YtmhjjhaipcgbiaaGreat


namespace Go.Proofs.YtmhjjhaipcgbiaaGreat
open Go.RowKit
set_option linter.unusedVariables false
set_option linter.unusedSimpArgs false
set_option maxRecDepth 100000
set_option maxHeartbeats 4000000
def ordI (k a b : Int) : Int := if wordedB k then 0 else cmpS (keyI k a) (keyI k b)
theorem jclose_any (k s x y : Int) (hk : 1 ≤ k ∧ k ≤ 16) (h : wordedB k = false → PlainI k x ∧ PlainI k y) (ab : Nat) (w : World) (h0 : w.cell? ⟨ab, 0, none⟩ = some (.int .i64 k)) (h1 : w.cell? ⟨ab, 1, none⟩ = some (.int .i64 s)) : Calls Tryz.prog 157 #[.int .u64 x, .int .u64 y, .pointer (some ⟨ab, 0, none⟩)] w (IntP (ordI k x y) w) := by
  have HO := Aside.mk (fun W => zorder_any k s x y hk h W)
  have HE := Aside.mk (show ordI k x y = if wordedB k then 0 else cmpS (keyI k x) (keyI k y) from rfl)
  rw [← HE.out] at HO
  clear h
  generalize ordI k x y = r at *
  go_enter Tryz.func157, Tryz.ntmps157
  go_wp2_with (go_at_call 128; refine (HO.out _).mono ?_; rintro e w1 ⟨rfl, hb1⟩; have B1 := Aside.mk hb1; clear hb1)
  go_ret
  exact ⟨rfl, B1.out⟩
def pkI (b : Bool) (x y : Int) : Int := if b then y else x
def pkV (b : Bool) (x y : Value) : Value := if b then y else x
def pickU (up : Bool) (r : Int) : Bool := if up then decide (0 < r) else decide (r < 0)
theorem firstU (k s x y : Int) (up : Bool) (t : Int) (ht : t = if up then -1 else 1) (hk : 1 ≤ k ∧ k ≤ 16) (h : wordedB k = false → PlainI k y ∧ PlainI k x) (ab : Nat) (w : World) (h0 : w.cell? ⟨ab, 0, none⟩ = some (.int .i64 k)) (h1 : w.cell? ⟨ab, 1, none⟩ = some (.int .i64 s)) : Calls Tryz.prog 158 #[.int .u64 x, .int .u64 y, .int .i64 t, .func (.func 157) #[] #[.pointer (some ⟨ab, 0, none⟩)]] w (fun e w' => e = .returned (.int .u64 (pkI (pickU up (ordI k y x)) x y)) ∧ Below w.heap.size w w') := by
  have HC := Aside.mk (jclose_any k s y x hk h ab w h0 h1)
  have HR := Aside.mk (show -1 ≤ ordI k y x ∧ ordI k y x ≤ 1 by unfold ordI cmpS; (repeat' split) <;> omega)
  clear h h0 h1
  generalize ordI k y x = r at *
  have hr := HR.out
  cases up with
  | true =>
    obtain rfl : t = -1 := ht
    by_cases hp : 0 < r
    · have hm : IntKind.i64.wrap (-1 * r) = -r := (IntWalk.i64_left _).trans ((IntWalk.wrap64_in _ (by omega)).trans (by omega))
      have hm2 : IntKind.i64.wrap (-r) = -r := (IntWalk.i64_left _).trans (IntWalk.wrap64_in _ (by omega))
      have hd : decide (-r < 0) = true := by simp; omega
      have HE := Aside.mk (show pkI (pickU true r) x y = y by unfold pickU; simp [hp, pkI, pkV])
      go_enter Tryz.func158, Tryz.ntmps158
      go_wp2_with (go_at_call 157; refine HC.out.mono ?_; rintro e w1 ⟨rfl, hb1⟩; have B1 := Aside.mk hb1; clear hb1)
      go_ret
      exact ⟨by rw [HE.out]; rfl, B1.out⟩
    · have hm : IntKind.i64.wrap (-1 * r) = -r := (IntWalk.i64_left _).trans ((IntWalk.wrap64_in _ (by omega)).trans (by omega))
      have hm2 : IntKind.i64.wrap (-r) = -r := (IntWalk.i64_left _).trans (IntWalk.wrap64_in _ (by omega))
      have hd : decide (-r < 0) = false := by simp; omega
      have HE := Aside.mk (show pkI (pickU true r) x y = x by unfold pickU; simp [hp, pkI, pkV])
      go_enter Tryz.func158, Tryz.ntmps158
      go_wp2_with (go_at_call 157; refine HC.out.mono ?_; rintro e w1 ⟨rfl, hb1⟩; have B1 := Aside.mk hb1; clear hb1)
      go_ret
      exact ⟨by rw [HE.out]; rfl, B1.out⟩
  | false =>
    obtain rfl : t = 1 := ht
    by_cases hp : r < 0
    · have hm : IntKind.i64.wrap (1 * r) = r := (IntWalk.i64_left _).trans ((IntWalk.wrap64_in _ (by omega)).trans (by omega))
      have hm2 : IntKind.i64.wrap r = r := (IntWalk.i64_left _).trans (IntWalk.wrap64_in _ (by omega))
      have hd : decide (r < 0) = true := by simp; omega
      have HE := Aside.mk (show pkI (pickU false r) x y = y by unfold pickU; simp [hp, pkI, pkV])
      go_enter Tryz.func158, Tryz.ntmps158
      go_wp2_with (go_at_call 157; refine HC.out.mono ?_; rintro e w1 ⟨rfl, hb1⟩; have B1 := Aside.mk hb1; clear hb1)
      go_ret
      exact ⟨by rw [HE.out]; rfl, B1.out⟩
    · have hm : IntKind.i64.wrap (1 * r) = r := (IntWalk.i64_left _).trans ((IntWalk.wrap64_in _ (by omega)).trans (by omega))
      have hm2 : IntKind.i64.wrap r = r := (IntWalk.i64_left _).trans (IntWalk.wrap64_in _ (by omega))
      have hd : decide (r < 0) = false := by simp; omega
      have HE := Aside.mk (show pkI (pickU false r) x y = x by unfold pickU; simp [hp, pkI, pkV])
      go_enter Tryz.func158, Tryz.ntmps158
      go_wp2_with (go_at_call 157; refine HC.out.mono ?_; rintro e w1 ⟨rfl, hb1⟩; have B1 := Aside.mk hb1; clear hb1)
      go_ret
      exact ⟨by rw [HE.out]; rfl, B1.out⟩
theorem firstT (x y : List Int) (A B : SL) (up : Bool) (t : Int) (ht : t = if up then -1 else 1) (w : World) (hA : RdT w x A) (hB : RdT w y B) : Calls Tryz.prog 159 #[.slice A.a x.length A.c, .slice B.a y.length B.c, .int .i64 t, .func (.func 160) #[] #[]] w (fun e w' => e = .returned (pkV (pickU up (cmpT y x)) (.slice A.a x.length A.c) (.slice B.a y.length B.c)) ∧ w = w') := by
  have HC := Aside.mk (bcompare_any y x B A w hB hA)
  have HR := Aside.mk (show -1 ≤ cmpT y x ∧ cmpT y x ≤ 1 by have := cmpT_range y x; omega)
  clear hA hB
  generalize cmpT y x = r at *
  generalize x.length = nx at *
  generalize y.length = ny at *
  have hr := HR.out
  cases up with
  | true =>
    obtain rfl : t = -1 := ht
    by_cases hp : 0 < r
    · have hm : IntKind.i64.wrap (-1 * r) = -r := (IntWalk.i64_left _).trans ((IntWalk.wrap64_in _ (by omega)).trans (by omega))
      have hm2 : IntKind.i64.wrap (-r) = -r := (IntWalk.i64_left _).trans (IntWalk.wrap64_in _ (by omega))
      have hd : decide (-r < 0) = true := by simp; omega
      have HE := Aside.mk (show pkV (pickU true r) (.slice A.a nx A.c) (.slice B.a ny B.c) = .slice B.a ny B.c by unfold pickU; simp [hp, pkI, pkV])
      go_enter Tryz.func159, Tryz.ntmps159
      go_wp2_with (go_at_call 160; refine HC.out.mono ?_; rintro e w1 ⟨rfl, rfl⟩)
      go_ret
      exact ⟨by rw [HE.out]; rfl, rfl⟩
    · have hm : IntKind.i64.wrap (-1 * r) = -r := (IntWalk.i64_left _).trans ((IntWalk.wrap64_in _ (by omega)).trans (by omega))
      have hm2 : IntKind.i64.wrap (-r) = -r := (IntWalk.i64_left _).trans (IntWalk.wrap64_in _ (by omega))
      have hd : decide (-r < 0) = false := by simp; omega
      have HE := Aside.mk (show pkV (pickU true r) (.slice A.a nx A.c) (.slice B.a ny B.c) = .slice A.a nx A.c by unfold pickU; simp [hp, pkI, pkV])
      go_enter Tryz.func159, Tryz.ntmps159
      go_wp2_with (go_at_call 160; refine HC.out.mono ?_; rintro e w1 ⟨rfl, rfl⟩)
      go_ret
      exact ⟨by rw [HE.out]; rfl, rfl⟩
  | false =>
    obtain rfl : t = 1 := ht
    by_cases hp : r < 0
    · have hm : IntKind.i64.wrap (1 * r) = r := (IntWalk.i64_left _).trans ((IntWalk.wrap64_in _ (by omega)).trans (by omega))
      have hm2 : IntKind.i64.wrap r = r := (IntWalk.i64_left _).trans (IntWalk.wrap64_in _ (by omega))
      have hd : decide (r < 0) = true := by simp; omega
      have HE := Aside.mk (show pkV (pickU false r) (.slice A.a nx A.c) (.slice B.a ny B.c) = .slice B.a ny B.c by unfold pickU; simp [hp, pkI, pkV])
      go_enter Tryz.func159, Tryz.ntmps159
      go_wp2_with (go_at_call 160; refine HC.out.mono ?_; rintro e w1 ⟨rfl, rfl⟩)
      go_ret
      exact ⟨by rw [HE.out]; rfl, rfl⟩
    · have hm : IntKind.i64.wrap (1 * r) = r := (IntWalk.i64_left _).trans ((IntWalk.wrap64_in _ (by omega)).trans (by omega))
      have hm2 : IntKind.i64.wrap r = r := (IntWalk.i64_left _).trans (IntWalk.wrap64_in _ (by omega))
      have hd : decide (r < 0) = false := by simp; omega
      have HE := Aside.mk (show pkV (pickU false r) (.slice A.a nx A.c) (.slice B.a ny B.c) = .slice A.a nx A.c by unfold pickU; simp [hp, pkI, pkV])
      go_enter Tryz.func159, Tryz.ntmps159
      go_wp2_with (go_at_call 160; refine HC.out.mono ?_; rintro e w1 ⟨rfl, rfl⟩)
      go_ret
      exact ⟨by rw [HE.out]; rfl, rfl⟩
end Go.Proofs.YtmhjjhaipcgbiaaGreat
