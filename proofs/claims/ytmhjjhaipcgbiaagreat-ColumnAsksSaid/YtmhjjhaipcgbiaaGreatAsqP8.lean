/- Texts of this claim, one behind the other: AskW. -/
import Derived.Test.YtmhjjhaipcgbiaaGreatAsqP7
import Derived.Test.YtmhjjhaipcgbiaaGreatAsqP4
import Derived.Test.YtmhjjhaipcgbiaaGreatAsqP1

namespace Go.Proofs.YtmhjjhaipcgbiaaGreat
open Go.RowKit
set_option linter.unusedVariables false
set_option linter.unusedSimpArgs false
set_option maxRecDepth 100000
set_option maxHeartbeats 4000000
theorem read18_x (c : Col) (hc : COK c) (hs : Small18 c) (B D E X : SL) (vals : List Value) (w : World) (h : RdC w c B D E X vals) : Calls Tryz.prog 84 #[colV c B D E X] w (fun e w' => ∃ v, e = .returned (.tuple #[v, .int .i64 (checkC c)]) ∧ Below w.heap.size w w') := by
  refine (read18_any c hc hs B D E X vals w h).mono ?_
  rintro e w' ⟨hb, hr⟩
  cases hrc : readC c with
  | none =>
    rw [hrc] at hr
    have hre := readE_check hc (fun e => by have := hs.1 e; omega)
    rw [hre] at hr
    exact ⟨_, hr, hb⟩
  | some l =>
    rw [hrc] at hr
    obtain ⟨A, xs, rfl, _⟩ := hr
    obtain ⟨hz, hl⟩ := check_read hc (fun e => by have := hs.1 e; omega) hrc
    rw [hz]
    exact ⟨_, rfl, hb⟩
theorem getV_text {c : Col} (hc : COK c) (hs : Small18 c) (i : Int) : IsBytes (getV c i).text ∧ (getV c i).text.length ≤ 100000000 := by
  unfold getV
  split
  · rename_i he
    refine ⟨?_, Nat.le_trans (valC_small hs _) (by decide)⟩
    unfold getE at he
    split at he
    · rename_i h; exact absurd he h
    · rename_i hz
      have hz : checkC c = 0 := by simpa using hz
      split at he
      · cases he
      · rename_i hb
        have : (valsC c c.n.toNat)[i.toNat]? = some (valC c i.toNat) := valsC_get _ _ _ (by omega)
        exact (vals_ok hc hz _ (List.mem_of_getElem? this)).1
  · exact ⟨isBytes_nil, by decide⟩
theorem ask_two {w0 w : World} {bk : Nat} (hw : Below w0.heap.size w0 w) (hb : BK w (fun b => w0.heap.size ≤ b) bk) (o1 o2 : Obj) : AskS w0 bk [w.heap.size + 1, w.heap.size] w.heap.size ((w.alloc o1).alloc o2) := by
  have hs := hw.size
  have h0 : AskS w0 bk [] w.heap.size w := ⟨hw, hs, Nat.le_refl _, fun b e => (by cases e), hb.mono (fun b e hl => ⟨e, hl, List.not_mem_nil⟩)⟩
  have h1 := (h0.alloc o1).alloc o2
  rwa [World.size_alloc] at h1
def AskP (w0 : World) (bk : Nat) (e : Ending) (w' : World) : Prop := e = .returned (.bool true) ∧ Below w0.heap.size w0 w' ∧ BK w' (fun b => w0.heap.size ≤ b) bk
theorem AskS.done {w0 W : World} {bk M : Nat} {L : List Nat} (h : AskS w0 bk L M W) : AskP w0 bk (.returned (.bool true)) W := ⟨rfl, h.bel, h.book.mono (fun b e _ => e.1)⟩
theorem asks_any (c d : Col) (hc : COK c) (hd : COK d) (hsc : Small18 c) (hsd : Small18 d) (hab : c.m = c.n → d.m = d.n → c.n + d.n ≤ 20000) {b1 b2 : Nat} (B D E X B2 D2 E2 X2 : SL) (va vb : List Value) (w0 : World) (h1 : OwnC w0 b1 c B D E X va) (h2 : OwnC w0 b2 d B2 D2 E2 X2 vb) (bk : Nat) (i j : Int)
    (w : World) (hw : Below w0.heap.size w0 w) (hbk : BK w (fun b => w0.heap.size ≤ b) bk) :
    Calls Tryz.prog 49 #[.pointer (some ⟨bk, 0, none⟩), colV c B D E X, colV d B2 D2 E2 X2, .int .i64 i, .int .i64 j] w (AskP w0 bk) := by
  have HR := Aside.mk (fun W (hb : Below w0.heap.size w0 W) => read18_x c hc hsc B D E X va W (h1.rd.below hb))
  have HRD := Aside.mk (fun W (hb : Below w0.heap.size w0 W) => read18_x d hd hsd B2 D2 E2 X2 vb W (h2.rd.below hb))
  have HCK := Aside.mk (fun W (hb : Below w0.heap.size w0 W) => check_any c hc B D E X va W (h1.rd.below hb))
  have HG := Aside.mk (fun W (hb : Below w0.heap.size w0 W) => cget_any c hc B D E X va i W (h1.below hb))
  have HRG := Aside.mk (fun W (hb : Below w0.heap.size w0 W) => rget_any c hc hsc B D E X va i W (h1.rd.below hb))
  have HRC := Aside.mk (fun W (hb : Below w0.heap.size w0 W) => h1.rd.below hb)
  have HCU := Aside.mk (fun W (hb : Below w0.heap.size w0 W) => ccut_any c hc hsc B D E X va i j W (h1.below hb))
  have HRCU := Aside.mk (fun W (hb : Below w0.heap.size w0 W) => rcut_any c hc hsc B D E X va i j W (h1.rd.below hb))
  have HJ := Aside.mk (fun W (hb : Below w0.heap.size w0 W) => cjoin_any c d hc hsc hd hsd hab B D E X B2 D2 E2 X2 va vb W (h1.below hb) (h2.below hb))
  have HRJ := Aside.mk (fun W (hb : Below w0.heap.size w0 W) => rjoin_any c d hc hsc hd hsd hab B D E X B2 D2 E2 X2 va vb W (h1.rd.below hb) (h2.rd.below hb))
  have HSM := Aside.mk (fun W (hb : Below w0.heap.size w0 W) => same_any c d hc hd B D E X B2 D2 E2 X2 va vb W (h1.rd.below hb) (h2.rd.below hb))
  have HSC := Aside.mk (fun W (hb : Below w0.heap.size w0 W) => same_any c c hc hc B D E X B D E X va va W (h1.rd.below hb) (h1.rd.below hb))
  have HEQ := Aside.mk (fun W (hb : Below w0.heap.size w0 W) => equal_col c d hc hd B D E X B2 D2 E2 X2 va vb W (h1.rd.below hb) (h2.rd.below hb))
  have HCC := Aside.mk (cok_cut hc hsc i j)
  have HCJ := Aside.mk (cok_join hc hsc hd hsd hab)
  have HVT := Aside.mk (getV_text hc hsc i)
  have HS1 := sameC_eq c d
  have HS2 := sameC_eq c c
  rw [equalC_refl] at HS2
  have HS := Aside.mk (ask_two hw hbk (colB c B D E X) (colB d B2 D2 E2 X2))
  have HN := Aside.mk hw.size
  clear h1 h2 hc hd hsc hsd hab hbk hw
  generalize sameC c d = r1 at *
  generalize sameC c c = r2 at *
  generalize equalC c d = r3 at *
  generalize checkC c = x at *
  generalize checkC d = y at *
  generalize cutC c i j = cc at *
  generalize cutE c i j = ce at *
  generalize joinC c d = jc at *
  generalize joinE c d = je at *
  replace HS1 := Aside.mk HS1
  replace HS2 := Aside.mk HS2
  dsimp only [colV] at HR HRD HCK HG HRG HCU HRCU HJ HRJ HSM HSC HEQ ⊢
  go_enter Tryz.func49, Tryz.ntmps49
  go_wp2_with fail
  obtain ⟨t1, t2, t3, t4⟩ := below_two w (colB c B D E X) (colB d B2 D2 E2 X2)
  have hg : ∀ W', ((w.alloc (colB c B D E X)).alloc (colB d B2 D2 E2 X2)) = W' → AskS w0 bk [w.heap.size + 1, w.heap.size] w.heap.size W' ∧ W'.heap[w.heap.size]? = some (colB c B D E X) ∧ W'.heap[w.heap.size + 1]? = some (colB d B2 D2 E2 X2) := fun W' e => by rw [← e]; exact ⟨HS.out, t3, t4⟩
  clear HS t1 t2 t3 t4
  generalize ((w.alloc (.cells #[.int .i64 c.k, .int .i64 c.s, .int .i64 c.n, .int .i64 c.m, .slice B.a c.bits.length B.c, .slice D.a c.data.length D.c, .slice E.a c.ends.length E.c, .slice X.a c.words.length X.c] 63)).alloc (.cells #[.int .i64 d.k, .int .i64 d.s, .int .i64 d.n, .int .i64 d.m, .slice B2.a d.bits.length B2.c, .slice D2.a d.data.length D2.c, .slice E2.a d.ends.length E2.c, .slice X2.a d.words.length X2.c] 63)) = w2 at *
  obtain ⟨t1, t2, t3⟩ := hg w2 rfl
  have HS := Aside.mk t1
  have HBC := Aside.mk t2
  have HBD := Aside.mk t3
  clear hg t1 t2 t3
  obtain ⟨c0, c1, c2, c3, c4, c5, c6, c7⟩ := box8 HBC.out; obtain ⟨d0, d1, d2, d3, d4, d5, d6, d7⟩ := box8 HBD.out; have hq0 := lt_of_blk HBC.out; have hq1 := lt_of_blk HBD.out
  -- Read, Check
  refine (HR.out _ HS.out.bel).mono ?_
  rintro e w3 ⟨rv, rfl, hb⟩
  have HSB := Aside.mk hb; replace HS := Aside.mk (HS.out.below hb); replace HBC := Aside.mk ((hb.block _ (lt_of_blk HBC.out)).trans HBC.out); replace HBD := Aside.mk ((hb.block _ (lt_of_blk HBD.out)).trans HBD.out); clear hb; clear hq0 hq1 c0 c1 c2 c3 c4 c5 c6 c7 d0 d1 d2 d3 d4 d5 d6 d7; obtain ⟨c0, c1, c2, c3, c4, c5, c6, c7⟩ := box8 HBC.out; obtain ⟨d0, d1, d2, d3, d4, d5, d6, d7⟩ := box8 HBD.out; have hq0 := lt_of_blk HBC.out; have hq1 := lt_of_blk HBD.out
  go_wp2_with ((go_at_call 12; refine (num_any _ _).mono ?_; rintro e wn ⟨rfl, rfl⟩))
  refine (HCK.out _ HS.out.bel).mono ?_
  rintro e w4 ⟨rfl, hb⟩
  have HSB := Aside.mk hb; replace HS := Aside.mk (HS.out.below hb); replace HBC := Aside.mk ((hb.block _ (lt_of_blk HBC.out)).trans HBC.out); replace HBD := Aside.mk ((hb.block _ (lt_of_blk HBD.out)).trans HBD.out); clear hb; clear hq0 hq1 c0 c1 c2 c3 c4 c5 c6 c7 d0 d1 d2 d3 d4 d5 d6 d7; obtain ⟨c0, c1, c2, c3, c4, c5, c6, c7⟩ := box8 HBC.out; obtain ⟨d0, d1, d2, d3, d4, d5, d6, d7⟩ := box8 HBD.out; have hq0 := lt_of_blk HBC.out; have hq1 := lt_of_blk HBD.out
  go_wp2_with ((go_at_call 12; refine (num_any _ _).mono ?_; rintro e wn ⟨rfl, rfl⟩))
  -- Get
  refine (HG.out _ HS.out.bel).mono ?_
  rintro e w5 ⟨ga, gc, rfl, ho, hb⟩
  have HGO := Aside.mk ho
  clear ho
  have HL4 := Aside.mk (show w.heap.size + 1 < w4.heap.size from (HS.out.own (w.heap.size + 1) (by simp)).2)
  have HZ4 := Aside.mk HS.out.mm
  have HSB := Aside.mk hb; replace HS := Aside.mk (HS.out.below hb); replace HBC := Aside.mk ((hb.block _ (lt_of_blk HBC.out)).trans HBC.out); replace HBD := Aside.mk ((hb.block _ (lt_of_blk HBD.out)).trans HBD.out); clear hb; clear hq0 hq1 c0 c1 c2 c3 c4 c5 c6 c7 d0 d1 d2 d3 d4 d5 d6 d7; obtain ⟨c0, c1, c2, c3, c4, c5, c6, c7⟩ := box8 HBC.out; obtain ⟨d0, d1, d2, d3, d4, d5, d6, d7⟩ := box8 HBD.out; have hq0 := lt_of_blk HBC.out; have hq1 := lt_of_blk HBD.out
  go_wp2_with fail
  refine (HRG.out _ HS.out.bel).mono ?_
  rintro e w6 ⟨hb, ta, tc, rfl, hrd⟩
  replace HGO := Aside.mk (HGO.out.below hb)
  have HTD := Aside.mk hrd
  clear hrd
  have HSB := Aside.mk hb; replace HS := Aside.mk (HS.out.below hb); replace HBC := Aside.mk ((hb.block _ (lt_of_blk HBC.out)).trans HBC.out); replace HBD := Aside.mk ((hb.block _ (lt_of_blk HBD.out)).trans HBD.out); clear hb; clear hq0 hq1 c0 c1 c2 c3 c4 c5 c6 c7 d0 d1 d2 d3 d4 d5 d6 d7; obtain ⟨c0, c1, c2, c3, c4, c5, c6, c7⟩ := box8 HBC.out; obtain ⟨d0, d1, d2, d3, d4, d5, d6, d7⟩ := box8 HBD.out; have hq0 := lt_of_blk HBC.out; have hq1 := lt_of_blk HBD.out
  generalize getV c i = v at *
  generalize getE c i = ge at *
  obtain ⟨vn, vx, vt⟩ := v
  dsimp only at HGO HTD HVT ⊢
  have HL5 := Aside.mk (HGO.out.lt)
  have HZ6 := Aside.mk HSB.out.size
  generalize hvl : vt.length = vl at *
  have HVL := Aside.mk hvl
  clear hvl
  go_wp2_with ((go_at_call 12; refine (num_any _ _).mono ?_; rintro e wn ⟨rfl, rfl⟩))
  have hb := below_new w6 (.cells #[.bool vn, .int .u64 (vx : Int), .slice ta vl tc] 50)
  have hs := HS.out.alloc (.cells #[.bool vn, .int .u64 (vx : Int), .slice ta vl tc] 50 (0, 0))
  have hx := heap_alloc_new w6 (.cells #[.bool vn, .int .u64 (vx : Int), .slice ta vl tc] 50)
  generalize w6.alloc (.cells #[.bool vn, .int .u64 (vx : Int), .slice ta vl tc] 50) = w7 at *
  have HBV := Aside.mk hx
  replace HGO := Aside.mk (HGO.out.below hb)
  have HSB := Aside.mk hb; replace HS := Aside.mk (HS.out.below hb); replace HBC := Aside.mk ((hb.block _ (lt_of_blk HBC.out)).trans HBC.out); replace HBD := Aside.mk ((hb.block _ (lt_of_blk HBD.out)).trans HBD.out); clear hb; clear hq0 hq1 c0 c1 c2 c3 c4 c5 c6 c7 d0 d1 d2 d3 d4 d5 d6 d7; obtain ⟨c0, c1, c2, c3, c4, c5, c6, c7⟩ := box8 HBC.out; obtain ⟨d0, d1, d2, d3, d4, d5, d6, d7⟩ := box8 HBD.out; have hq0 := lt_of_blk HBC.out; have hq1 := lt_of_blk HBD.out
  replace HS := Aside.mk hs
  clear hs hx
  -- Same of the texts
  have hts := (HTD.out w7 (HRC.out _ HS.out.bel))
  have HTS := Aside.mk hts
  clear hts
  have hsm : Calls Tryz.prog 47 #[.slice ga vl gc, .slice ta vl tc] w7 fun e w' => e = .returned (.bool true) ∧ w7 = w' := by
    have h := same_bytes vt vt ⟨ga, gc⟩ ⟨ta, tc⟩ HVT.out.1 HVT.out.1 w7 (by rw [HVL.out]; exact HGO.out.rd) (by rw [HVL.out]; exact HTS.out)
    rw [HVL.out] at h
    simpa using h
  refine hsm.mono ?_
  rintro e wn ⟨rfl, rfl⟩
  clear hsm
  obtain ⟨v0, v1, v2⟩ := box3 HBV.out
  go_wp2_with fail
  -- the text is kept
  have hrow : ∀ b, (Value.slice ga vl gc).ownBlock = some b → w4.heap.size ≤ b ∧ b < w6.heap.size := fun b e => HL5.out b e
  have hz1 := HZ4.out
  have hz2 := HZ6.out
  have hmem := HS.out.own
  have hkb := HS.out.bytes ga gc vt (base := w4.heap.size) (by omega) HVT.out.1 (by rw [HVL.out]; exact HVT.out.2) (by rw [HVL.out]; exact HGO.out) (fun b hb e => by
    rw [HVL.out] at e
    have := hrow b e
    have h4 := HL4.out
    simp only [List.mem_cons, List.not_mem_nil, or_false] at hb
    omega)
  rw [HVL.out] at hkb
  refine hkb.mono ?_
  rintro e w8 ⟨rfl, hs8, hk8⟩
  have HS8 := Aside.mk hs8
  replace HBC := Aside.mk ((hk8 _ (by simp)).trans HBC.out)
  replace HBD := Aside.mk ((hk8 _ (by simp)).trans HBD.out)
  replace HBV := Aside.mk ((hk8 _ (by simp)).trans HBV.out)
  clear hkb hs8 hk8 hrow hz1 hz2 hmem v0 v1 v2 HS HTS HTD HGO HL5 HZ6 HZ4 HSB
  have HS := HS8
  clear HS8
  clear hq0 hq1 c0 c1 c2 c3 c4 c5 c6 c7 d0 d1 d2 d3 d4 d5 d6 d7
  obtain ⟨c0, c1, c2, c3, c4, c5, c6, c7⟩ := box8 HBC.out; obtain ⟨d0, d1, d2, d3, d4, d5, d6, d7⟩ := box8 HBD.out; have hq0 := lt_of_blk HBC.out; have hq1 := lt_of_blk HBD.out
  go_wp2_with fail
  -- Cut
  refine (HCU.out _ HS.out.bel).mono ?_
  rintro e w9 ⟨Bx, Dx, Ex, Xx, vx', rfl, ho, hb⟩
  have HOX := Aside.mk ho
  clear ho
  replace HBV := Aside.mk ((hb.block _ (lt_of_blk HBV.out)).trans HBV.out)
  have HZ9 := Aside.mk hb.size
  have HLV := Aside.mk (HS.out.own (w.heap.size + 1) (by simp)).2
  have HLV2 := Aside.mk (HS.out.own w6.heap.size (by simp)).2
  have HSB := Aside.mk hb; replace HS := Aside.mk (HS.out.below hb); replace HBC := Aside.mk ((hb.block _ (lt_of_blk HBC.out)).trans HBC.out); replace HBD := Aside.mk ((hb.block _ (lt_of_blk HBD.out)).trans HBD.out); clear hb; clear hq0 hq1 c0 c1 c2 c3 c4 c5 c6 c7 d0 d1 d2 d3 d4 d5 d6 d7; obtain ⟨c0, c1, c2, c3, c4, c5, c6, c7⟩ := box8 HBC.out; obtain ⟨d0, d1, d2, d3, d4, d5, d6, d7⟩ := box8 HBD.out; have hq0 := lt_of_blk HBC.out; have hq1 := lt_of_blk HBD.out
  dsimp only [colV]
  go_wp2_with fail
  have hb := below_new w9 (.cells #[.int .i64 cc.k, .int .i64 cc.s, .int .i64 cc.n, .int .i64 cc.m, .slice Bx.a cc.bits.length Bx.c, .slice Dx.a cc.data.length Dx.c, .slice Ex.a cc.ends.length Ex.c, .slice Xx.a cc.words.length Xx.c] 63)
  have hs := HS.out.alloc (colB cc Bx Dx Ex Xx)
  have hx : (w9.alloc (.cells #[.int .i64 cc.k, .int .i64 cc.s, .int .i64 cc.n, .int .i64 cc.m, .slice Bx.a cc.bits.length Bx.c, .slice Dx.a cc.data.length Dx.c, .slice Ex.a cc.ends.length Ex.c, .slice Xx.a cc.words.length Xx.c] 63)).heap[w9.heap.size]? = some (colB cc Bx Dx Ex Xx) := heap_alloc_new w9 _
  generalize w9.alloc (.cells #[.int .i64 cc.k, .int .i64 cc.s, .int .i64 cc.n, .int .i64 cc.m, .slice Bx.a cc.bits.length Bx.c, .slice Dx.a cc.data.length Dx.c, .slice Ex.a cc.ends.length Ex.c, .slice Xx.a cc.words.length Xx.c] 63) = w10 at *
  have HBX := Aside.mk hx
  have HSN := Aside.mk hs
  replace HOX := Aside.mk (HOX.out.below hb)
  replace HBV := Aside.mk ((hb.block _ (lt_of_blk HBV.out)).trans HBV.out)
  have HSB := Aside.mk hb; replace HS := Aside.mk (HS.out.below hb); replace HBC := Aside.mk ((hb.block _ (lt_of_blk HBC.out)).trans HBC.out); replace HBD := Aside.mk ((hb.block _ (lt_of_blk HBD.out)).trans HBD.out); clear hb; clear hq0 hq1 c0 c1 c2 c3 c4 c5 c6 c7 d0 d1 d2 d3 d4 d5 d6 d7; obtain ⟨c0, c1, c2, c3, c4, c5, c6, c7⟩ := box8 HBC.out; obtain ⟨d0, d1, d2, d3, d4, d5, d6, d7⟩ := box8 HBD.out; have hq0 := lt_of_blk HBC.out; have hq1 := lt_of_blk HBD.out
  replace HS := Aside.mk HSN.out
  clear hs hx HSN
  refine (HRCU.out _ HS.out.bel).mono ?_
  rintro e w11 ⟨By, Dy, Ey, Xy, vy, rfl, ho, hb⟩
  have HOY := Aside.mk ho
  clear ho
  replace HOX := Aside.mk (HOX.out.below hb)
  replace HBV := Aside.mk ((hb.block _ (lt_of_blk HBV.out)).trans HBV.out)
  replace HBX := Aside.mk ((hb.block _ (lt_of_blk HBX.out)).trans HBX.out)
  have HSB := Aside.mk hb; replace HS := Aside.mk (HS.out.below hb); replace HBC := Aside.mk ((hb.block _ (lt_of_blk HBC.out)).trans HBC.out); replace HBD := Aside.mk ((hb.block _ (lt_of_blk HBD.out)).trans HBD.out); clear hb; clear hq0 hq1 c0 c1 c2 c3 c4 c5 c6 c7 d0 d1 d2 d3 d4 d5 d6 d7; obtain ⟨c0, c1, c2, c3, c4, c5, c6, c7⟩ := box8 HBC.out; obtain ⟨d0, d1, d2, d3, d4, d5, d6, d7⟩ := box8 HBD.out; have hq0 := lt_of_blk HBC.out; have hq1 := lt_of_blk HBD.out
  have hqx := lt_of_blk HBX.out
  obtain ⟨x0, x1, x2, x3, x4, x5, x6, x7⟩ := box8 HBX.out
  dsimp only [colV]
  go_wp2_with ((go_at_call 12; refine (num_any _ _).mono ?_; rintro e wn ⟨rfl, rfl⟩))
  have hb := below_new w11 (.cells #[.int .i64 cc.k, .int .i64 cc.s, .int .i64 cc.n, .int .i64 cc.m, .slice By.a cc.bits.length By.c, .slice Dy.a cc.data.length Dy.c, .slice Ey.a cc.ends.length Ey.c, .slice Xy.a cc.words.length Xy.c] 63)
  have hs := HS.out.alloc (colB cc By Dy Ey Xy)
  have hx : (w11.alloc (.cells #[.int .i64 cc.k, .int .i64 cc.s, .int .i64 cc.n, .int .i64 cc.m, .slice By.a cc.bits.length By.c, .slice Dy.a cc.data.length Dy.c, .slice Ey.a cc.ends.length Ey.c, .slice Xy.a cc.words.length Xy.c] 63)).heap[w11.heap.size]? = some (colB cc By Dy Ey Xy) := heap_alloc_new w11 _
  generalize w11.alloc (.cells #[.int .i64 cc.k, .int .i64 cc.s, .int .i64 cc.n, .int .i64 cc.m, .slice By.a cc.bits.length By.c, .slice Dy.a cc.data.length Dy.c, .slice Ey.a cc.ends.length Ey.c, .slice Xy.a cc.words.length Xy.c] 63) = w12 at *
  have HBY := Aside.mk hx
  have HSN := Aside.mk hs
  replace HOX := Aside.mk (HOX.out.below hb)
  replace HOY := Aside.mk (HOY.out.below hb)
  have HLXY := Aside.mk hqx
  replace HBV := Aside.mk ((hb.block _ (lt_of_blk HBV.out)).trans HBV.out)
  replace HBX := Aside.mk ((hb.block _ (lt_of_blk HBX.out)).trans HBX.out)
  have HSB := Aside.mk hb; replace HS := Aside.mk (HS.out.below hb); replace HBC := Aside.mk ((hb.block _ (lt_of_blk HBC.out)).trans HBC.out); replace HBD := Aside.mk ((hb.block _ (lt_of_blk HBD.out)).trans HBD.out); clear hb; clear hq0 hq1 c0 c1 c2 c3 c4 c5 c6 c7 d0 d1 d2 d3 d4 d5 d6 d7; obtain ⟨c0, c1, c2, c3, c4, c5, c6, c7⟩ := box8 HBC.out; obtain ⟨d0, d1, d2, d3, d4, d5, d6, d7⟩ := box8 HBD.out; have hq0 := lt_of_blk HBC.out; have hq1 := lt_of_blk HBD.out
  replace HS := Aside.mk HSN.out
  clear hs hx HSN x0 x1 x2 x3 x4 x5 x6 x7 hqx
  refine (equal_col cc cc HCC.out HCC.out Bx Dx Ex Xx By Dy Ey Xy vx' vy w12 HOX.out.rd HOY.out.rd).mono ?_
  rintro e w13 ⟨rfl, hb⟩
  rw [equalC_refl]
  replace HOX := Aside.mk (HOX.out.below hb)
  replace HBV := Aside.mk ((hb.block _ (lt_of_blk HBV.out)).trans HBV.out)
  replace HBX := Aside.mk ((hb.block _ (lt_of_blk HBX.out)).trans HBX.out)
  replace HBY := Aside.mk ((hb.block _ (lt_of_blk HBY.out)).trans HBY.out)
  have HSB := Aside.mk hb; replace HS := Aside.mk (HS.out.below hb); replace HBC := Aside.mk ((hb.block _ (lt_of_blk HBC.out)).trans HBC.out); replace HBD := Aside.mk ((hb.block _ (lt_of_blk HBD.out)).trans HBD.out); clear hb; clear hq0 hq1 c0 c1 c2 c3 c4 c5 c6 c7 d0 d1 d2 d3 d4 d5 d6 d7; obtain ⟨c0, c1, c2, c3, c4, c5, c6, c7⟩ := box8 HBC.out; obtain ⟨d0, d1, d2, d3, d4, d5, d6, d7⟩ := box8 HBD.out; have hq0 := lt_of_blk HBC.out; have hq1 := lt_of_blk HBD.out
  have hqx := lt_of_blk HBX.out
  obtain ⟨x0, x1, x2, x3, x4, x5, x6, x7⟩ := box8 HBX.out
  clear HOY
  go_wp2_with ((go_at_call 12; refine (num_any _ _).mono ?_; rintro e wn ⟨rfl, rfl⟩))
  -- the piece is kept
  refine (HS.out.keep cc HCC.out Bx Dx Ex Xx vx' (base := w8.heap.size) (Nat.le_refl _) HS.out.mm HOX.out (by
    intro b hb
    simp only [List.mem_cons, List.not_mem_nil, or_false] at hb
    rcases hb with rfl | rfl | rfl | rfl | rfl
    · exact ⟨_, _, HBY.out, by decide, by decide⟩
    · exact ⟨_, _, HBX.out, by decide, by decide⟩
    · exact ⟨_, _, HBV.out, by decide, by decide⟩
    · exact ⟨_, _, HBD.out, by decide, by decide⟩
    · exact ⟨_, _, HBC.out, by decide, by decide⟩)).mono ?_
  rintro e w14 ⟨rfl, hs, hk⟩
  have HSN := Aside.mk hs; replace HBC := Aside.mk ((hk _ (by simp)).trans HBC.out); replace HBD := Aside.mk ((hk _ (by simp)).trans HBD.out); replace HBV := Aside.mk ((hk _ (by simp)).trans HBV.out); replace HBX := Aside.mk ((hk _ (by simp)).trans HBX.out); replace HBY := Aside.mk ((hk _ (by simp)).trans HBY.out); clear hs hk; replace HS := HSN; clear HSN; clear hq0 hq1 c0 c1 c2 c3 c4 c5 c6 c7 d0 d1 d2 d3 d4 d5 d6 d7; obtain ⟨c0, c1, c2, c3, c4, c5, c6, c7⟩ := box8 HBC.out; obtain ⟨d0, d1, d2, d3, d4, d5, d6, d7⟩ := box8 HBD.out; have hq0 := lt_of_blk HBC.out; have hq1 := lt_of_blk HBD.out
  have HQ := Aside.mk (And.intro (HS.out.own w9.heap.size (by simp)).2 (HS.out.own w11.heap.size (by simp)).2)
  clear hqx x0 x1 x2 x3 x4 x5 x6 x7 HOX HSB
  go_wp2_with fail
  -- Join
  refine (HJ.out _ HS.out.bel).mono ?_
  rintro e w15 ⟨Bj, Dj, Ej, Xj, vj, rfl, ho, hb⟩
  have HQ3 := Aside.mk hb.size
  have HOJ := Aside.mk ho
  clear ho
  replace HBV := Aside.mk ((hb.block _ (lt_of_blk HBV.out)).trans HBV.out)
  replace HBX := Aside.mk ((hb.block _ (lt_of_blk HBX.out)).trans HBX.out)
  replace HBY := Aside.mk ((hb.block _ (lt_of_blk HBY.out)).trans HBY.out)
  have HSB := Aside.mk hb; replace HS := Aside.mk (HS.out.below hb); replace HBC := Aside.mk ((hb.block _ (lt_of_blk HBC.out)).trans HBC.out); replace HBD := Aside.mk ((hb.block _ (lt_of_blk HBD.out)).trans HBD.out); clear hb; clear hq0 hq1 c0 c1 c2 c3 c4 c5 c6 c7 d0 d1 d2 d3 d4 d5 d6 d7; obtain ⟨c0, c1, c2, c3, c4, c5, c6, c7⟩ := box8 HBC.out; obtain ⟨d0, d1, d2, d3, d4, d5, d6, d7⟩ := box8 HBD.out; have hq0 := lt_of_blk HBC.out; have hq1 := lt_of_blk HBD.out
  have hqx := lt_of_blk HBX.out
  have fx := fun k => frozen_blk (k := k) HBX.out
  obtain ⟨x0, x1, x2, x3, x4, x5, x6, x7⟩ := box8 HBX.out
  have hxc : w9.heap.size ≠ w.heap.size := by have := HL4.out; have := HZ9.out; have := HLV.out; omega
  have hxd : w9.heap.size ≠ w.heap.size + 1 := by have := HL4.out; have := HZ9.out; have := HLV.out; omega
  have hxc2 := hxc.symm
  have hxd2 := hxd.symm
  dsimp only [colV]
  go_wp2_with fail
  have K8 := kept8 w15 w9.heap.size (.int .i64 jc.k) (.int .i64 jc.s) (.int .i64 jc.n) (.int .i64 jc.m) (.slice Bj.a jc.bits.length Bj.c) (.slice Dj.a jc.data.length Dj.c) (.slice Ej.a jc.ends.length Ej.c) (.slice Xj.a jc.words.length Xj.c)
  have hs := HS.out.turn (b := w9.heap.size) (by simp) K8
  have hx := set8 HBX.out (.int .i64 jc.k) (.int .i64 jc.s) (.int .i64 jc.n) (.int .i64 jc.m) (.slice Bj.a jc.bits.length Bj.c) (.slice Dj.a jc.data.length Dj.c) (.slice Ej.a jc.ends.length Ej.c) (.slice Xj.a jc.words.length Xj.c)
  clear x0 x1 x2 x3 x4 x5 x6 x7 fx hqx
  generalize ((((((((w15.setCell ⟨w9.heap.size, 0, none⟩ (.int .i64 jc.k)).setCell ⟨w9.heap.size, 1, none⟩ (.int .i64 jc.s)).setCell ⟨w9.heap.size, 2, none⟩ (.int .i64 jc.n)).setCell ⟨w9.heap.size, 3, none⟩ (.int .i64 jc.m)).setCell ⟨w9.heap.size, 4, none⟩ (.slice Bj.a jc.bits.length Bj.c)).setCell ⟨w9.heap.size, 5, none⟩ (.slice Dj.a jc.data.length Dj.c)).setCell ⟨w9.heap.size, 6, none⟩ (.slice Ej.a jc.ends.length Ej.c)).setCell ⟨w9.heap.size, 7, none⟩ (.slice Xj.a jc.words.length Xj.c)) = w16 at *
  have KK := Aside.mk K8
  clear K8
  replace HBC := Aside.mk ((KK.out.block _ (lt_of_blk HBC.out) hxc2).trans HBC.out)
  replace HBD := Aside.mk ((KK.out.block _ (lt_of_blk HBD.out) hxd2).trans HBD.out)
  replace HBV := Aside.mk ((KK.out.block _ (lt_of_blk HBV.out) (by have := HLV.out; have := HLV2.out; have := HZ9.out; omega)).trans HBV.out)
  replace HBY := Aside.mk ((KK.out.block _ (lt_of_blk HBY.out) (by have := HLXY.out; omega)).trans HBY.out)
  replace HBX := Aside.mk hx
  replace HOJ := Aside.mk (HOJ.out.kept KK.out (fun b h e => by have := HQ.out.1; omega))
  replace HS := Aside.mk hs
  have HB16 := Aside.mk KK.out.size
  clear hs hx KK hxc hxd hxc2 hxd2
  clear hq0 hq1 c0 c1 c2 c3 c4 c5 c6 c7 d0 d1 d2 d3 d4 d5 d6 d7
  obtain ⟨c0, c1, c2, c3, c4, c5, c6, c7⟩ := box8 HBC.out; obtain ⟨d0, d1, d2, d3, d4, d5, d6, d7⟩ := box8 HBD.out; have hq0 := lt_of_blk HBC.out; have hq1 := lt_of_blk HBD.out
  refine (HRJ.out _ HS.out.bel).mono ?_
  rintro e w17 ⟨Bk, Dk, Ek, Xk, vk, rfl, ho, hb⟩
  have HOK := Aside.mk ho
  clear ho
  replace HOJ := Aside.mk (HOJ.out.below hb)
  have HB17 := Aside.mk hb.size
  replace HBV := Aside.mk ((hb.block _ (lt_of_blk HBV.out)).trans HBV.out)
  replace HBX := Aside.mk ((hb.block _ (lt_of_blk HBX.out)).trans HBX.out)
  replace HBY := Aside.mk ((hb.block _ (lt_of_blk HBY.out)).trans HBY.out)
  have HSB := Aside.mk hb; replace HS := Aside.mk (HS.out.below hb); replace HBC := Aside.mk ((hb.block _ (lt_of_blk HBC.out)).trans HBC.out); replace HBD := Aside.mk ((hb.block _ (lt_of_blk HBD.out)).trans HBD.out); clear hb; clear hq0 hq1 c0 c1 c2 c3 c4 c5 c6 c7 d0 d1 d2 d3 d4 d5 d6 d7; obtain ⟨c0, c1, c2, c3, c4, c5, c6, c7⟩ := box8 HBC.out; obtain ⟨d0, d1, d2, d3, d4, d5, d6, d7⟩ := box8 HBD.out; have hq0 := lt_of_blk HBC.out; have hq1 := lt_of_blk HBD.out
  have hqx := lt_of_blk HBX.out
  have hqy := lt_of_blk HBY.out
  obtain ⟨x0, x1, x2, x3, x4, x5, x6, x7⟩ := box8 HBX.out
  obtain ⟨y0, y1, y2, y3, y4, y5, y6, y7⟩ := box8 HBY.out
  have fy := fun k => frozen_blk (k := k) HBY.out
  have hxc : w11.heap.size ≠ w.heap.size := by have := HL4.out; have := HZ9.out; have := HLV.out; have := HLXY.out; omega
  have hxd : w11.heap.size ≠ w.heap.size + 1 := by have := HL4.out; have := HZ9.out; have := HLV.out; have := HLXY.out; omega
  have hxy : w11.heap.size ≠ w9.heap.size := by have := HLXY.out; omega
  have hxc2 := hxc.symm
  have hxd2 := hxd.symm
  have hxy2 := hxy.symm
  dsimp only [colV]
  go_wp2_with ((go_at_call 12; refine (num_any _ _).mono ?_; rintro e wn ⟨rfl, rfl⟩))
  have K8 := kept8 w17 w11.heap.size (.int .i64 jc.k) (.int .i64 jc.s) (.int .i64 jc.n) (.int .i64 jc.m) (.slice Bk.a jc.bits.length Bk.c) (.slice Dk.a jc.data.length Dk.c) (.slice Ek.a jc.ends.length Ek.c) (.slice Xk.a jc.words.length Xk.c)
  have hs := HS.out.turn (b := w11.heap.size) (by simp) K8
  have hx := set8 HBY.out (.int .i64 jc.k) (.int .i64 jc.s) (.int .i64 jc.n) (.int .i64 jc.m) (.slice Bk.a jc.bits.length Bk.c) (.slice Dk.a jc.data.length Dk.c) (.slice Ek.a jc.ends.length Ek.c) (.slice Xk.a jc.words.length Xk.c)
  clear x0 x1 x2 x3 x4 x5 x6 x7 y0 y1 y2 y3 y4 y5 y6 y7 fy hqx hqy
  generalize ((((((((w17.setCell ⟨w11.heap.size, 0, none⟩ (.int .i64 jc.k)).setCell ⟨w11.heap.size, 1, none⟩ (.int .i64 jc.s)).setCell ⟨w11.heap.size, 2, none⟩ (.int .i64 jc.n)).setCell ⟨w11.heap.size, 3, none⟩ (.int .i64 jc.m)).setCell ⟨w11.heap.size, 4, none⟩ (.slice Bk.a jc.bits.length Bk.c)).setCell ⟨w11.heap.size, 5, none⟩ (.slice Dk.a jc.data.length Dk.c)).setCell ⟨w11.heap.size, 6, none⟩ (.slice Ek.a jc.ends.length Ek.c)).setCell ⟨w11.heap.size, 7, none⟩ (.slice Xk.a jc.words.length Xk.c)) = w18 at *
  have KK := Aside.mk K8
  clear K8
  replace HBC := Aside.mk ((KK.out.block _ (lt_of_blk HBC.out) hxc2).trans HBC.out)
  replace HBD := Aside.mk ((KK.out.block _ (lt_of_blk HBD.out) hxd2).trans HBD.out)
  replace HBV := Aside.mk ((KK.out.block _ (lt_of_blk HBV.out) (by have := HLV.out; have := HLV2.out; have := HZ9.out; have := HLXY.out; omega)).trans HBV.out)
  replace HBX := Aside.mk ((KK.out.block _ (lt_of_blk HBX.out) hxy2).trans HBX.out)
  replace HBY := Aside.mk hx
  replace HOJ := Aside.mk (HOJ.out.kept KK.out (fun b h e => by have := HQ.out.2; omega))
  replace HOK := Aside.mk (HOK.out.kept KK.out (fun b h e => by have := HQ.out.2; have := HQ3.out; have := HB16.out; omega))
  replace HS := Aside.mk hs
  clear hs hx KK hxc hxd hxc2 hxd2 hxy hxy2
  clear hq0 hq1 c0 c1 c2 c3 c4 c5 c6 c7 d0 d1 d2 d3 d4 d5 d6 d7
  obtain ⟨c0, c1, c2, c3, c4, c5, c6, c7⟩ := box8 HBC.out; obtain ⟨d0, d1, d2, d3, d4, d5, d6, d7⟩ := box8 HBD.out; have hq0 := lt_of_blk HBC.out; have hq1 := lt_of_blk HBD.out
  refine (equal_col jc jc HCJ.out HCJ.out Bj Dj Ej Xj Bk Dk Ek Xk vj vk w18 HOJ.out.rd HOK.out.rd).mono ?_
  rintro e w19 ⟨rfl, hb⟩
  rw [equalC_refl]
  replace HOJ := Aside.mk (HOJ.out.below hb)
  replace HBV := Aside.mk ((hb.block _ (lt_of_blk HBV.out)).trans HBV.out)
  replace HBX := Aside.mk ((hb.block _ (lt_of_blk HBX.out)).trans HBX.out)
  replace HBY := Aside.mk ((hb.block _ (lt_of_blk HBY.out)).trans HBY.out)
  have HSB := Aside.mk hb; replace HS := Aside.mk (HS.out.below hb); replace HBC := Aside.mk ((hb.block _ (lt_of_blk HBC.out)).trans HBC.out); replace HBD := Aside.mk ((hb.block _ (lt_of_blk HBD.out)).trans HBD.out); clear hb; clear hq0 hq1 c0 c1 c2 c3 c4 c5 c6 c7 d0 d1 d2 d3 d4 d5 d6 d7; obtain ⟨c0, c1, c2, c3, c4, c5, c6, c7⟩ := box8 HBC.out; obtain ⟨d0, d1, d2, d3, d4, d5, d6, d7⟩ := box8 HBD.out; have hq0 := lt_of_blk HBC.out; have hq1 := lt_of_blk HBD.out
  have hqx := lt_of_blk HBX.out
  obtain ⟨x0, x1, x2, x3, x4, x5, x6, x7⟩ := box8 HBX.out
  clear HOK
  go_wp2_with ((go_at_call 12; refine (num_any _ _).mono ?_; rintro e wn ⟨rfl, rfl⟩))
  refine (HS.out.keep jc HCJ.out Bj Dj Ej Xj vj (base := w14.heap.size) (Nat.le_refl _) HS.out.mm HOJ.out (by
    intro b hb
    simp only [List.mem_cons, List.not_mem_nil, or_false] at hb
    rcases hb with rfl | rfl | rfl | rfl | rfl
    · exact ⟨_, _, HBY.out, by decide, by decide⟩
    · exact ⟨_, _, HBX.out, by decide, by decide⟩
    · exact ⟨_, _, HBV.out, by decide, by decide⟩
    · exact ⟨_, _, HBD.out, by decide, by decide⟩
    · exact ⟨_, _, HBC.out, by decide, by decide⟩)).mono ?_
  rintro e w20 ⟨rfl, hs, hk⟩
  have HSN := Aside.mk hs; replace HBC := Aside.mk ((hk _ (by simp)).trans HBC.out); replace HBD := Aside.mk ((hk _ (by simp)).trans HBD.out); replace HBV := Aside.mk ((hk _ (by simp)).trans HBV.out); replace HBX := Aside.mk ((hk _ (by simp)).trans HBX.out); replace HBY := Aside.mk ((hk _ (by simp)).trans HBY.out); clear hs hk; replace HS := HSN; clear HSN; clear hq0 hq1 c0 c1 c2 c3 c4 c5 c6 c7 d0 d1 d2 d3 d4 d5 d6 d7; obtain ⟨c0, c1, c2, c3, c4, c5, c6, c7⟩ := box8 HBC.out; obtain ⟨d0, d1, d2, d3, d4, d5, d6, d7⟩ := box8 HBD.out; have hq0 := lt_of_blk HBC.out; have hq1 := lt_of_blk HBD.out
  clear hqx x0 x1 x2 x3 x4 x5 x6 x7 HOJ HSB HBX HBY HBV
  go_wp2_with fail
  -- Read, Same
  refine (HRD.out _ HS.out.bel).mono ?_
  rintro e w21 ⟨rv2, rfl, hb⟩
  have HSB := Aside.mk hb; replace HS := Aside.mk (HS.out.below hb); replace HBC := Aside.mk ((hb.block _ (lt_of_blk HBC.out)).trans HBC.out); replace HBD := Aside.mk ((hb.block _ (lt_of_blk HBD.out)).trans HBD.out); clear hb; clear hq0 hq1 c0 c1 c2 c3 c4 c5 c6 c7 d0 d1 d2 d3 d4 d5 d6 d7; obtain ⟨c0, c1, c2, c3, c4, c5, c6, c7⟩ := box8 HBC.out; obtain ⟨d0, d1, d2, d3, d4, d5, d6, d7⟩ := box8 HBD.out; have hq0 := lt_of_blk HBC.out; have hq1 := lt_of_blk HBD.out
  go_wp2_with fail
  refine (HSM.out _ HS.out.bel).mono ?_
  rintro e w22 ⟨rfl, hb⟩
  have HSB := Aside.mk hb; replace HS := Aside.mk (HS.out.below hb); replace HBC := Aside.mk ((hb.block _ (lt_of_blk HBC.out)).trans HBC.out); replace HBD := Aside.mk ((hb.block _ (lt_of_blk HBD.out)).trans HBD.out); clear hb; clear hq0 hq1 c0 c1 c2 c3 c4 c5 c6 c7 d0 d1 d2 d3 d4 d5 d6 d7; obtain ⟨c0, c1, c2, c3, c4, c5, c6, c7⟩ := box8 HBC.out; obtain ⟨d0, d1, d2, d3, d4, d5, d6, d7⟩ := box8 HBD.out; have hq0 := lt_of_blk HBC.out; have hq1 := lt_of_blk HBD.out
  clear HSM HRD HR HCK HG HRG HCU HRCU HJ HRJ HCC HCJ HVT HVL
  by_cases hx0 : x = 0
  · by_cases hy0 : y = 0
    · have hr1 := HS1.out
      have hr2 := HS2.out
      simp only [hx0, hy0, decide_true, Bool.true_and, Bool.and_true] at hr1 hr2
      subst hr1 hr2 hx0 hy0
      clear HS1 HS2
      go_wp2_with fail
      refine (HEQ.out _ HS.out.bel).mono ?_
      rintro e w23 ⟨rfl, hb⟩
      have HSB := Aside.mk hb; replace HS := Aside.mk (HS.out.below hb); replace HBC := Aside.mk ((hb.block _ (lt_of_blk HBC.out)).trans HBC.out); replace HBD := Aside.mk ((hb.block _ (lt_of_blk HBD.out)).trans HBD.out); clear hb; clear hq0 hq1 c0 c1 c2 c3 c4 c5 c6 c7 d0 d1 d2 d3 d4 d5 d6 d7; obtain ⟨c0, c1, c2, c3, c4, c5, c6, c7⟩ := box8 HBC.out; obtain ⟨d0, d1, d2, d3, d4, d5, d6, d7⟩ := box8 HBD.out; have hq0 := lt_of_blk HBC.out; have hq1 := lt_of_blk HBD.out
      go_wp2_with fail
      refine (HSC.out _ HS.out.bel).mono ?_
      rintro e w24 ⟨rfl, hb⟩
      have HSB := Aside.mk hb; replace HS := Aside.mk (HS.out.below hb); replace HBC := Aside.mk ((hb.block _ (lt_of_blk HBC.out)).trans HBC.out); replace HBD := Aside.mk ((hb.block _ (lt_of_blk HBD.out)).trans HBD.out); clear hb; clear hq0 hq1 c0 c1 c2 c3 c4 c5 c6 c7 d0 d1 d2 d3 d4 d5 d6 d7; obtain ⟨c0, c1, c2, c3, c4, c5, c6, c7⟩ := box8 HBC.out; obtain ⟨d0, d1, d2, d3, d4, d5, d6, d7⟩ := box8 HBD.out; have hq0 := lt_of_blk HBC.out; have hq1 := lt_of_blk HBD.out
      go_wp2_with fail
      go_ret
      exact HS.out.done
    · have hr1 := HS1.out
      have hr2 := HS2.out
      have hy1 : (y == 0) = false := by simpa using hy0
      simp only [hx0, hy0, decide_true, decide_false, Bool.true_and, Bool.and_true, Bool.false_and, Bool.and_false] at hr1 hr2
      subst hr1 hr2 hx0
      clear HS1 HS2 hy0
      go_wp2_with fail
      refine (HSC.out _ HS.out.bel).mono ?_
      rintro e w24 ⟨rfl, hb⟩
      have HSB := Aside.mk hb; replace HS := Aside.mk (HS.out.below hb); replace HBC := Aside.mk ((hb.block _ (lt_of_blk HBC.out)).trans HBC.out); replace HBD := Aside.mk ((hb.block _ (lt_of_blk HBD.out)).trans HBD.out); clear hb; clear hq0 hq1 c0 c1 c2 c3 c4 c5 c6 c7 d0 d1 d2 d3 d4 d5 d6 d7; obtain ⟨c0, c1, c2, c3, c4, c5, c6, c7⟩ := box8 HBC.out; obtain ⟨d0, d1, d2, d3, d4, d5, d6, d7⟩ := box8 HBD.out; have hq0 := lt_of_blk HBC.out; have hq1 := lt_of_blk HBD.out
      go_wp2_with fail
      go_ret
      exact HS.out.done
  · have hr1 := HS1.out
    have hr2 := HS2.out
    have hx1 : (x == 0) = false := by simpa using hx0
    simp only [hx0, decide_false, Bool.false_and] at hr1 hr2
    subst hr1 hr2
    clear HS1 HS2 hx0
    go_wp2_with fail
    refine (HSC.out _ HS.out.bel).mono ?_
    rintro e w24 ⟨rfl, hb⟩
    have HSB := Aside.mk hb; replace HS := Aside.mk (HS.out.below hb); replace HBC := Aside.mk ((hb.block _ (lt_of_blk HBC.out)).trans HBC.out); replace HBD := Aside.mk ((hb.block _ (lt_of_blk HBD.out)).trans HBD.out); clear hb; clear hq0 hq1 c0 c1 c2 c3 c4 c5 c6 c7 d0 d1 d2 d3 d4 d5 d6 d7; obtain ⟨c0, c1, c2, c3, c4, c5, c6, c7⟩ := box8 HBC.out; obtain ⟨d0, d1, d2, d3, d4, d5, d6, d7⟩ := box8 HBD.out; have hq0 := lt_of_blk HBC.out; have hq1 := lt_of_blk HBD.out
    go_wp2_with fail
    go_ret
    exact HS.out.done
end Go.Proofs.YtmhjjhaipcgbiaaGreat
