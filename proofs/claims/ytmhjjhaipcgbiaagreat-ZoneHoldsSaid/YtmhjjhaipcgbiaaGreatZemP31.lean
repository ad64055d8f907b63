/- Texts of this claim, one behind the other: Join, Cut, Lay. -/
import Derived.Test.YtmhjjhaipcgbiaaGreatZemP30
import Derived.Test.YtmhjjhaipcgbiaaGreatZemP23

namespace Go.Proofs.YtmhjjhaipcgbiaaGreat
open Go.RowKit Go.Shelf
set_option linter.unusedVariables false
set_option linter.unusedSimpArgs false
set_option maxRecDepth 100000
set_option maxHeartbeats 4000000
def ColEP (c : Col) (w : World) (e : Ending) (w' : World) : Prop := ∃ B D E W vals, e = .returned (.tuple #[colV c B D E W, .int .i64 0]) ∧ OwnC w' w.heap.size c B D E W vals ∧ Below w.heap.size w w'
def Small (c : CS) : Prop := c.nulls.length ≤ 100000000 ∧ c.data.length ≤ 100000000 ∧ c.ends.length ≤ 100000000 ∧ c.words.length ≤ 100000000 ∧ ∀ t ∈ c.words, t.length ≤ 100000000
theorem below_three (w : World) (o1 o2 o3 : Obj) : Below w.heap.size w (((w.alloc o1).alloc o2).alloc o3) ∧ (((w.alloc o1).alloc o2).alloc o3).heap.size = w.heap.size + 3 ∧
    (((w.alloc o1).alloc o2).alloc o3).heap[w.heap.size]? = some o1 ∧ (((w.alloc o1).alloc o2).alloc o3).heap[w.heap.size + 1]? = some o2 ∧ (((w.alloc o1).alloc o2).alloc o3).heap[w.heap.size + 2]? = some o3 := by
  obtain ⟨h1, h2, h3, h4⟩ := below_two w o1 o2
  refine ⟨h1.alloc (by omega) _, by rw [World.size_alloc, h2], ?_, ?_, ?_⟩
  · exact (Below.heap_alloc _ _ _ (by omega)).trans h3
  · exact (Below.heap_alloc _ _ _ (by omega)).trans h4
  · have := World.alloc_heap_new ((w.alloc o1).alloc o2) o3
    rwa [h2] at this
theorem RdC.keptN {w wN w' : World} {c : Col} {B D E X : SL} {vals : List Value} {S : Nat → Prop} (h : RdC w c B D E X vals) (hb : Below w.heap.size w wN) (hS : ∀ b, S b → w.heap.size ≤ b) (hk : Kept S wN w') : RdC w' c B D E X vals :=
  h.below (hb.trans (hk.to_below hb.size hS))
theorem idx_pair {x0 x1 x2 x3 x4 x5 x6 x7 y0 y1 y2 y3 y4 y5 y6 y7 : Value} (w : World) :
    (Instr.index 209 (.agg #[x0, x1, x2, x3, x4, x5, x6, x7, y0, y1, y2, y3, y4, y5, y6, y7]) (.int .i64 0)).run Tryz.prog w = .ok (.agg #[x0, x1, x2, x3, x4, x5, x6, x7]) w ∧
    (Instr.index 209 (.agg #[x0, x1, x2, x3, x4, x5, x6, x7, y0, y1, y2, y3, y4, y5, y6, y7]) (.int .i64 1)).run Tryz.prog w = .ok (.agg #[y0, y1, y2, y3, y4, y5, y6, y7]) w := by
  constructor <;> kernel_rfl
theorem join_yes (a b : Col) (ha : COK a) (hb : COK b) (B D E X B2 D2 E2 X2 : SL) (va vb : List Value) (hra : checkC a = 0) (hrb : checkC b = 0) (hk : a.k = b.k) (hs : a.s = b.s)
    (hDa : D.a = none ∨ ∃ g off, D.a = some ⟨g, off, none⟩) (hDb : D2.a = none ∨ ∃ g off, D2.a = some ⟨g, off, none⟩) (Na Nb : Nat) (hna : a.n = (Na : Int)) (hnb : b.n = (Nb : Int))
    (hr1 : ∀ i, i < Na → Room (CS.app a.k CS.zero (valsC a i)) (valC a i)) (hr2 : ∀ i, i < Nb → Room (CS.app a.k (CS.app a.k CS.zero (valsC a Na)) (valsC b i)) (valC b i)) (hsm : Small (CS.app a.k (CS.app a.k CS.zero (valsC a Na)) (valsC b Nb)))
    (w : World) (h : RdC w a B D E X va) (h2 : RdC w b B2 D2 E2 X2 vb) :
    Calls Tryz.prog 68 #[colV a B D E X, colV b B2 D2 E2 X2] w (ColEP ((CS.app a.k (CS.app a.k CS.zero (valsC a Na)) (valsC b Nb)).col a.k a.s) w) := by
  have hVB : colV b B2 D2 E2 X2 = .agg #[.int .i64 a.k, .int .i64 a.s, .int .i64 b.n, .int .i64 b.m, .slice B2.a b.bits.length B2.c, .slice D2.a b.data.length D2.c, .slice E2.a b.ends.length E2.c, .slice X2.a b.words.length X2.c] := by unfold colV; rw [hk, hs]
  have hca := Aside.mk (fun (w2 : World) (hb : Below w.heap.size w w2) => check_any a ha B D E X va w2 (h.below hb))
  have hcb := Aside.mk (fun (w2 : World) (hw : Below w.heap.size w w2) => check_any b hb B2 D2 E2 X2 vb w2 (h2.below hw))
  have HO := Aside.mk (check_zero hra).1
  have hapA := Aside.mk (fun (wN : World) (bl n0 : Nat) (hn0 : w.heap.size ≤ n0) (hw : Below w.heap.size w wN) (hB : BS wN (fun b => n0 ≤ b) bl a.k a.s CS.zero) => append_BS (fun b => n0 ≤ b) bl a ha B D E X va hra hDa Na hna CS.zero hr1 wN hB (fun w' hk => h.keptN hw (fun b hb => Nat.le_trans hn0 hb) hk))
  have hapB := Aside.mk (fun (wN : World) (bl n0 : Nat) (hn0 : w.heap.size ≤ n0) (hw : Below w.heap.size w wN) (hB : BS wN (fun b => n0 ≤ b) bl b.k b.s (CS.app a.k CS.zero (valsC a Na))) => append_BS (fun b => n0 ≤ b) bl b hb B2 D2 E2 X2 vb hrb hDb Nb hnb (CS.app a.k CS.zero (valsC a Na)) (hk ▸ hr2) wN hB (fun w' hk => h2.keptN hw (fun b hb => Nat.le_trans hn0 hb) hk))
  rw [hra] at hca
  rw [hrb] at hcb
  rw [hVB] at hcb hapB ⊢
  rw [← hk, ← hs] at hapB
  generalize CS.app a.k CS.zero (valsC a Na) = J1 at *
  generalize CS.app a.k J1 (valsC b Nb) = J2 at *
  have HSM := Aside.mk hsm
  clear h h2 hra hrb ha hb hDa hDb hna hnb hr1 hr2 hsm hVB hk hs
  dsimp only [colV] at hca hapA ⊢
  go_enter Tryz.func68, Tryz.ntmps68
  go_wp2_with fail
  have hg : ∀ W', ((((w.alloc (.cells #[.int .i64 a.k, .int .i64 a.s, .int .i64 a.n, .int .i64 a.m, .slice B.a a.bits.length B.c, .slice D.a a.data.length D.c, .slice E.a a.ends.length E.c, .slice X.a a.words.length X.c] 63)).alloc (.cells #[.int .i64 a.k, .int .i64 a.s, .int .i64 b.n, .int .i64 b.m, .slice B2.a b.bits.length B2.c, .slice D2.a b.data.length D2.c, .slice E2.a b.ends.length E2.c, .slice X2.a b.words.length X2.c] 63)).alloc (.cells #[.int .i64 0, .int .i64 0, .int .i64 0, .int .i64 0, .slice none 0 0, .slice none 0 0, .slice none 0 0, .slice none 0 0] 63)) = W' → Below w.heap.size w W' ∧ W'.heap.size = w.heap.size + 3 ∧ W'.heap[w.heap.size]? = some (.cells #[.int .i64 a.k, .int .i64 a.s, .int .i64 a.n, .int .i64 a.m, .slice B.a a.bits.length B.c, .slice D.a a.data.length D.c, .slice E.a a.ends.length E.c, .slice X.a a.words.length X.c] 63 (0, 0)) ∧ W'.heap[w.heap.size + 1]? = some (.cells #[.int .i64 a.k, .int .i64 a.s, .int .i64 b.n, .int .i64 b.m, .slice B2.a b.bits.length B2.c, .slice D2.a b.data.length D2.c, .slice E2.a b.ends.length E2.c, .slice X2.a b.words.length X2.c] 63 (0, 0)) ∧ W'.heap[w.heap.size + 1 + 1]? = some (.cells #[.int .i64 0, .int .i64 0, .int .i64 0, .int .i64 0, .slice none 0 0, .slice none 0 0, .slice none 0 0, .slice none 0 0] 63 (0, 0))) := fun W' e => by rw [← e]; exact below_three w _ _ _
  generalize (((w.alloc (.cells #[.int .i64 a.k, .int .i64 a.s, .int .i64 a.n, .int .i64 a.m, .slice B.a a.bits.length B.c, .slice D.a a.data.length D.c, .slice E.a a.ends.length E.c, .slice X.a a.words.length X.c] 63)).alloc (.cells #[.int .i64 a.k, .int .i64 a.s, .int .i64 b.n, .int .i64 b.m, .slice B2.a b.bits.length B2.c, .slice D2.a b.data.length D2.c, .slice E2.a b.ends.length E2.c, .slice X2.a b.words.length X2.c] 63)).alloc (.cells #[.int .i64 0, .int .i64 0, .int .i64 0, .int .i64 0, .slice none 0 0, .slice none 0 0, .slice none 0 0, .slice none 0 0] 63)) = w3 at *
  obtain ⟨t1, t2, t3, t4, t5⟩ := hg w3 rfl
  have B3 := Aside.mk t1
  have HS3 := Aside.mk t2
  have HA := Aside.mk t3
  have HB := Aside.mk t4
  have HZ := Aside.mk t5
  clear t1 t2 t3 t4 t5 hg
  go_loopw [14] (fun iv wr => ∃ i : Nat, i ≤ 2 ∧ iv = .int .i64 (i : Int) ∧ Aside (Below w3.heap.size w3 wr)) (fun iv _ => 2 - (intOf iv).toNat)
  case atStart => exact ⟨0, by omega, rfl, ⟨Below.refl _ _⟩⟩
  case round =>
    obtain ⟨i, hi, rfl, hp⟩ := hrel
    have hix0 := fun w => (@idx_pair (.int .i64 a.k) (.int .i64 a.s) (.int .i64 a.n) (.int .i64 a.m) (.slice B.a a.bits.length B.c) (.slice D.a a.data.length D.c) (.slice E.a a.ends.length E.c) (.slice X.a a.words.length X.c) (.int .i64 a.k) (.int .i64 a.s) (.int .i64 b.n) (.int .i64 b.m) (.slice B2.a b.bits.length B2.c) (.slice D2.a b.data.length D2.c) (.slice E2.a b.ends.length E2.c) (.slice X2.a b.words.length X2.c) w).1
    have hix1 := fun w => (@idx_pair (.int .i64 a.k) (.int .i64 a.s) (.int .i64 a.n) (.int .i64 a.m) (.slice B.a a.bits.length B.c) (.slice D.a a.data.length D.c) (.slice E.a a.ends.length E.c) (.slice X.a a.words.length X.c) (.int .i64 a.k) (.int .i64 a.s) (.int .i64 b.n) (.int .i64 b.m) (.slice B2.a b.bits.length B2.c) (.slice D2.a b.data.length D2.c) (.slice E2.a b.ends.length E2.c) (.slice X2.a b.words.length X2.c) w).2
    obtain rfl | rfl | rfl : i = 0 ∨ i = 1 ∨ i = 2 := by omega
    · go_wp2_with (go_at_call 82; refine (hca.out _ (below_chain B3.out (hp.out.alloc hp.out.size _))).mono ?_; rintro e w5 ⟨rfl, hb5⟩; have H5 := Aside.mk (below_chain (hp.out.alloc hp.out.size _) hb5); clear hb5)
      exact ⟨⟨1, by omega, by simp, H5⟩, by simp [intOf]⟩
    · go_wp2_with (go_at_call 82; refine (hcb.out _ (below_chain B3.out (hp.out.alloc hp.out.size _))).mono ?_; rintro e w5 ⟨rfl, hb5⟩; have H5 := Aside.mk (below_chain (hp.out.alloc hp.out.size _) hb5); clear hb5)
      exact ⟨⟨2, by omega, by simp, H5⟩, by simp [intOf]⟩
    · clear hix0 hix1
      have hWR := Aside.mk (below_chain B3.out hp.out)
      replace HA := Aside.mk ((hp.out.block _ (lt_of_blk HA.out)).trans HA.out)
      replace HB := Aside.mk ((hp.out.block _ (lt_of_blk HB.out)).trans HB.out)
      replace HZ := Aside.mk ((hp.out.block _ (lt_of_blk HZ.out)).trans HZ.out)
      have HSR := Aside.mk (Nat.le_trans (Nat.le_of_eq HS3.out.symm) hp.out.size)
      clear hp
      obtain ⟨c0, c1, c2, c3, c4, c5, c6, c7⟩ := box8 HA.out
      obtain ⟨d0, d1, d2, d3, d4, d5, d6, d7⟩ := box8 HB.out
      go_wp2_with fail
      refine (new_BS a.k a.s wr HO.out).mono ?_
      rintro e wN ⟨bl, rfl, hbs, hbN⟩
      have HN := Aside.mk hbN
      replace HA := Aside.mk ((hbN.block _ (lt_of_blk HA.out)).trans HA.out)
      replace HB := Aside.mk ((hbN.block _ (lt_of_blk HB.out)).trans HB.out)
      replace HZ := Aside.mk ((hbN.block _ (lt_of_blk HZ.out)).trans HZ.out)
      have HC1 := Aside.mk (hapA.out wN bl wr.heap.size hWR.out.size (below_chain hWR.out hbN) hbs)
      clear hbs hbN c0 c1 c2 c3 c4 c5 c6 c7 d0 d1 d2 d3 d4 d5 d6 d7
      obtain ⟨c0, c1, c2, c3, c4, c5, c6, c7⟩ := box8 HA.out
      go_wp2_with fail
      refine HC1.out.mono ?_
      rintro e w6 ⟨rfl, hbs6, hk6⟩
      replace HB := Aside.mk ((hk6.block _ (lt_of_blk HB.out) (by have := HSR.out; omega)).trans HB.out)
      replace HZ := Aside.mk ((hk6.block _ (lt_of_blk HZ.out) (by have := HSR.out; omega)).trans HZ.out)
      have HN6 := Aside.mk (HN.out.trans (hk6.to_below HN.out.size (fun _ h => h)))
      have HC2 := Aside.mk (hapB.out w6 bl wr.heap.size hWR.out.size (below_chain hWR.out HN6.out) (hbs6.mono (fun b hb _ => by have := HN.out.size; omega)))
      clear hbs6 hk6 c0 c1 c2 c3 c4 c5 c6 c7
      obtain ⟨d0, d1, d2, d3, d4, d5, d6, d7⟩ := box8 HB.out
      go_wp2_with fail
      refine HC2.out.mono ?_
      rintro e w7 ⟨rfl, hbs7, hk7⟩
      replace HZ := Aside.mk ((hk7.block _ (lt_of_blk HZ.out) (by have := HSR.out; omega)).trans HZ.out)
      have HN7 := Aside.mk (HN6.out.trans (hk7.to_below HN6.out.size (fun _ h => h)))
      have HCOL := Aside.mk (column_BS _ bl a.k a.s J2 HSM.out.1 HSM.out.2.1 HSM.out.2.2.1 HSM.out.2.2.2.1 HSM.out.2.2.2.2 w7 hbs7)
      clear hbs7 hk7 d0 d1 d2 d3 d4 d5 d6 d7
      go_wp2_with (go_at_call 34; refine HCOL.out.mono ?_; rintro e w4 ⟨B', D', E', X', vals, rfl, hoc, hb4⟩; have HOC := Aside.mk hoc; have HB4 := Aside.mk hb4; have hr4 := (hb4.block _ (lt_of_blk HZ.out)).trans HZ.out; obtain ⟨r0, r1, r2, r3, r4, r5, r6, r7⟩ := box8 hr4; have f0 := frozen_blk (k := 0) hr4; have f1 := frozen_blk (k := 1) hr4; have f2 := frozen_blk (k := 2) hr4; have f3 := frozen_blk (k := 3) hr4; have f4 := frozen_blk (k := 4) hr4; have f5 := frozen_blk (k := 5) hr4; have f6 := frozen_blk (k := 6) hr4; have f7 := frozen_blk (k := 7) hr4; have HR4 := Aside.mk hr4; clear hoc hb4 hr4; dsimp only [colV, CS.col])
      refine bodyPost_ret (v := .tuple #[.agg #[.int .i64 a.k, .int .i64 a.s, .int .i64 (J2.nulls.length : Int), .int .i64 (J2.nulls.length : Int), .slice B'.a (mof J2.nulls).length B'.c, .slice D'.a J2.data.length D'.c, .slice E'.a J2.ends.length E'.c, .slice X'.a J2.words.length X'.c], .int .i64 0]) (by simp [results, Tryz.results68, go_sem, r0, r1, r2, r3, r4, r5, r6, r7]) rfl ?_
      have hsz := HSR.out
      have K8 : Kept (fun b => b = w.heap.size + 1 + 1) w4 _ := kept8 w4 (w.heap.size + 1 + 1) (.int .i64 a.k) (.int .i64 a.s) (.int .i64 (J2.nulls.length : Int)) (.int .i64 (J2.nulls.length : Int)) (.slice B'.a (mof J2.nulls).length B'.c) (.slice D'.a J2.data.length D'.c) (.slice E'.a J2.ends.length E'.c) (.slice X'.a J2.words.length X'.c)
      have h7 := HN7.out.size
      refine ⟨B', D', E', X', vals, rfl, (HOC.out.kept K8 (fun b h => by omega)).mono (by omega), ?_⟩
      have BF := (below_chain hWR.out HN7.out).trans (HB4.out.mono (by omega))
      exact BF.trans (K8.to_below BF.size (fun b e => by omega))
end Go.Proofs.YtmhjjhaipcgbiaaGreat


namespace Go.Proofs.YtmhjjhaipcgbiaaGreat
open Go.RowKit Go.Shelf
set_option linter.unusedVariables false
set_option linter.unusedSimpArgs false
set_option maxRecDepth 100000
set_option maxHeartbeats 4000000
attribute [local go_sem] Oper.semAt_some
def pieceC (c : Col) (f i : Nat) : List V := (valsC c i).drop f
theorem valsC_len (c : Col) (n : Nat) : (valsC c n).length = n := by simp [valsC]
structure CutI (c : Col) (B D E X : SL) (f t : Nat) (bl Bs b0 n0 : Nat) (w w1 : World) (i : Nat) (W : World) : Prop where
  le : i ≤ t
  bs : BS W (fun b => n0 ≤ b ∧ b < b0 ∨ w1.heap.size + 2 ≤ b) bl c.k c.s (CS.app c.k CS.zero (pieceC c f i))
  bel : Below w.heap.size w W
  bf : W.heap[w.heap.size + 1]? = some (.cells #[.int .i64 (f : Int)] 3 (0, 0))
  bt : W.heap[w.heap.size + 1 + 1]? = some (.cells #[.int .i64 (t : Int)] 3 (0, 0))
  bz : W.heap[w.heap.size + 1 + 1 + 1]? = some (.cells #[.int .i64 0, .int .i64 0, .int .i64 0, .int .i64 0, .slice none 0 0, .slice none 0 0, .slice none 0 0, .slice none 0 0] 63 (0, 0))
  b0 : W.heap[b0]? = some (.cells #[.pointer (some ⟨bl, 0, none⟩)] 25 (0, 0))
  bx : W.heap[Bs]? = some (.cells #[.int .i64 c.k, .int .i64 c.s, .int .i64 c.n, .int .i64 c.m, .slice B.a c.bits.length B.c, .slice D.a c.data.length D.c, .slice E.a c.ends.length E.c, .slice X.a c.words.length X.c] 63 (0, 0))
structure CutL (n0 b0 Bs : Nat) (w w1 : World) : Prop where
  h0 : w.heap.size + 4 ≤ n0
  h1 : n0 ≤ b0
  h2 : b0 < Bs
  h3 : Bs < w1.heap.size
theorem CutI.moved {c : Col} {B D E X : SL} {f t bl Bs b0 n0 : Nat} {w w1 A A' : World} {i : Nat} (hl : CutL n0 b0 Bs w w1) (h : CutI c B D E X f t bl Bs b0 n0 w w1 i A) (hk : Kept (fun k => k = w1.heap.size ∨ k = w1.heap.size + 1) A A') : CutI c B D E X f t bl Bs b0 n0 w w1 i A' := by
  obtain ⟨l0, l1, l2, l3⟩ := hl
  exact ⟨h.le, h.bs.kept hk (fun b hb _ e => by omega), h.bel.trans (hk.to_below h.bel.size (fun b e => by omega)), (hk.block _ (lt_of_blk h.bf) (by omega)).trans h.bf, (hk.block _ (lt_of_blk h.bt) (by omega)).trans h.bt, (hk.block _ (lt_of_blk h.bz) (by omega)).trans h.bz,
    (hk.block _ (lt_of_blk h.b0) (by omega)).trans h.b0, (hk.block _ (lt_of_blk h.bx) (by omega)).trans h.bx⟩
theorem below_four (w : World) (o1 o2 o3 o4 : Obj) : Below w.heap.size w ((((w.alloc o1).alloc o2).alloc o3).alloc o4) ∧ ((((w.alloc o1).alloc o2).alloc o3).alloc o4).heap.size = w.heap.size + 4 ∧
    ((((w.alloc o1).alloc o2).alloc o3).alloc o4).heap[w.heap.size]? = some o1 ∧ ((((w.alloc o1).alloc o2).alloc o3).alloc o4).heap[w.heap.size + 1]? = some o2 ∧ ((((w.alloc o1).alloc o2).alloc o3).alloc o4).heap[w.heap.size + 1 + 1]? = some o3 ∧ ((((w.alloc o1).alloc o2).alloc o3).alloc o4).heap[w.heap.size + 1 + 1 + 1]? = some o4 := by
  obtain ⟨h1, h2, h3, h4, h5⟩ := below_three w o1 o2 o3
  refine ⟨h1.alloc (by omega) _, by rw [World.size_alloc, h2], ?_, ?_, ?_, ?_⟩
  · exact (Below.heap_alloc _ _ _ (by omega)).trans h3
  · exact (Below.heap_alloc _ _ _ (by omega)).trans h4
  · exact (Below.heap_alloc _ _ _ (by omega)).trans h5
  · have := World.alloc_heap_new (((w.alloc o1).alloc o2).alloc o3) o4
    rwa [h2] at this
end Go.Proofs.YtmhjjhaipcgbiaaGreat


namespace Go.Proofs.YtmhjjhaipcgbiaaGreat
open Go.RowKit
set_option linter.unusedVariables false
set_option linter.unusedSimpArgs false
set_option maxRecDepth 100000
set_option maxHeartbeats 4000000
def LayIn (k s : Int) (N : Nat) (l : List V) (i : Nat) (nv : Value) (w wr : World) : Prop := ∃ dv ev wv vals, LX w wr k s N (CS.of k (l.take i)) nv dv ev wv vals
def nrm (v : V) : V := bif v.null then ⟨true, 0, []⟩ else v
theorem nrm_text (v : V) : (nrm v).text.length ≤ v.text.length := by cases v with | mk n b t => cases n <;> simp [nrm]
theorem nrm_wf {v : V} (h : IsBytes v.text ∧ v.bits < 18446744073709551616) : IsBytes (nrm v).text ∧ (nrm v).bits < 18446744073709551616 := by
  cases v with
  | mk n b t =>
    cases n
    · exact h
    · exact ⟨fun x hx => (by cases hx), by simp [nrm]⟩
theorem nrm_id {k s : Int} {v : V} (h : vOK k s v) : nrm v = v := by
  cases v with
  | mk n b t =>
    cases n
    · rfl
    · obtain ⟨h1, h2⟩ := h.2.2.1 rfl
      simp only at h1 h2
      subst h1 h2
      rfl
theorem nrm_map {k s : Int} {l : List V} (h : ∀ v ∈ l, vOK k s v) : l.map nrm = l := by
  conv => rhs; rw [← List.map_id l]
  exact List.map_congr_left (fun v hv => nrm_id (h v hv))
theorem nrm_few {l : List V} (h : Few l) : Few (l.map nrm) := ⟨by simpa using h.1, fun v hv => by
  obtain ⟨u, hu, rfl⟩ := List.mem_map.1 hv
  exact Nat.le_trans (nrm_text u) (h.2 u hu)⟩
theorem room_wf {k : Int} {l : List V} (hf : Few l) (hl : ∀ v ∈ l, IsBytes v.text ∧ v.bits < 18446744073709551616) {i : Nat} (hi : i < l.length) : Room (CS.of k (l.take i)) l[i] := by
  have hm := List.getElem_mem hi
  obtain ⟨h1, h2, h3, h4⟩ := of_sizes k (l.take i) (fun v hv => hf.2 v (List.mem_of_mem_take hv))
  have h5 := hf.2 _ hm
  have h6 := hf.1
  rw [List.length_take] at h1 h2 h3 h4
  exact ⟨by omega, by omega, by omega, by omega, (hl _ hm).1, (hl _ hm).2⟩
theorem lay_next {k s : Int} {N : Nat} {l : List V} {i : Nat} {nv dv ev wv : Value} {vals : List Value} {w W : World} {c c' : CS} {v : V} (hn : CS.of k (l.take (i + 1)) = c.add k v) (e : c.add k v = c') (h : LX w W k s N c' nv dv ev wv vals) : LayIn k s N l (i + 1) nv w W := ⟨dv, ev, wv, vals, by rw [hn, e]; exact h⟩
theorem lay_start (w : World) (k s : Int) (n : Nat) : LX w ((((w.alloc (.cells #[.int .i64 k, .int .i64 s] 23)).alloc (.cells #[.int .i64 0, .int .i64 0, .int .i64 0, .int .i64 0, .slice none 0 0, .slice none 0 0, .slice none 0 0, .slice none 0 0] 63)).alloc (.cells #[.int .i64 k, .int .i64 s, .int .i64 (n : Int), .int .i64 0, .slice none 0 0, .slice none 0 0, .slice none 0 0, .slice none 0 0] 63)).alloc (.cells #[.slice none 0 0] 148)) k s n CS.zero (.slice none 0 0) (.slice none 0 0) (.slice none 0 0) (.slice none 0 0) [] := by
  obtain ⟨h1, h2, h3, h4, h5, h6⟩ := below_four w (.cells #[.int .i64 k, .int .i64 s] 23 (0, 0)) (.cells #[.int .i64 0, .int .i64 0, .int .i64 0, .int .i64 0, .slice none 0 0, .slice none 0 0, .slice none 0 0, .slice none 0 0] 63 (0, 0)) (.cells #[.int .i64 k, .int .i64 s, .int .i64 (n : Int), .int .i64 0, .slice none 0 0, .slice none 0 0, .slice none 0 0, .slice none 0 0] 63 (0, 0)) (.cells #[.slice none 0 0] 148 (0, 0))
  exact ⟨h3, h4, h5, ⟨h6, by omega, Own.nil _ _ _ _, rfl, (fun j t hj _ => absurd hj (Nat.not_lt_zero _)), (fun j j' _ _ _ hj => absurd hj (Nat.not_lt_zero _)), (fun t ht => (by cases ht))⟩, Own.nil _ _ _ _, Own.nil _ _ _ _, Own.nil _ _ _ _, fun v hv => (by cases hv), h1⟩
theorem lay_end {w wr w5 : World} {k s : Int} {n : Nat} {c : CS} {nv : Value} {da ea wa ma : Option Addr} {dc ec wc mc : Nat} {vals : List Value} (hL : LX w wr k s n c nv (.slice da c.data.length dc) (.slice ea c.ends.length ec) (.slice wa c.words.length wc) vals) (h5 : LX w w5 k s n c nv (.slice da c.data.length dc) (.slice ea c.ends.length ec) (.slice wa c.words.length wc) vals)
    (ho : Own w5 wr.heap.size 5 1 (.slice ma (mof c.nulls).length mc) (mof c.nulls).length ((mof c.nulls).map (.int .u8))) (hb : Below wr.heap.size wr w5) (x : Int) :
    OwnC (((((((((((w5.setCell ⟨w.heap.size + 1 + 1, 3, none⟩ (.int .i64 (c.nulls.length : Int))).setCell ⟨w.heap.size + 1 + 1, 4, none⟩ (.slice ma (mof c.nulls).length mc)).setCell ⟨w.heap.size + 1 + 1, 7, none⟩ (.slice wa c.words.length wc)).setCell ⟨w.heap.size + 1, 0, none⟩ (.int .i64 k)).setCell ⟨w.heap.size + 1, 1, none⟩ (.int .i64 s)).setCell ⟨w.heap.size + 1, 2, none⟩ (.int .i64 x)).setCell ⟨w.heap.size + 1, 3, none⟩ (.int .i64 (c.nulls.length : Int))).setCell ⟨w.heap.size + 1, 4, none⟩ (.slice ma (mof c.nulls).length mc)).setCell ⟨w.heap.size + 1, 5, none⟩ (.slice da c.data.length dc)).setCell ⟨w.heap.size + 1, 6, none⟩ (.slice ea c.ends.length ec)).setCell ⟨w.heap.size + 1, 7, none⟩ (.slice wa c.words.length wc)) w.heap.size (c.col k s) ⟨ma, mc⟩ ⟨da, dc⟩ ⟨ea, ec⟩ ⟨wa, wc⟩ vals ∧
    Below w.heap.size w (((((((((((w5.setCell ⟨w.heap.size + 1 + 1, 3, none⟩ (.int .i64 (c.nulls.length : Int))).setCell ⟨w.heap.size + 1 + 1, 4, none⟩ (.slice ma (mof c.nulls).length mc)).setCell ⟨w.heap.size + 1 + 1, 7, none⟩ (.slice wa c.words.length wc)).setCell ⟨w.heap.size + 1, 0, none⟩ (.int .i64 k)).setCell ⟨w.heap.size + 1, 1, none⟩ (.int .i64 s)).setCell ⟨w.heap.size + 1, 2, none⟩ (.int .i64 x)).setCell ⟨w.heap.size + 1, 3, none⟩ (.int .i64 (c.nulls.length : Int))).setCell ⟨w.heap.size + 1, 4, none⟩ (.slice ma (mof c.nulls).length mc)).setCell ⟨w.heap.size + 1, 5, none⟩ (.slice da c.data.length dc)).setCell ⟨w.heap.size + 1, 6, none⟩ (.slice ea c.ends.length ec)).setCell ⟨w.heap.size + 1, 7, none⟩ (.slice wa c.words.length wc)) := by
  have K : Kept (fun b => b = w.heap.size + 1 + 1 ∨ b = w.heap.size + 1) w5 (((((((((((w5.setCell ⟨w.heap.size + 1 + 1, 3, none⟩ (.int .i64 (c.nulls.length : Int))).setCell ⟨w.heap.size + 1 + 1, 4, none⟩ (.slice ma (mof c.nulls).length mc)).setCell ⟨w.heap.size + 1 + 1, 7, none⟩ (.slice wa c.words.length wc)).setCell ⟨w.heap.size + 1, 0, none⟩ (.int .i64 k)).setCell ⟨w.heap.size + 1, 1, none⟩ (.int .i64 s)).setCell ⟨w.heap.size + 1, 2, none⟩ (.int .i64 x)).setCell ⟨w.heap.size + 1, 3, none⟩ (.int .i64 (c.nulls.length : Int))).setCell ⟨w.heap.size + 1, 4, none⟩ (.slice ma (mof c.nulls).length mc)).setCell ⟨w.heap.size + 1, 5, none⟩ (.slice da c.data.length dc)).setCell ⟨w.heap.size + 1, 6, none⟩ (.slice ea c.ends.length ec)).setCell ⟨w.heap.size + 1, 7, none⟩ (.slice wa c.words.length wc)) := by
    refine Kept.trans ?_ (kept8 _ (w.heap.size + 1) _ _ _ _ _ _ _ _) (fun b e _ => .inr e)
    refine Kept.trans (Kept.trans (Kept.trans (Kept.refl _ w5) (Kept.setCell _ _ _) (fun b e _ => .inl e)) (Kept.setCell _ _ _) (fun b e _ => .inl e)) (Kept.setCell _ _ _) (fun b e _ => .inl e)
  generalize (((((((((((w5.setCell ⟨w.heap.size + 1 + 1, 3, none⟩ (.int .i64 (c.nulls.length : Int))).setCell ⟨w.heap.size + 1 + 1, 4, none⟩ (.slice ma (mof c.nulls).length mc)).setCell ⟨w.heap.size + 1 + 1, 7, none⟩ (.slice wa c.words.length wc)).setCell ⟨w.heap.size + 1, 0, none⟩ (.int .i64 k)).setCell ⟨w.heap.size + 1, 1, none⟩ (.int .i64 s)).setCell ⟨w.heap.size + 1, 2, none⟩ (.int .i64 x)).setCell ⟨w.heap.size + 1, 3, none⟩ (.int .i64 (c.nulls.length : Int))).setCell ⟨w.heap.size + 1, 4, none⟩ (.slice ma (mof c.nulls).length mc)).setCell ⟨w.heap.size + 1, 5, none⟩ (.slice da c.data.length dc)).setCell ⟨w.heap.size + 1, 6, none⟩ (.slice ea c.ends.length ec)).setCell ⟨w.heap.size + 1, 7, none⟩ (.slice wa c.words.length wc)) = W at *
  have ty : ∀ {F : TypeId}, F ≠ 63 → ∀ b, (b = w.heap.size + 1 + 1 ∨ b = w.heap.size + 1) → b < w5.heap.size → ∀ cs, w5.heap[b]? ≠ some (.cells cs F (0, 0)) := by
    rintro F hF b (rfl | rfl) hb cs hc
    · rw [h5.bc] at hc; cases hc; exact hF rfl
    · rw [h5.br] at hc; cases hc; exact hF rfl
  have hsz := hL.bel.size
  refine ⟨⟨(ho.keptT K (ty (by decide))).mono hsz, h5.data.keptT K (ty (by decide)), h5.ends.keptT K (ty (by decide)), h5.words.row.keptT K (ty (by decide)), h5.words.len, fun j t hj ht => ?_, ⟨fun b e e2 => ?_, fun v hv b e => ⟨fun e2 => ?_, fun e2 => ?_⟩, ?_⟩⟩, h5.bel.trans (K.to_below h5.bel.size (fun b e => by omega))⟩
  · obtain ⟨a, cap, q1, q2⟩ := h5.words.each j t hj ht
    exact ⟨a, cap, q1, q2.keptT K (ty (by decide))⟩
  · rw [← own_len00 ma (mof c.nulls).length mc] at e
    rw [← own_len00 da c.data.length dc] at e2
    have := (ho.lt b e).1
    have := (hL.data.lt b e2).2
    omega
  · rw [← own_len00 ma (mof c.nulls).length mc] at e2
    have := (ho.lt b e2).1
    have := (hL.word_lt v hv b e).1
    omega
  · rw [← own_len00 da c.data.length dc] at e2
    exact hL.apart v hv b e e2
  · rw [hL.words.len]; exact hL.words.sep
set_option maxHeartbeats 40000000 in
theorem lay_gen (k s : Int) (l : List V) (ho : okType k s = true) (hf : Few l) (hl : ∀ v ∈ l, IsBytes v.text ∧ v.bits < 18446744073709551616) (A : SL) (w : World) (h : RdVs w A l) :
    Calls Tryz.prog 25 #[.agg #[.int .i64 k, .int .i64 s], .slice A.a l.length A.c] w (ColBP ((CS.of k (l.map nrm)).col k s) w) := by
  obtain ⟨aa, ac⟩ := A
  have HR := Aside.mk h
  have HF := Aside.mk (nrm_few hf)
  have HLO := Aside.mk (show ∀ v ∈ l.map nrm, IsBytes v.text ∧ v.bits < 18446744073709551616 from fun v hv => by
    obtain ⟨u, hu, rfl⟩ := List.mem_map.1 hv
    exact nrm_wf (hl u hu))
  have HLV := Aside.mk hl
  have HML := Aside.mk (show ∀ {i : Nat} (hi : i < l.length) (hm : i < (l.map nrm).length), (l.map nrm)[i]'hm = nrm l[i] from fun hi hm => by simp)
  have HLL := Aside.mk (show (l.map nrm).length = l.length by simp)
  have HO := Aside.mk ho
  have hfl := hf.1
  clear h hf hl ho
  generalize l.map nrm = m at *
  dsimp only
  go_enter Tryz.func25, Tryz.ntmps25
  go_wp2_with fail
  go_loopw [6, 8] (fun nv iv wr => ∃ i : Nat, i ≤ l.length ∧ iv = .int .i64 (i : Int) ∧ Aside (LayIn k s l.length m i nv w wr)) (fun _ iv _ => l.length - (intOf iv).toNat)
  case atStart =>
    exact ⟨0, by omega, rfl, ⟨.slice none 0 0, .slice none 0 0, .slice none 0 0, [], lay_start w k s l.length⟩⟩
  case round =>
    obtain ⟨i, hi, rfl, hp⟩ := hrel
    obtain ⟨dv, ev, wv, vals, hL⟩ := hp.out
    clear hp
    have c0 := cell_blk (k := 0) hL.bt
    have c1 := cell_blk (k := 1) hL.bt
    simp at c0 c1
    by_cases hlt : i < l.length
    · obtain ⟨g, off, cap, ta, tc, e1, e2, q1, q2, v0, v1, v2, hrt⟩ := HR.out.at hlt
      simp only at e1 e2
      subst e1 e2
      have HRT := Aside.mk hrt
      have hlm : i < m.length := by have := HLL.out; omega
      have HROOM := Aside.mk (show Room (CS.of k (m.take i)) (nrm l[i]) from by rw [← HML.out hlt hlm]; exact room_wf HF.out HLO.out hlm)
      have HNX := Aside.mk (show CS.of k (m.take (i + 1)) = (CS.of k (m.take i)).add k (nrm l[i]) from by rw [← HML.out hlt hlm]; exact of_next k m hlm)
      have HV := Aside.mk (HLV.out _ (List.getElem_mem hlt))
      obtain ⟨s1, s2, s3, s4⟩ := of_sizes k (m.take i) (fun v hv => HF.out.2 v (List.mem_of_mem_take hv))
      rw [List.length_take] at s1 s2 s3 s4
      clear hrt hlm
      generalize l[i] = v at *
      generalize CS.of k (m.take i) = c at *
      obtain ⟨vn, vb, vt⟩ := v
      dsimp only at v0 v1 v2 HRT
      have HV0 := Aside.mk v0
      have HV1 := Aside.mk v1
      have HV2 := Aside.mk v2
      clear v0 v1 v2 c0 c1
      obtain ⟨na, nc, rfl⟩ := hL.nulls.form
      obtain ⟨da, dc, rfl⟩ := hL.data.form
      obtain ⟨ea, ec, rfl⟩ := hL.ends.form
      have HL := Aside.mk hL
      clear hL
      have HNN := Aside.mk HL.out.nulls
      obtain ⟨nn, hnn⟩ : ∃ n, n = c.nulls.length := ⟨_, rfl⟩
      rw [← hnn] at HNN
      rw [← hnn]
      have HN2 := Aside.mk hnn
      have hn8 : nn ≤ 20000 := by omega
      clear hnn
      obtain ⟨en, hen⟩ : ∃ n, n = c.ends.length := ⟨_, rfl⟩
      have HE2 := Aside.mk hen
      have he8 : en ≤ 20000 := by omega
      clear hen
      obtain ⟨dn, hdn⟩ : ∃ n, n = c.data.length := ⟨_, rfl⟩
      have HD2 := Aside.mk hdn
      have hd8 : dn ≤ 98000000 := by omega
      clear hdn
      -- ROUND
      have c0 := cell_blk (k := 0) HL.out.bt
      have c1 := cell_blk (k := 1) HL.out.bt
      simp at c0 c1
      obtain ⟨b0, b1, b2, b3, b4, b5, b6, b7⟩ := box8 HL.out.bc
      have fz := fun k => frozen_blk (k := k) HL.out.bc
      have u0 := (HL.out.bel.cell (p := ⟨g, off + i * 3, none⟩) (World.block_lt_of_cell? _ _ HV0.out)).trans HV0.out
      have u1 := (HL.out.bel.cell (p := ⟨g, off + i * 3 + 1, none⟩) (World.block_lt_of_cell? _ _ HV1.out)).trans HV1.out
      have u2 := (HL.out.bel.cell (p := ⟨g, off + i * 3 + 2, none⟩) (World.block_lt_of_cell? _ _ HV2.out)).trans HV2.out
      have hlc := lt_of_blk HL.out.bc
      have hlb := lt_of_blk HL.out.bt
      have hlg := World.block_lt_of_cell? _ _ u0
      try dsimp only at b5 b6
      rw [← HE2.out] at b6
      rw [← HD2.out] at b5
      by_cases h15 : k = 15
      · subst h15
        cases vn with
        | true =>
          replace HNX := Aside.mk (show CS.of 15 (m.take (i + 1)) = c.add 15 ⟨true, 0, []⟩ from HNX.out)
          go_wp2_with (at_builtin; refine wpList_app2 _ rfl _ _ 140 140 rfl w.heap.size 4 (.bool false) 1 1 Tryz.underlying140 boolinfo rfl _ nn (c.nulls.map .bool) rfl (HNN.out.alloc _) _ 1 [_] rfl (src_one Tryz.underlying140 _ _ _ rfl rfl) (by unfold maxLen; omega) (by omega) (by have := HL.out.bel.size; simp; omega) ?_)
          intro v5 w5 hA
          obtain ⟨na5, nc5, rfl⟩ := hA.own.form
          have H5 := Aside.mk (LX.null HL.out (by rw [← HN2.out]; exact hA))
          clear hA
          clear c0 c1 b0 b1 b2 b3 b4 b5 b6 b7 fz u0 u1 u2 hlc hlb hlg
          have c0 := cell_blk (k := 0) H5.out.bt
          have c1 := cell_blk (k := 1) H5.out.bt
          simp at c0 c1
          obtain ⟨b0, b1, b2, b3, b4, b5, b6, b7⟩ := box8 H5.out.bc
          have fz := fun k => frozen_blk (k := k) H5.out.bc
          have u0 := (H5.out.bel.cell (p := ⟨g, off + i * 3, none⟩) (World.block_lt_of_cell? _ _ HV0.out)).trans HV0.out
          have u1 := (H5.out.bel.cell (p := ⟨g, off + i * 3 + 1, none⟩) (World.block_lt_of_cell? _ _ HV1.out)).trans HV1.out
          have u2 := (H5.out.bel.cell (p := ⟨g, off + i * 3 + 2, none⟩) (World.block_lt_of_cell? _ _ HV2.out)).trans HV2.out
          have hlc := lt_of_blk H5.out.bc
          have hlb := lt_of_blk H5.out.bt
          have hlg := World.block_lt_of_cell? _ _ u0
          try dsimp only at b5 b6
          rw [← HE2.out] at b6
          rw [← HD2.out] at b5
          have HEN := Aside.mk H5.out.ends
          dsimp only at HEN
          rw [← HE2.out] at HEN
          go_wp2_with (at_builtin; refine wpList_app2 _ rfl _ _ 61 61 rfl w.heap.size 3 (.int .i64 0) 1 8 Tryz.underlying61 intinfo2 rfl _ en (c.ends.map (.int .i64)) rfl (HEN.out.alloc _) _ 1 [_] rfl (src_one Tryz.underlying61 _ _ _ rfl rfl) (by unfold maxLen; omega) (by omega) (by have := H5.out.bel.size; simp; omega) ?_)
          intro v6 w6 hA
          obtain ⟨ea6, ec6, rfl⟩ := hA.own.form
          have H6 := Aside.mk (LX.end_ H5.out (by dsimp only; rw [← HE2.out]; exact hA))
          have g6 := ((show Kept (fun b => (Value.slice ea en ec).ownBlock = some b) w5 w6 from (Kept.of_below (below_new w5 _)).trans ((Kept.of_grown hA.grown).mono (fun b e _ => e.symm)) (fun _ e _ => e)).block _ hlc (fun e => HEN.out.blk_ne H5.out.bc (by decide) e)).trans H5.out.bc
          clear hA b0 b1 b2 b3 b4 b5 b6 b7 fz
          obtain ⟨b0, b1, b2, b3, b4, b5, b6, b7⟩ := box8 g6
          have fz := fun k => frozen_blk (k := k) g6
          clear g6
          go_wp2_with fail
          exact ⟨⟨i + 1, by omega, by simp, ⟨lay_next HNX.out (by simp [CS.add, HD2.out]) H6.out⟩⟩, by simp [intOf]; omega⟩
        | false =>
          replace HNX := Aside.mk (show CS.of 15 (m.take (i + 1)) = c.add 15 ⟨false, vb, vt⟩ from HNX.out)
          replace HROOM := Aside.mk (show Room c ⟨false, vb, vt⟩ from HROOM.out)
          have hvt := HV.out.1
          have hr1 := HROOM.out.1
          dsimp only at hr1
          go_wp2_with (at_builtin; refine wpList_app2 _ rfl _ _ 140 140 rfl w.heap.size 4 (.bool false) 1 1 Tryz.underlying140 boolinfo rfl _ nn (c.nulls.map .bool) rfl (HNN.out.alloc _) _ 1 [_] rfl (src_one Tryz.underlying140 _ _ _ rfl rfl) (by unfold maxLen; omega) (by omega) (by have := HL.out.bel.size; simp; omega) ?_)
          intro v5 w5 hA
          obtain ⟨na5, nc5, rfl⟩ := hA.own.form
          have H5 := Aside.mk (LX.null HL.out (by rw [← HN2.out]; exact hA))
          clear hA
          clear c0 c1 b0 b1 b2 b3 b4 b5 b6 b7 fz u0 u1 u2 hlc hlb hlg
          have c0 := cell_blk (k := 0) H5.out.bt
          have c1 := cell_blk (k := 1) H5.out.bt
          simp at c0 c1
          obtain ⟨b0, b1, b2, b3, b4, b5, b6, b7⟩ := box8 H5.out.bc
          have fz := fun k => frozen_blk (k := k) H5.out.bc
          have u0 := (H5.out.bel.cell (p := ⟨g, off + i * 3, none⟩) (World.block_lt_of_cell? _ _ HV0.out)).trans HV0.out
          have u1 := (H5.out.bel.cell (p := ⟨g, off + i * 3 + 1, none⟩) (World.block_lt_of_cell? _ _ HV1.out)).trans HV1.out
          have u2 := (H5.out.bel.cell (p := ⟨g, off + i * 3 + 2, none⟩) (World.block_lt_of_cell? _ _ HV2.out)).trans HV2.out
          have hlc := lt_of_blk H5.out.bc
          have hlb := lt_of_blk H5.out.bt
          have hlg := World.block_lt_of_cell? _ _ u0
          try dsimp only at b5 b6
          rw [← HE2.out] at b6
          rw [← HD2.out] at b5
          have HDA := Aside.mk H5.out.data
          dsimp only at HDA
          rw [← HD2.out] at HDA
          have hrd5 := HRT.out.below H5.out.bel
          have HSR := Aside.mk ((hrd5.below (below_drewN w5 _ 1)).src (P := Tryz.prog) Tryz.underlying43 (one_map (fun x : Int => Value.int .u8 x) (fun _ => rfl) vt))
          clear hrd5
          generalize hvl : vt.length = vl at *
          have HVL := Aside.mk hvl
          clear hvl
          go_wp2_with fail
          go_region_law ((refine step_app2 (P := Tryz.prog) w5.drew (.tmp 46) (.tmp 51) 43 43 (by rfl) (by rfl) w.heap.size 5 (.int .u8 0) 1 1 Tryz.underlying43 u8info (by rfl) (.slice da dn dc) dn (c.data.map (.int .u8)) (by rfl) (HDA.out.drewN 1) (.slice ta vl tc) vl (vt.map (.int .u8)) (by rfl) HSR.out (by unfold maxLen; omega) (by omega) (by have := H5.out.bel.size; exact this) ?_; intro v7 w7 hA; obtain ⟨da7, dc7, rfl⟩ := hA.own.form; have K7 := Aside.mk (show Kept (fun b => (Value.slice da dn dc).ownBlock = some b) w5 w7 from (Kept.of_below (below_drewN w5 _ 1)).trans ((Kept.of_grown hA.grown).mono (fun b e _ => e.symm)) (fun _ e _ => e)); have g7 := (K7.out.block _ hlc (fun e => HDA.out.blk_ne H5.out.bc (by decide) e)).trans H5.out.bc; clear b0 b1 b2 b3 b4 b5 b6 b7 fz; obtain ⟨b0, b1, b2, b3, b4, b5, b6, b7⟩ := box8 g7; have fz := fun k => frozen_blk (k := k) g7; have HA7 := Aside.mk hA; clear hA g7))
          all_goals
            have HE7 := Aside.mk H5.out.ends
            have H8 := Aside.mk (LX.dat (data' := c.data ++ vt) H5.out (by rw [← HD2.out]; exact K7.out) (by rw [List.length_append, HVL.out, ← HD2.out, List.map_append]; exact HA7.out.own) (by rw [← HD2.out]; exact HA7.out.blk))
            clear c0 c1 b0 b1 b2 b3 b4 b5 b6 b7 fz u0 u1 u2 hlb hlg hlc
            go_upto_region 12 with fail
            generalize w7.setCell ⟨w.heap.size + 1 + 1, 5, none⟩ (.slice da7 (dn + vl) dc7) = w8 at *
            obtain ⟨b0, b1, b2, b3, b4, b5, b6, b7⟩ := box8 H8.out.bc
            have fz := fun k => frozen_blk (k := k) H8.out.bc
            have hlc := lt_of_blk H8.out.bc
            rw [← HE2.out] at b6
            have HEN := Aside.mk H8.out.ends
            dsimp only at HEN
            rw [← HE2.out] at HEN
            go_wp2_with (at_builtin; refine wpList_app2 _ rfl _ _ 61 61 rfl w.heap.size 3 (.int .i64 0) 1 8 Tryz.underlying61 intinfo2 rfl _ en (c.ends.map (.int .i64)) rfl (HEN.out.alloc _) _ 1 [_] rfl (src_one Tryz.underlying61 _ _ _ rfl rfl) (by unfold maxLen; omega) (by omega) (by have := H8.out.bel.size; simp; omega) ?_)
            intro v6 w6 hA
            obtain ⟨ea6, ec6, rfl⟩ := hA.own.form
            have H6 := Aside.mk (LX.end_ H8.out (by dsimp only; rw [← HE2.out]; exact hA))
            have g6 := ((show Kept (fun b => (Value.slice ea en ec).ownBlock = some b) w8 w6 from (Kept.of_below (below_new w8 _)).trans ((Kept.of_grown hA.grown).mono (fun b e _ => e.symm)) (fun _ e _ => e)).block _ hlc (fun e => HEN.out.blk_ne H8.out.bc (by decide) e)).trans H8.out.bc
            clear hA b0 b1 b2 b3 b4 b5 b6 b7 fz
            obtain ⟨b0, b1, b2, b3, b4, b5, b6, b7⟩ := box8 g6
            have fz := fun k => frozen_blk (k := k) g6
            clear g6
            go_wp2_with fail
            exact ⟨⟨i + 1, by omega, by simp, ⟨lay_next HNX.out (by simp [CS.add, HD2.out, ← HVL.out]) H6.out⟩⟩, by simp [intOf]; omega⟩
      · have k15 : (k == 15) = false := by simpa using h15
        obtain ⟨Wn, hW, _, hW8⟩ := width_pos HO.out h15
        have HWD := Aside.mk (fun W : World => show Calls Tryz.prog 78 #[.int .i64 k] W fun e w' => e = .returned (.int .i64 (Wn : Int)) ∧ W = w' from by have := r18width_any k W; rwa [hW] at this)
        have HW2 := Aside.mk hW
        clear hW
        have hvb := HV.out.2
        dsimp only at hvb
        by_cases h16 : k = 16
        · subst h16
          have hw4 : Wn = 4 := by have := HW2.out; simp [widthOf] at this; omega
          have HW4 := Aside.mk hw4
          clear hw4
          cases vn with
          | true =>
            replace HNX := Aside.mk (show CS.of 16 (m.take (i + 1)) = c.add 16 ⟨true, 0, []⟩ from HNX.out)
            go_wp2_with (at_builtin; refine wpList_app2 _ rfl _ _ 140 140 rfl w.heap.size 4 (.bool false) 1 1 Tryz.underlying140 boolinfo rfl _ nn (c.nulls.map .bool) rfl (HNN.out.alloc _) _ 1 [_] rfl (src_one Tryz.underlying140 _ _ _ rfl rfl) (by unfold maxLen; omega) (by omega) (by have := HL.out.bel.size; simp; omega) ?_)
            intro v5 w5 hA
            obtain ⟨na5, nc5, rfl⟩ := hA.own.form
            have H5 := Aside.mk (LX.null HL.out (by rw [← HN2.out]; exact hA))
            clear hA
            clear c0 c1 b0 b1 b2 b3 b4 b5 b6 b7 fz u0 u1 u2 hlc hlb hlg
            have c0 := cell_blk (k := 0) H5.out.bt
            have c1 := cell_blk (k := 1) H5.out.bt
            simp at c0 c1
            obtain ⟨b0, b1, b2, b3, b4, b5, b6, b7⟩ := box8 H5.out.bc
            have fz := fun k => frozen_blk (k := k) H5.out.bc
            have u0 := (H5.out.bel.cell (p := ⟨g, off + i * 3, none⟩) (World.block_lt_of_cell? _ _ HV0.out)).trans HV0.out
            have u1 := (H5.out.bel.cell (p := ⟨g, off + i * 3 + 1, none⟩) (World.block_lt_of_cell? _ _ HV1.out)).trans HV1.out
            have u2 := (H5.out.bel.cell (p := ⟨g, off + i * 3 + 2, none⟩) (World.block_lt_of_cell? _ _ HV2.out)).trans HV2.out
            have hlc := lt_of_blk H5.out.bc
            have hlb := lt_of_blk H5.out.bt
            have hlg := World.block_lt_of_cell? _ _ u0
            try dsimp only at b5 b6
            rw [← HE2.out] at b6
            rw [← HD2.out] at b5
            go_wp2_with fail
            have HDA := Aside.mk H5.out.data
            dsimp only at HDA
            have HPUT := Aside.mk (put18_any w.heap.size c.data (0) Wn (by decide) hW8 (by omega) da dc w5.drew (HDA.out.drewN 1) (H5.out.bel.size))
            rw [← HD2.out] at HPUT HDA
            go_region_law (first
              | (refine step_call (P := Tryz.prog) w5.drew (by rfl) 78 [.tmp 91] _ (by rfl) [.int .i64 16] (by rfl) (fun _ _ => rfl) (HWD.out _) ?_; rintro e wn ⟨rfl, rfl⟩; refine ⟨_, rfl, ?_⟩)
              | (refine step_call (P := Tryz.prog) w5.drew (by rfl) 77 [.tmp 88, .tmp 89, .tmp 92] _ (by rfl) [.slice da dn dc, .int .u64 ((0 : Nat) : Int), .int .i64 (Wn : Int)] (by rfl) (fun _ _ => rfl) HPUT.out ?_; rintro e w7 ⟨da7, dc7, rfl, ho, hk, hb⟩; rw [← HD2.out] at ho hk hb ⊢; have K7 := Aside.mk (show Kept (fun b => (Value.slice da dn dc).ownBlock = some b) w5 w7 from (Kept.of_below (below_drewN w5 _ 1)).trans hk (fun _ e _ => e)); have g7 := (K7.out.block _ hlc (fun e => HDA.out.blk_ne H5.out.bc (by decide) e)).trans H5.out.bc; clear b0 b1 b2 b3 b4 b5 b6 b7 fz; obtain ⟨b0, b1, b2, b3, b4, b5, b6, b7⟩ := box8 g7; have fz := fun k => frozen_blk (k := k) g7; have HA7 := Aside.mk (And.intro ho hb); clear ho hk hb g7; refine ⟨_, rfl, ?_⟩))
            all_goals
              have H8 := Aside.mk (LX.dat (data' := c.data ++ lows (0) Wn) H5.out (by rw [← HD2.out]; exact K7.out) (by rw [List.length_append, lows_len, ← HD2.out]; exact HA7.out.1) (by rw [← HD2.out]; exact HA7.out.2))
              go_wp2_with fail
              exact ⟨⟨i + 1, by omega, by simp, ⟨lay_next HNX.out (by rw [HW4.out]; simp [CS.add]) H8.out⟩⟩, by simp [intOf]; omega⟩
          | false =>
            replace HNX := Aside.mk (show CS.of 16 (m.take (i + 1)) = c.add 16 ⟨false, vb, vt⟩ from HNX.out)
            replace HROOM := Aside.mk (show Room c ⟨false, vb, vt⟩ from HROOM.out)
            have hvt := HV.out.1
            dsimp only at hvt
            have hr1 := HROOM.out.1
            dsimp only at hr1
            go_wp2_with (at_builtin; refine wpList_app2 _ rfl _ _ 140 140 rfl w.heap.size 4 (.bool false) 1 1 Tryz.underlying140 boolinfo rfl _ nn (c.nulls.map .bool) rfl (HNN.out.alloc _) _ 1 [_] rfl (src_one Tryz.underlying140 _ _ _ rfl rfl) (by unfold maxLen; omega) (by omega) (by have := HL.out.bel.size; simp; omega) ?_)
            intro v5 w5 hA
            obtain ⟨na5, nc5, rfl⟩ := hA.own.form
            have H5 := Aside.mk (LX.null HL.out (by rw [← HN2.out]; exact hA))
            clear hA
            clear c0 c1 b0 b1 b2 b3 b4 b5 b6 b7 fz u0 u1 u2 hlc hlb hlg
            have c0 := cell_blk (k := 0) H5.out.bt
            have c1 := cell_blk (k := 1) H5.out.bt
            simp at c0 c1
            obtain ⟨b0, b1, b2, b3, b4, b5, b6, b7⟩ := box8 H5.out.bc
            have fz := fun k => frozen_blk (k := k) H5.out.bc
            have u0 := (H5.out.bel.cell (p := ⟨g, off + i * 3, none⟩) (World.block_lt_of_cell? _ _ HV0.out)).trans HV0.out
            have u1 := (H5.out.bel.cell (p := ⟨g, off + i * 3 + 1, none⟩) (World.block_lt_of_cell? _ _ HV1.out)).trans HV1.out
            have u2 := (H5.out.bel.cell (p := ⟨g, off + i * 3 + 2, none⟩) (World.block_lt_of_cell? _ _ HV2.out)).trans HV2.out
            have hlc := lt_of_blk H5.out.bc
            have hlb := lt_of_blk H5.out.bt
            have hlg := World.block_lt_of_cell? _ _ u0
            try dsimp only at b5 b6
            rw [← HE2.out] at b6
            rw [← HD2.out] at b5
            have HCO := Aside.mk (code17 w.heap.size (w.heap.size + 1 + 1 + 1) c.words wv vals vt hvt (by omega) (by omega) ta tc w5 H5.out.bel.size H5.out.words (HRT.out.below H5.out.bel))
            have hcq : codeOf c.words vt ≤ 100000000 := Nat.le_trans (codeOf_le _ _) (by omega)
            have hwq := wrap_u64 (codeOf c.words vt) (by omega)
            obtain ⟨q, hq⟩ : ∃ q, q = codeOf c.words vt := ⟨_, rfl⟩
            unfold Code17P at HCO
            rw [← hq] at HCO hcq hwq
            have HQ := Aside.mk hq
            clear hq
            go_upto_region 17 with (go_at_call 76; refine HCO.out.mono ?_; rintro e w6 ⟨rfl, wv6, vals6, hw6, hk6, hv6⟩; have H6 := Aside.mk (LX.word H5.out hw6 hk6 hv6); clear hw6 hk6 hv6 c0 c1 b0 b1 b2 b3 b4 b5 b6 b7 fz u0 u1 u2 hlc hlb hlg; have c0 := cell_blk (k := 0) H6.out.bt; have c1 := cell_blk (k := 1) H6.out.bt; simp at c0 c1; obtain ⟨b0, b1, b2, b3, b4, b5, b6, b7⟩ := box8 H6.out.bc; have fz := fun k => frozen_blk (k := k) H6.out.bc; have u0 := (H6.out.bel.cell (p := ⟨g, off + i * 3, none⟩) (World.block_lt_of_cell? _ _ HV0.out)).trans HV0.out; have hlc := lt_of_blk H6.out.bc)
            try dsimp only at b5 b6
            rw [← HE2.out] at b6
            rw [← HD2.out] at b5
            have HDA := Aside.mk H6.out.data
            dsimp only at HDA
            have HPUT := Aside.mk (put18_any w.heap.size c.data (q) Wn (by omega) hW8 (by omega) da dc w6.drew (HDA.out.drewN 1) (H6.out.bel.size))
            rw [← HD2.out] at HPUT HDA
            go_region_law (first
              | (refine step_call (P := Tryz.prog) w6.drew (by rfl) 78 [.tmp 91] _ (by rfl) [.int .i64 16] (by rfl) (fun _ _ => rfl) (HWD.out _) ?_; rintro e wn ⟨rfl, rfl⟩; refine ⟨_, rfl, ?_⟩)
              | (refine step_call (P := Tryz.prog) w6.drew (by rfl) 77 [.tmp 88, .tmp 89, .tmp 92] _ (by rfl) [.slice da dn dc, .int .u64 ((q : Nat) : Int), .int .i64 (Wn : Int)] (by rfl) (fun _ _ => rfl) HPUT.out ?_; rintro e w7 ⟨da7, dc7, rfl, ho, hk, hb⟩; rw [← HD2.out] at ho hk hb ⊢; have K7 := Aside.mk (show Kept (fun b => (Value.slice da dn dc).ownBlock = some b) w6 w7 from (Kept.of_below (below_drewN w6 _ 1)).trans hk (fun _ e _ => e)); have g7 := (K7.out.block _ hlc (fun e => HDA.out.blk_ne H6.out.bc (by decide) e)).trans H6.out.bc; clear b0 b1 b2 b3 b4 b5 b6 b7 fz; obtain ⟨b0, b1, b2, b3, b4, b5, b6, b7⟩ := box8 g7; have fz := fun k => frozen_blk (k := k) g7; have HA7 := Aside.mk (And.intro ho hb); clear ho hk hb g7; refine ⟨_, rfl, ?_⟩))
            all_goals
              have H8 := Aside.mk (LX.dat (data' := c.data ++ lows (q) Wn) H6.out (by rw [← HD2.out]; exact K7.out) (by rw [List.length_append, lows_len, ← HD2.out]; exact HA7.out.1) (by rw [← HD2.out]; exact HA7.out.2))
              go_wp2_with fail
              exact ⟨⟨i + 1, by omega, by simp, ⟨lay_next HNX.out (by rw [HW4.out, HQ.out]; simp [CS.add]) H8.out⟩⟩, by simp [intOf]; omega⟩
        · have k16 : (k == 16) = false := by simpa using h16
          cases vn with
          | true =>
            replace HNX := Aside.mk (show CS.of k (m.take (i + 1)) = c.add k ⟨true, 0, []⟩ from HNX.out)
            go_wp2_with (at_builtin; refine wpList_app2 _ rfl _ _ 140 140 rfl w.heap.size 4 (.bool false) 1 1 Tryz.underlying140 boolinfo rfl _ nn (c.nulls.map .bool) rfl (HNN.out.alloc _) _ 1 [_] rfl (src_one Tryz.underlying140 _ _ _ rfl rfl) (by unfold maxLen; omega) (by omega) (by have := HL.out.bel.size; simp; omega) ?_)
            intro v5 w5 hA
            obtain ⟨na5, nc5, rfl⟩ := hA.own.form
            have H5 := Aside.mk (LX.null HL.out (by rw [← HN2.out]; exact hA))
            clear hA
            clear c0 c1 b0 b1 b2 b3 b4 b5 b6 b7 fz u0 u1 u2 hlc hlb hlg
            have c0 := cell_blk (k := 0) H5.out.bt
            have c1 := cell_blk (k := 1) H5.out.bt
            simp at c0 c1
            obtain ⟨b0, b1, b2, b3, b4, b5, b6, b7⟩ := box8 H5.out.bc
            have fz := fun k => frozen_blk (k := k) H5.out.bc
            have u0 := (H5.out.bel.cell (p := ⟨g, off + i * 3, none⟩) (World.block_lt_of_cell? _ _ HV0.out)).trans HV0.out
            have u1 := (H5.out.bel.cell (p := ⟨g, off + i * 3 + 1, none⟩) (World.block_lt_of_cell? _ _ HV1.out)).trans HV1.out
            have u2 := (H5.out.bel.cell (p := ⟨g, off + i * 3 + 2, none⟩) (World.block_lt_of_cell? _ _ HV2.out)).trans HV2.out
            have hlc := lt_of_blk H5.out.bc
            have hlb := lt_of_blk H5.out.bt
            have hlg := World.block_lt_of_cell? _ _ u0
            try dsimp only at b5 b6
            rw [← HE2.out] at b6
            rw [← HD2.out] at b5
            go_wp2_with fail
            have HDA := Aside.mk H5.out.data
            dsimp only at HDA
            have HPUT := Aside.mk (put18_any w.heap.size c.data (0) Wn (by decide) hW8 (by omega) da dc w5.drew (HDA.out.drewN 1) (H5.out.bel.size))
            rw [← HD2.out] at HPUT HDA
            go_region_law (first
              | (refine step_call (P := Tryz.prog) w5.drew (by rfl) 78 [.tmp 91] _ (by rfl) [.int .i64 k] (by rfl) (fun _ _ => rfl) (HWD.out _) ?_; rintro e wn ⟨rfl, rfl⟩; refine ⟨_, rfl, ?_⟩)
              | (refine step_call (P := Tryz.prog) w5.drew (by rfl) 77 [.tmp 88, .tmp 89, .tmp 92] _ (by rfl) [.slice da dn dc, .int .u64 ((0 : Nat) : Int), .int .i64 (Wn : Int)] (by rfl) (fun _ _ => rfl) HPUT.out ?_; rintro e w7 ⟨da7, dc7, rfl, ho, hk, hb⟩; rw [← HD2.out] at ho hk hb ⊢; have K7 := Aside.mk (show Kept (fun b => (Value.slice da dn dc).ownBlock = some b) w5 w7 from (Kept.of_below (below_drewN w5 _ 1)).trans hk (fun _ e _ => e)); have g7 := (K7.out.block _ hlc (fun e => HDA.out.blk_ne H5.out.bc (by decide) e)).trans H5.out.bc; clear b0 b1 b2 b3 b4 b5 b6 b7 fz; obtain ⟨b0, b1, b2, b3, b4, b5, b6, b7⟩ := box8 g7; have fz := fun k => frozen_blk (k := k) g7; have HA7 := Aside.mk (And.intro ho hb); clear ho hk hb g7; refine ⟨_, rfl, ?_⟩))
            all_goals
              have H8 := Aside.mk (LX.dat (data' := c.data ++ lows (0) Wn) H5.out (by rw [← HD2.out]; exact K7.out) (by rw [List.length_append, lows_len, ← HD2.out]; exact HA7.out.1) (by rw [← HD2.out]; exact HA7.out.2))
              go_wp2_with fail
              exact ⟨⟨i + 1, by omega, by simp, ⟨lay_next HNX.out (by simp [CS.add, h15, h16, HW2.out]) H8.out⟩⟩, by simp [intOf]; omega⟩
          | false =>
            replace HNX := Aside.mk (show CS.of k (m.take (i + 1)) = c.add k ⟨false, vb, vt⟩ from HNX.out)
            replace HROOM := Aside.mk (show Room c ⟨false, vb, vt⟩ from HROOM.out)
            go_wp2_with (at_builtin; refine wpList_app2 _ rfl _ _ 140 140 rfl w.heap.size 4 (.bool false) 1 1 Tryz.underlying140 boolinfo rfl _ nn (c.nulls.map .bool) rfl (HNN.out.alloc _) _ 1 [_] rfl (src_one Tryz.underlying140 _ _ _ rfl rfl) (by unfold maxLen; omega) (by omega) (by have := HL.out.bel.size; simp; omega) ?_)
            intro v5 w5 hA
            obtain ⟨na5, nc5, rfl⟩ := hA.own.form
            have H5 := Aside.mk (LX.null HL.out (by rw [← HN2.out]; exact hA))
            clear hA
            clear c0 c1 b0 b1 b2 b3 b4 b5 b6 b7 fz u0 u1 u2 hlc hlb hlg
            have c0 := cell_blk (k := 0) H5.out.bt
            have c1 := cell_blk (k := 1) H5.out.bt
            simp at c0 c1
            obtain ⟨b0, b1, b2, b3, b4, b5, b6, b7⟩ := box8 H5.out.bc
            have fz := fun k => frozen_blk (k := k) H5.out.bc
            have u0 := (H5.out.bel.cell (p := ⟨g, off + i * 3, none⟩) (World.block_lt_of_cell? _ _ HV0.out)).trans HV0.out
            have u1 := (H5.out.bel.cell (p := ⟨g, off + i * 3 + 1, none⟩) (World.block_lt_of_cell? _ _ HV1.out)).trans HV1.out
            have u2 := (H5.out.bel.cell (p := ⟨g, off + i * 3 + 2, none⟩) (World.block_lt_of_cell? _ _ HV2.out)).trans HV2.out
            have hlc := lt_of_blk H5.out.bc
            have hlb := lt_of_blk H5.out.bt
            have hlg := World.block_lt_of_cell? _ _ u0
            try dsimp only at b5 b6
            rw [← HE2.out] at b6
            rw [← HD2.out] at b5
            go_wp2_with fail
            have HDA := Aside.mk H5.out.data
            dsimp only at HDA
            have HPUT := Aside.mk (put18_any w.heap.size c.data (vb) Wn (hvb) hW8 (by omega) da dc w5.drew (HDA.out.drewN 1) (H5.out.bel.size))
            rw [← HD2.out] at HPUT HDA
            go_region_law (first
              | (refine step_call (P := Tryz.prog) w5.drew (by rfl) 78 [.tmp 91] _ (by rfl) [.int .i64 k] (by rfl) (fun _ _ => rfl) (HWD.out _) ?_; rintro e wn ⟨rfl, rfl⟩; refine ⟨_, rfl, ?_⟩)
              | (refine step_call (P := Tryz.prog) w5.drew (by rfl) 77 [.tmp 88, .tmp 89, .tmp 92] _ (by rfl) [.slice da dn dc, .int .u64 ((vb : Nat) : Int), .int .i64 (Wn : Int)] (by rfl) (fun _ _ => rfl) HPUT.out ?_; rintro e w7 ⟨da7, dc7, rfl, ho, hk, hb⟩; rw [← HD2.out] at ho hk hb ⊢; have K7 := Aside.mk (show Kept (fun b => (Value.slice da dn dc).ownBlock = some b) w5 w7 from (Kept.of_below (below_drewN w5 _ 1)).trans hk (fun _ e _ => e)); have g7 := (K7.out.block _ hlc (fun e => HDA.out.blk_ne H5.out.bc (by decide) e)).trans H5.out.bc; clear b0 b1 b2 b3 b4 b5 b6 b7 fz; obtain ⟨b0, b1, b2, b3, b4, b5, b6, b7⟩ := box8 g7; have fz := fun k => frozen_blk (k := k) g7; have HA7 := Aside.mk (And.intro ho hb); clear ho hk hb g7; refine ⟨_, rfl, ?_⟩))
            all_goals
              have H8 := Aside.mk (LX.dat (data' := c.data ++ lows (vb) Wn) H5.out (by rw [← HD2.out]; exact K7.out) (by rw [List.length_append, lows_len, ← HD2.out]; exact HA7.out.1) (by rw [← HD2.out]; exact HA7.out.2))
              go_wp2_with fail
              exact ⟨⟨i + 1, by omega, by simp, ⟨lay_next HNX.out (by simp [CS.add, h15, h16, HW2.out]) H8.out⟩⟩, by simp [intOf]; omega⟩
    · obtain rfl : i = l.length := by omega
      rw [← HLL.out, List.take_length] at hL
      rw [HLL.out] at hL
      obtain ⟨s1, s2, s3, s4⟩ := of_sizes k m HF.out.2
      rw [HLL.out] at s1 s2 s3 s4
      have HS2 := Aside.mk s2
      have s5 := Nat.le_of_eq s2
      clear s2
      generalize CS.of k m = c at *
      obtain ⟨na, nc, rfl⟩ := hL.nulls.form
      obtain ⟨da, dc, rfl⟩ := hL.data.form
      obtain ⟨ea, ec, rfl⟩ := hL.ends.form
      obtain ⟨wa, wc, rfl⟩ := hL.words.row.form
      have HL := Aside.mk hL
      have HOF := Aside.mk (of16_any c.nulls (.slice na c.nulls.length nc) wr (by omega) hL.nulls.rd)
      clear hL c0 c1
      go_wp2_with (go_at_call 79; refine HOF.out.mono ?_; rintro e w5 ⟨v5, rfl, ho5, hb5⟩; obtain ⟨ma, mc, rfl⟩ := ho5.form; have H5 := Aside.mk (HL.out.below hb5); have HO5 := Aside.mk ho5; have HB5 := Aside.mk hb5; obtain ⟨b0, b1, b2, b3, b4, b5, b6, b7⟩ := box8 H5.out.bc; obtain ⟨r0, r1, r2, r3, r4, r5, r6, r7⟩ := box8 H5.out.br; have fz := fun k => frozen_blk (k := k) H5.out.bc; have fr := fun k => frozen_blk (k := k) H5.out.br; have q0 := cell_blk (k := 0) H5.out.words.blk; simp at q0; clear ho5 hb5)
      refine bodyPost_ret (v := .agg #[.int .i64 k, .int .i64 s, .int .i64 (l.length : Int), .int .i64 (c.nulls.length : Int), .slice ma (mof c.nulls).length mc, .slice da c.data.length dc, .slice ea c.ends.length ec, .slice wa c.words.length wc]) (by simp [results, Tryz.results25, go_sem, r0, r1, r2, r3, r4, r5, r6, r7]) rfl ?_
      have r := lay_end HL.out H5.out HO5.out HB5.out (l.length : Int)
      exact ⟨⟨ma, mc⟩, ⟨da, dc⟩, ⟨ea, ec⟩, ⟨wa, wc⟩, vals, by simp [colV, CS.col, HS2.out], r.1, r.2⟩
theorem lay_any (k s : Int) (l : List V) (ho : okType k s = true) (hf : Few l) (hl : ∀ v ∈ l, vOK k s v) (A : SL) (w : World) (h : RdVs w A l) :
    Calls Tryz.prog 25 #[.agg #[.int .i64 k, .int .i64 s], .slice A.a l.length A.c] w (ColBP ((CS.of k l).col k s) w) := by
  have := lay_gen k s l ho hf (fun v hv => ⟨(hl v hv).1, (hl v hv).2.1⟩) A w h
  rwa [nrm_map hl] at this
end Go.Proofs.YtmhjjhaipcgbiaaGreat
