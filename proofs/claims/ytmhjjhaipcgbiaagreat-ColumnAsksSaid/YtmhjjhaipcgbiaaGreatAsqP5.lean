/- Texts of this claim, one behind the other: Append, Join, Cut, Lay, BackP, BuiltC, J0, Read0, Read16, Num18, Twin, Fit, FitsL, Book0, Book1, Book3. -/
import Derived.Test.YtmhjjhaipcgbiaaGreatAsqP4
import Derived.Test.YtmhjjhaipcgbiaaGreatAsqP2
import Derived.BigQuiet
import Derived.Deep.QuietTactic
import Derived.Test.YtmhjjhaipcgbiaaGreatAsqP3
import Derived.Test.YtmhjjhaipcgbiaaGreatAsqP1

namespace Go.Proofs.YtmhjjhaipcgbiaaGreat
open Go.RowKit Go.Shelf
set_option linter.unusedVariables false
set_option linter.unusedSimpArgs false
set_option maxRecDepth 100000
set_option maxHeartbeats 4000000
attribute [local go_sem] Oper.semAt_some
def CS.app (k : Int) (cs : CS) (l : List V) : CS := l.foldl (CS.add k) cs
theorem CS.app_snoc (k : Int) (cs : CS) (l : List V) (v : V) : CS.app k cs (l ++ [v]) = (CS.app k cs l).add k v := by simp [CS.app, List.foldl_append]
def valsC (c : Col) (n : Nat) : List V := (List.range n).map (valC c)
theorem valsC_snoc (c : Col) (n : Nat) : valsC c (n + 1) = valsC c n ++ [valC c n] := by simp [valsC, List.range_succ]
theorem app_next (c : Col) (cs : CS) (n : Nat) : CS.app c.k cs (valsC c (n + 1)) = (CS.app c.k cs (valsC c n)).add c.k (valC c n) := by rw [valsC_snoc, CS.app_snoc]
structure AppI (c : Col) (B D E X : SL) (vals : List Value) (cs : CS) (S : Nat → Prop) (bl Bs b0 : Nat) (w w1 : World) (i : Nat) (W : World) : Prop where
  bs : BS W (fun b => S b ∧ b < w.heap.size ∨ w1.heap.size + 2 ≤ b) bl c.k c.s (CS.app c.k cs (valsC c i))
  kept : Kept (fun b => S b ∧ b < w.heap.size) w W
  b0 : W.heap[b0]? = some (.cells #[.pointer (some ⟨bl, 0, none⟩)] 25 (0, 0))
  bx : W.heap[Bs]? = some (.cells #[.int .i64 c.k, .int .i64 c.s, .int .i64 c.n, .int .i64 c.m, .slice B.a c.bits.length B.c, .slice D.a c.data.length D.c, .slice E.a c.ends.length E.c, .slice X.a c.words.length X.c] 63 (0, 0))
theorem AppI.moved {c : Col} {B D E X : SL} {vals : List Value} {cs : CS} {S : Nat → Prop} {bl Bs b0 : Nat} {w w1 A A' : World} {i : Nat} (hs : w.heap.size ≤ w1.heap.size) (h0 : b0 < w1.heap.size) (h1 : Bs < w1.heap.size)
    (h : AppI c B D E X vals cs S bl Bs b0 w w1 i A) (hk : Kept (fun k => k = w1.heap.size ∨ k = w1.heap.size + 1) A A') : AppI c B D E X vals cs S bl Bs b0 w w1 i A' :=
  ⟨h.bs.kept hk (fun b hb _ e => by omega), h.kept.trans hk (fun b hb hlt => by omega), (hk.block _ (lt_of_blk h.b0) (by omega)).trans h.b0, (hk.block _ (lt_of_blk h.bx) (by omega)).trans h.bx⟩
theorem append_BS (S : Nat → Prop) (bl : Nat) (c : Col) (hc : COK c) (B D E X : SL) (vals : List Value) (hr : checkC c = 0) (hDa : D.a = none ∨ ∃ g off, D.a = some ⟨g, off, none⟩) (N : Nat) (hn : c.n = (N : Int)) (cs : CS)
    (hroom : ∀ i, i < N → Room (CS.app c.k cs (valsC c i)) (valC c i)) (w : World) (h : BS w S bl c.k c.s cs) (hcol : ∀ w', Kept S w w' → RdC w' c B D E X vals) :
    Calls Tryz.prog 28 #[.pointer (some ⟨bl, 0, none⟩), colV c B D E X] w (StepP S bl c.k c.s (CS.app c.k cs (valsC c N)) (.int .i64 0) w) := by
  have HB0 := Aside.mk (h.mono (S' := fun b => S b ∧ b < w.heap.size) (fun b h1 h2 => ⟨h1, h2⟩))
  have hck := Aside.mk (fun (w2 : World) (hb : Below w.heap.size w w2) => check_any c hc B D E X vals w2 (hcol w2 (Kept.of_below hb)))
  have HE := Aside.mk (fun Bs => each1_any c hc B D E X vals hr hDa Bs N hn)
  have hea := Aside.mk (fun w2 => each_any c B D E X w2)
  rw [hr] at hck
  have HCOL := Aside.mk hcol
  have HRM := Aside.mk hroom
  have HN := Aside.mk hn
  have HLT := Aside.mk (show bl < w.heap.size by obtain ⟨lw, nv, dv, ev, T, h⟩ := h; exact lt_of_blk h.b.blk)
  have HBC := Aside.mk (fun (w2 : World) (hb : Below w.heap.size w w2) => show w2.cell? ⟨bl, 0, none⟩ = some (.int .i64 c.k) ∧ w2.cell? ⟨bl, 1, none⟩ = some (.int .i64 c.s) by
    obtain ⟨lw, nv, dv, ev, T, h⟩ := h.below hb
    constructor <;> (rw [cell_blk h.b.blk]; rfl))
  clear h hcol hroom hr hc hn hDa
  dsimp only [colV] at hck hea ⊢
  refine calls_of_marks Tryz.func28 rfl ?_; simp only [Tryz.ntmps28, List.size_toArray, List.length_cons, List.length_nil, Nat.reduceAdd, Nat.reduceSub, Array.replicate_succ, Array.replicate_zero, List.push_toArray, List.append_toArray, List.nil_append, List.cons_append]
  go_wp2_with fail
  obtain ⟨t1, t2, t3, t4⟩ := below_two w (.cells #[.pointer (some ⟨bl, 0, none⟩)] 25 (0, 0)) (.cells #[.int .i64 c.k, .int .i64 c.s, .int .i64 c.n, .int .i64 c.m, .slice B.a c.bits.length B.c, .slice D.a c.data.length D.c, .slice E.a c.ends.length E.c, .slice X.a c.words.length X.c] 63 (0, 0))
  have hg : ∀ W', ((w.alloc (.cells #[.pointer (some ⟨bl, 0, none⟩)] 25)).alloc (.cells #[.int .i64 c.k, .int .i64 c.s, .int .i64 c.n, .int .i64 c.m, .slice B.a c.bits.length B.c, .slice D.a c.data.length D.c, .slice E.a c.ends.length E.c, .slice X.a c.words.length X.c] 63)) = W' → Below w.heap.size w W' ∧ W'.heap.size = w.heap.size + 2 ∧ W'.heap[w.heap.size]? = some (.cells #[.pointer (some ⟨bl, 0, none⟩)] 25 (0, 0)) ∧ W'.heap[w.heap.size + 1]? = some (.cells #[.int .i64 c.k, .int .i64 c.s, .int .i64 c.n, .int .i64 c.m, .slice B.a c.bits.length B.c, .slice D.a c.data.length D.c, .slice E.a c.ends.length E.c, .slice X.a c.words.length X.c] 63 (0, 0)) := fun W' e => by rw [← e]; exact ⟨t1, t2, t3, t4⟩
  clear t1 t2 t3 t4
  generalize ((w.alloc (.cells #[.pointer (some ⟨bl, 0, none⟩)] 25)).alloc (.cells #[.int .i64 c.k, .int .i64 c.s, .int .i64 c.n, .int .i64 c.m, .slice B.a c.bits.length B.c, .slice D.a c.data.length D.c, .slice E.a c.ends.length E.c, .slice X.a c.words.length X.c] 63)) = w2 at *
  obtain ⟨t1, t2, t3, t4⟩ := hg w2 rfl
  have B2 := Aside.mk t1
  have HS2 := Aside.mk t2
  have H3 := Aside.mk t3
  have H4 := Aside.mk t4
  clear t1 t2 t3 t4 hg
  refine (hck.out _ B2.out).mono ?_
  rintro e w3 ⟨rfl, hb3⟩
  have B3 := Aside.mk (below_chain B2.out hb3)
  replace H3 := Aside.mk ((hb3.block _ (lt_of_blk H3.out)).trans H3.out)
  replace H4 := Aside.mk ((hb3.block _ (lt_of_blk H4.out)).trans H4.out)
  have HS3 := Aside.mk hb3.size
  clear hb3
  obtain ⟨c0, c1, c2, c3, c4, c5, c6, c7⟩ := box8 H4.out
  have d0 : w3.cell? ⟨w.heap.size, 0, none⟩ = some (.pointer (some ⟨bl, 0, none⟩)) := by rw [cell_blk H3.out]; rfl
  obtain ⟨e0, e1⟩ := HBC.out w3 B3.out
  go_wp2_with fail
  go_quiet (fail)
  clear c0 c1 c2 c3 c4 c5 c6 c7 d0 e0 e1
  generalize hq : w3.drewN _ = w4
  have B4 : Aside (Below w.heap.size w w4) := Aside.mk (by rw [← hq]; exact B3.out.trans (below_drewN _ _ _))
  have H3' : Aside (w4.heap[w.heap.size]? = some (.cells #[.pointer (some ⟨bl, 0, none⟩)] 25 (0, 0))) := Aside.mk (by rw [← hq]; exact H3.out)
  have H4' : Aside (w4.heap[w.heap.size + 1]? = some (.cells #[.int .i64 c.k, .int .i64 c.s, .int .i64 c.n, .int .i64 c.m, .slice B.a c.bits.length B.c, .slice D.a c.data.length D.c, .slice E.a c.ends.length E.c, .slice X.a c.words.length X.c] 63 (0, 0))) := Aside.mk (by rw [← hq]; exact H4.out)
  clear hq H3 H4 B3 HS3
  obtain ⟨c0, c1, c2, c3, c4, c5, c6, c7⟩ := box8 H4'.out
  go_wp2_with (go_at_call 83; refine (hea.out _).mono ?_; rintro e w5 ⟨rfl, hb5, hbx⟩; have B5 := Aside.mk (below_chain B4.out hb5); have H3 := Aside.mk ((hb5.block _ (lt_of_blk H3'.out)).trans H3'.out); have HBX := Aside.mk hbx; clear hb5 hbx)
  have HL0 := Aside.mk (show w.heap.size < w4.heap.size from lt_of_blk H3'.out)
  have HS45 := Aside.mk (lt_of_blk HBX.out)
  refine wp_seq (gf := 150) (lb := #[.pointer (some ⟨w4.heap.size, 0, none⟩)]) rfl (enters_of Tryz.func150 (by kernel_rfl) rfl) (HE.out w4.heap.size) (fun _ _ => rfl)
    (AppI c B D E X vals cs S bl w4.heap.size w.heap.size w w5) (fun _ _ => False)
    (fun k A h => ⟨HCOL.out A (h.kept.mono (fun b hb _ => hb.1)), h.bx⟩)
    (fun k A A' hk h => h.moved B5.out.size (by have := HL0.out; have := HS45.out; omega) HS45.out hk) (fun _ _ _ _ h => h)
    (fun W hb hs => ⟨(HB0.out.below (below_chain B5.out hb)).mono (fun b h _ => .inl h), Kept.of_below (below_chain B5.out hb), (hb.block _ (lt_of_blk H3.out)).trans H3.out, (hb.block _ (lt_of_blk HBX.out)).trans HBX.out⟩) ?round ?done ?stop
  case stop => exact fun _ _ h _ => h.elim
  case round =>
    rintro l i v W hi hI ⟨ta, tc, rfl, hrd⟩ hlt hmk
    have HMK := Aside.mk hmk
    clear hmk
    dsimp only [valV]
    have HI := Aside.mk hI
    have HRD := Aside.mk hrd
    clear hI hrd
    have HLT5 := Aside.mk hlt
    clear hlt
    gi_wp2
    refine ⟨fun k hk => Below.heap_alloc W _ k (by have := HLT5.out; omega), fun W₂ hk hsz => ?_⟩
    have hWsz := HLT5.out
    have hsz2 : W₂.heap.size = W.heap.size + 1 := by rw [hsz]; simp
    have hkW : Kept (fun k => k = w5.heap.size ∨ k = w5.heap.size + 1) W W₂ := (Kept.of_below ((Below.refl _ W).alloc (Nat.le_refl _) _)).trans hk (fun _ h _ => h)
    have HI2 := Aside.mk (HI.out.moved B5.out.size (by have := HL0.out; have := HS45.out; omega) HS45.out hkW)
    have hvb := (hk.block W.heap.size (by simp) (by omega)).trans (heap_alloc_new W (.cells #[.int .u64 ((valC c i).bits : Int), .slice ta (valC c i).text.length tc, .bool (valC c i).null] 145))
    obtain ⟨q0, q1, q2⟩ := box3 hvb
    have d0 : W₂.cell? ⟨w.heap.size, 0, none⟩ = some (.pointer (some ⟨bl, 0, none⟩)) := by rw [cell_blk HI2.out.b0]; rfl
    have hrd2 := HRD.out.marks HMK.out hkW
    have HADD := Aside.mk (add_BS _ bl c.k c.s _ (valC c i) ta tc (HRM.out i hi) W₂ HI2.out.bs hrd2)
    have HS2' := Aside.mk hsz2
    clear hvb hrd2 hsz hsz2 hkW hWsz
    generalize hvc : valC c i = vc at *
    have HVC := Aside.mk hvc
    clear hvc
    gi_wp2_with (refine ⟨trivial, ?_⟩; gi_at_call 72; refine (CallsIn.inRound l (callsIn_wide.2 HADD.out)).mono ?_; rintro e w6 ⟨rfl, hb6, hk6⟩; have HB6 := Aside.mk hb6; have HK6 := Aside.mk hk6; clear hb6 hk6)
    refine ⟨fun k hk => HK6.out.block k (by have := HLT5.out; have := HS2'.out; omega) (fun e => by have := B5.out.size; omega), ?_, ?_, ?_, ?_⟩
    · rw [app_next, HVC.out]
      exact HB6.out.mono (fun b hb _ => hb.elim id (fun h => .inr (by have := HLT5.out; have := HS2'.out; omega)))
    · exact HI2.out.kept.trans HK6.out (fun b hb hlt => hb.elim id (fun h => by have := B5.out.size; omega))
    · exact (HK6.out.block _ (lt_of_blk HI2.out.b0) (by have := HL0.out; have := HS45.out; omega)).trans HI2.out.b0
    · exact (HK6.out.block _ (lt_of_blk HI2.out.bx) (by have := HL0.out; have := HS45.out; omega)).trans HI2.out.bx
  case done =>
    rintro W hI hK
    have HI := Aside.mk hI
    have HK := Aside.mk hK
    clear hI hK
    go_wp2
    refine left_marks HK.out (v := .int .i64 0) ?_ ⟨rfl, ?_, ?_⟩
    · simp [results, Tryz.results28, go_sem]
    · exact (HI.out.bs.kept (kept_putObj (.inl rfl)) (fun b hb _ e => by have := B5.out.size; omega)).mono (fun b hb _ => hb.elim (fun h => .inl h.1) (fun h => .inr (by have := B5.out.size; omega)))
    · exact (HI.out.kept.mono (fun b hb _ => hb.1)).trans (kept_putObj (.inl rfl)) (fun b hb hlt => by have := B5.out.size; omega)
end Go.Proofs.YtmhjjhaipcgbiaaGreat


namespace Go.Proofs.YtmhjjhaipcgbiaaGreat
open Go.RowKit Go.Shelf
set_option linter.unusedVariables false
set_option linter.unusedSimpArgs false
set_option maxRecDepth 100000
set_option maxHeartbeats 4000000
def ColEP (c : Col) (w : World) (e : Ending) (w' : World) : Prop := ∃ B D E W vals, e = .returned (.tuple #[colV c B D E W, .int .i64 0]) ∧ OwnC w' w.heap.size c B D E W vals ∧ Below w.heap.size w w'
def Small (c : CS) : Prop := c.nulls.length ≤ 100000000 ∧ c.data.length ≤ 100000000 ∧ c.ends.length ≤ 100000000 ∧ c.words.length ≤ 100000000 ∧ ∀ t ∈ c.words, t.length ≤ 100000000
theorem below_three (w : World) (o1 o2 o3 : Obj) : Below w.heap.size w (((w.alloc o1).alloc o2).alloc o3) ∧ (((w.alloc o1).alloc o2).alloc o3).heap.size = w.heap.size + 3 ∧
    (((w.alloc o1).alloc o2).alloc o3).heap[w.heap.size]? = some o1 ∧ (((w.alloc o1).alloc o2).alloc o3).heap[w.heap.size + 1]? = some o2 ∧ (((w.alloc o1).alloc o2).alloc o3).heap[w.heap.size + 2]? = some o3 := by
  obtain ⟨h1, h2, h3, h4⟩ := below_two w o1 o2
  refine ⟨h1.alloc (by omega) _, by rw [World.size_alloc, h2], ?_, ?_, ?_⟩
  · exact (Below.heap_alloc _ _ _ (by omega)).trans h3
  · exact (Below.heap_alloc _ _ _ (by omega)).trans h4
  · have := World.alloc_heap_new ((w.alloc o1).alloc o2) o3
    rwa [h2] at this
theorem RdC.keptN {w wN w' : World} {c : Col} {B D E X : SL} {vals : List Value} {S : Nat → Prop} (h : RdC w c B D E X vals) (hb : Below w.heap.size w wN) (hS : ∀ b, S b → w.heap.size ≤ b) (hk : Kept S wN w') : RdC w' c B D E X vals :=
  h.below (hb.trans (hk.to_below hb.size hS))
theorem idx_pair {x0 x1 x2 x3 x4 x5 x6 x7 y0 y1 y2 y3 y4 y5 y6 y7 : Value} (w : World) :
    (Instr.index 209 (.agg #[x0, x1, x2, x3, x4, x5, x6, x7, y0, y1, y2, y3, y4, y5, y6, y7]) (.int .i64 0)).run Tryz.prog w = .ok (.agg #[x0, x1, x2, x3, x4, x5, x6, x7]) w ∧
    (Instr.index 209 (.agg #[x0, x1, x2, x3, x4, x5, x6, x7, y0, y1, y2, y3, y4, y5, y6, y7]) (.int .i64 1)).run Tryz.prog w = .ok (.agg #[y0, y1, y2, y3, y4, y5, y6, y7]) w := by
  constructor <;> kernel_rfl
theorem join_yes (a b : Col) (ha : COK a) (hb : COK b) (B D E X B2 D2 E2 X2 : SL) (va vb : List Value) (hra : checkC a = 0) (hrb : checkC b = 0) (hk : a.k = b.k) (hs : a.s = b.s)
    (hDa : D.a = none ∨ ∃ g off, D.a = some ⟨g, off, none⟩) (hDb : D2.a = none ∨ ∃ g off, D2.a = some ⟨g, off, none⟩) (Na Nb : Nat) (hna : a.n = (Na : Int)) (hnb : b.n = (Nb : Int))
    (hr1 : ∀ i, i < Na → Room (CS.app a.k CS.zero (valsC a i)) (valC a i)) (hr2 : ∀ i, i < Nb → Room (CS.app a.k (CS.app a.k CS.zero (valsC a Na)) (valsC b i)) (valC b i)) (hsm : Small (CS.app a.k (CS.app a.k CS.zero (valsC a Na)) (valsC b Nb)))
    (w : World) (h : RdC w a B D E X va) (h2 : RdC w b B2 D2 E2 X2 vb) :
    Calls Tryz.prog 68 #[colV a B D E X, colV b B2 D2 E2 X2] w (ColEP ((CS.app a.k (CS.app a.k CS.zero (valsC a Na)) (valsC b Nb)).col a.k a.s) w) := by
  have hVB : colV b B2 D2 E2 X2 = .agg #[.int .i64 a.k, .int .i64 a.s, .int .i64 b.n, .int .i64 b.m, .slice B2.a b.bits.length B2.c, .slice D2.a b.data.length D2.c, .slice E2.a b.ends.length E2.c, .slice X2.a b.words.length X2.c] := by unfold colV; rw [hk, hs]
  have hca := Aside.mk (fun (w2 : World) (hb : Below w.heap.size w w2) => check_any a ha B D E X va w2 (h.below hb))
  have hcb := Aside.mk (fun (w2 : World) (hw : Below w.heap.size w w2) => check_any b hb B2 D2 E2 X2 vb w2 (h2.below hw))
  have HO := Aside.mk (check_zero hra).1
  have hapA := Aside.mk (fun (wN : World) (bl n0 : Nat) (hn0 : w.heap.size ≤ n0) (hw : Below w.heap.size w wN) (hB : BS wN (fun b => n0 ≤ b) bl a.k a.s CS.zero) => append_BS (fun b => n0 ≤ b) bl a ha B D E X va hra hDa Na hna CS.zero hr1 wN hB (fun w' hk => h.keptN hw (fun b hb => Nat.le_trans hn0 hb) hk))
  have hapB := Aside.mk (fun (wN : World) (bl n0 : Nat) (hn0 : w.heap.size ≤ n0) (hw : Below w.heap.size w wN) (hB : BS wN (fun b => n0 ≤ b) bl b.k b.s (CS.app a.k CS.zero (valsC a Na))) => append_BS (fun b => n0 ≤ b) bl b hb B2 D2 E2 X2 vb hrb hDb Nb hnb (CS.app a.k CS.zero (valsC a Na)) (hk ▸ hr2) wN hB (fun w' hk => h2.keptN hw (fun b hb => Nat.le_trans hn0 hb) hk))
  rw [hra] at hca
  rw [hrb] at hcb
  rw [hVB] at hcb hapB ⊢
  rw [← hk, ← hs] at hapB
  generalize CS.app a.k CS.zero (valsC a Na) = J1 at *
  generalize CS.app a.k J1 (valsC b Nb) = J2 at *
  have HSM := Aside.mk hsm
  clear h h2 hra hrb ha hb hDa hDb hna hnb hr1 hr2 hsm hVB hk hs
  dsimp only [colV] at hca hapA ⊢
  go_enter Tryz.func68, Tryz.ntmps68
  go_wp2_with fail
  have hg : ∀ W', ((((w.alloc (.cells #[.int .i64 a.k, .int .i64 a.s, .int .i64 a.n, .int .i64 a.m, .slice B.a a.bits.length B.c, .slice D.a a.data.length D.c, .slice E.a a.ends.length E.c, .slice X.a a.words.length X.c] 63)).alloc (.cells #[.int .i64 a.k, .int .i64 a.s, .int .i64 b.n, .int .i64 b.m, .slice B2.a b.bits.length B2.c, .slice D2.a b.data.length D2.c, .slice E2.a b.ends.length E2.c, .slice X2.a b.words.length X2.c] 63)).alloc (.cells #[.int .i64 0, .int .i64 0, .int .i64 0, .int .i64 0, .slice none 0 0, .slice none 0 0, .slice none 0 0, .slice none 0 0] 63)) = W' → Below w.heap.size w W' ∧ W'.heap.size = w.heap.size + 3 ∧ W'.heap[w.heap.size]? = some (.cells #[.int .i64 a.k, .int .i64 a.s, .int .i64 a.n, .int .i64 a.m, .slice B.a a.bits.length B.c, .slice D.a a.data.length D.c, .slice E.a a.ends.length E.c, .slice X.a a.words.length X.c] 63 (0, 0)) ∧ W'.heap[w.heap.size + 1]? = some (.cells #[.int .i64 a.k, .int .i64 a.s, .int .i64 b.n, .int .i64 b.m, .slice B2.a b.bits.length B2.c, .slice D2.a b.data.length D2.c, .slice E2.a b.ends.length E2.c, .slice X2.a b.words.length X2.c] 63 (0, 0)) ∧ W'.heap[w.heap.size + 1 + 1]? = some (.cells #[.int .i64 0, .int .i64 0, .int .i64 0, .int .i64 0, .slice none 0 0, .slice none 0 0, .slice none 0 0, .slice none 0 0] 63 (0, 0))) := fun W' e => by rw [← e]; exact below_three w _ _ _
  generalize (((w.alloc (.cells #[.int .i64 a.k, .int .i64 a.s, .int .i64 a.n, .int .i64 a.m, .slice B.a a.bits.length B.c, .slice D.a a.data.length D.c, .slice E.a a.ends.length E.c, .slice X.a a.words.length X.c] 63)).alloc (.cells #[.int .i64 a.k, .int .i64 a.s, .int .i64 b.n, .int .i64 b.m, .slice B2.a b.bits.length B2.c, .slice D2.a b.data.length D2.c, .slice E2.a b.ends.length E2.c, .slice X2.a b.words.length X2.c] 63)).alloc (.cells #[.int .i64 0, .int .i64 0, .int .i64 0, .int .i64 0, .slice none 0 0, .slice none 0 0, .slice none 0 0, .slice none 0 0] 63)) = w3 at *
  obtain ⟨t1, t2, t3, t4, t5⟩ := hg w3 rfl
  have B3 := Aside.mk t1
  have HS3 := Aside.mk t2
  have HA := Aside.mk t3
  have HB := Aside.mk t4
  have HZ := Aside.mk t5
  clear t1 t2 t3 t4 t5 hg
  go_loopw [14] (fun iv wr => ∃ i : Nat, i ≤ 2 ∧ iv = .int .i64 (i : Int) ∧ Aside (Below w3.heap.size w3 wr)) (fun iv _ => 2 - (intOf iv).toNat)
  case atStart => exact ⟨0, by omega, rfl, ⟨Below.refl _ _⟩⟩
  case round =>
    obtain ⟨i, hi, rfl, hp⟩ := hrel
    have hix0 := fun w => (@idx_pair (.int .i64 a.k) (.int .i64 a.s) (.int .i64 a.n) (.int .i64 a.m) (.slice B.a a.bits.length B.c) (.slice D.a a.data.length D.c) (.slice E.a a.ends.length E.c) (.slice X.a a.words.length X.c) (.int .i64 a.k) (.int .i64 a.s) (.int .i64 b.n) (.int .i64 b.m) (.slice B2.a b.bits.length B2.c) (.slice D2.a b.data.length D2.c) (.slice E2.a b.ends.length E2.c) (.slice X2.a b.words.length X2.c) w).1
    have hix1 := fun w => (@idx_pair (.int .i64 a.k) (.int .i64 a.s) (.int .i64 a.n) (.int .i64 a.m) (.slice B.a a.bits.length B.c) (.slice D.a a.data.length D.c) (.slice E.a a.ends.length E.c) (.slice X.a a.words.length X.c) (.int .i64 a.k) (.int .i64 a.s) (.int .i64 b.n) (.int .i64 b.m) (.slice B2.a b.bits.length B2.c) (.slice D2.a b.data.length D2.c) (.slice E2.a b.ends.length E2.c) (.slice X2.a b.words.length X2.c) w).2
    obtain rfl | rfl | rfl : i = 0 ∨ i = 1 ∨ i = 2 := by omega
    · go_wp2_with (go_at_call 82; refine (hca.out _ (below_chain B3.out (hp.out.alloc hp.out.size _))).mono ?_; rintro e w5 ⟨rfl, hb5⟩; have H5 := Aside.mk (below_chain (hp.out.alloc hp.out.size _) hb5); clear hb5)
      exact ⟨⟨1, by omega, by simp, H5⟩, by simp [intOf]⟩
    · go_wp2_with (go_at_call 82; refine (hcb.out _ (below_chain B3.out (hp.out.alloc hp.out.size _))).mono ?_; rintro e w5 ⟨rfl, hb5⟩; have H5 := Aside.mk (below_chain (hp.out.alloc hp.out.size _) hb5); clear hb5)
      exact ⟨⟨2, by omega, by simp, H5⟩, by simp [intOf]⟩
    · clear hix0 hix1
      have hWR := Aside.mk (below_chain B3.out hp.out)
      replace HA := Aside.mk ((hp.out.block _ (lt_of_blk HA.out)).trans HA.out)
      replace HB := Aside.mk ((hp.out.block _ (lt_of_blk HB.out)).trans HB.out)
      replace HZ := Aside.mk ((hp.out.block _ (lt_of_blk HZ.out)).trans HZ.out)
      have HSR := Aside.mk (Nat.le_trans (Nat.le_of_eq HS3.out.symm) hp.out.size)
      clear hp
      obtain ⟨c0, c1, c2, c3, c4, c5, c6, c7⟩ := box8 HA.out
      obtain ⟨d0, d1, d2, d3, d4, d5, d6, d7⟩ := box8 HB.out
      go_wp2_with fail
      refine (new_BS a.k a.s wr HO.out).mono ?_
      rintro e wN ⟨bl, rfl, hbs, hbN⟩
      have HN := Aside.mk hbN
      replace HA := Aside.mk ((hbN.block _ (lt_of_blk HA.out)).trans HA.out)
      replace HB := Aside.mk ((hbN.block _ (lt_of_blk HB.out)).trans HB.out)
      replace HZ := Aside.mk ((hbN.block _ (lt_of_blk HZ.out)).trans HZ.out)
      have HC1 := Aside.mk (hapA.out wN bl wr.heap.size hWR.out.size (below_chain hWR.out hbN) hbs)
      clear hbs hbN c0 c1 c2 c3 c4 c5 c6 c7 d0 d1 d2 d3 d4 d5 d6 d7
      obtain ⟨c0, c1, c2, c3, c4, c5, c6, c7⟩ := box8 HA.out
      go_wp2_with fail
      refine HC1.out.mono ?_
      rintro e w6 ⟨rfl, hbs6, hk6⟩
      replace HB := Aside.mk ((hk6.block _ (lt_of_blk HB.out) (by have := HSR.out; omega)).trans HB.out)
      replace HZ := Aside.mk ((hk6.block _ (lt_of_blk HZ.out) (by have := HSR.out; omega)).trans HZ.out)
      have HN6 := Aside.mk (HN.out.trans (hk6.to_below HN.out.size (fun _ h => h)))
      have HC2 := Aside.mk (hapB.out w6 bl wr.heap.size hWR.out.size (below_chain hWR.out HN6.out) (hbs6.mono (fun b hb _ => by have := HN.out.size; omega)))
      clear hbs6 hk6 c0 c1 c2 c3 c4 c5 c6 c7
      obtain ⟨d0, d1, d2, d3, d4, d5, d6, d7⟩ := box8 HB.out
      go_wp2_with fail
      refine HC2.out.mono ?_
      rintro e w7 ⟨rfl, hbs7, hk7⟩
      replace HZ := Aside.mk ((hk7.block _ (lt_of_blk HZ.out) (by have := HSR.out; omega)).trans HZ.out)
      have HN7 := Aside.mk (HN6.out.trans (hk7.to_below HN6.out.size (fun _ h => h)))
      have HCOL := Aside.mk (column_BS _ bl a.k a.s J2 HSM.out.1 HSM.out.2.1 HSM.out.2.2.1 HSM.out.2.2.2.1 HSM.out.2.2.2.2 w7 hbs7)
      clear hbs7 hk7 d0 d1 d2 d3 d4 d5 d6 d7
      go_wp2_with (go_at_call 34; refine HCOL.out.mono ?_; rintro e w4 ⟨B', D', E', X', vals, rfl, hoc, hb4⟩; have HOC := Aside.mk hoc; have HB4 := Aside.mk hb4; have hr4 := (hb4.block _ (lt_of_blk HZ.out)).trans HZ.out; obtain ⟨r0, r1, r2, r3, r4, r5, r6, r7⟩ := box8 hr4; have f0 := frozen_blk (k := 0) hr4; have f1 := frozen_blk (k := 1) hr4; have f2 := frozen_blk (k := 2) hr4; have f3 := frozen_blk (k := 3) hr4; have f4 := frozen_blk (k := 4) hr4; have f5 := frozen_blk (k := 5) hr4; have f6 := frozen_blk (k := 6) hr4; have f7 := frozen_blk (k := 7) hr4; have HR4 := Aside.mk hr4; clear hoc hb4 hr4; dsimp only [colV, CS.col])
      refine bodyPost_ret (v := .tuple #[.agg #[.int .i64 a.k, .int .i64 a.s, .int .i64 (J2.nulls.length : Int), .int .i64 (J2.nulls.length : Int), .slice B'.a (mof J2.nulls).length B'.c, .slice D'.a J2.data.length D'.c, .slice E'.a J2.ends.length E'.c, .slice X'.a J2.words.length X'.c], .int .i64 0]) (by simp [results, Tryz.results68, go_sem, r0, r1, r2, r3, r4, r5, r6, r7]) rfl ?_
      have hsz := HSR.out
      have K8 : Kept (fun b => b = w.heap.size + 1 + 1) w4 _ := kept8 w4 (w.heap.size + 1 + 1) (.int .i64 a.k) (.int .i64 a.s) (.int .i64 (J2.nulls.length : Int)) (.int .i64 (J2.nulls.length : Int)) (.slice B'.a (mof J2.nulls).length B'.c) (.slice D'.a J2.data.length D'.c) (.slice E'.a J2.ends.length E'.c) (.slice X'.a J2.words.length X'.c)
      have h7 := HN7.out.size
      refine ⟨B', D', E', X', vals, rfl, (HOC.out.kept K8 (fun b h => by omega)).mono (by omega), ?_⟩
      have BF := (below_chain hWR.out HN7.out).trans (HB4.out.mono (by omega))
      exact BF.trans (K8.to_below BF.size (fun b e => by omega))
end Go.Proofs.YtmhjjhaipcgbiaaGreat


namespace Go.Proofs.YtmhjjhaipcgbiaaGreat
open Go.RowKit Go.Shelf
set_option linter.unusedVariables false
set_option linter.unusedSimpArgs false
set_option maxRecDepth 100000
set_option maxHeartbeats 4000000
attribute [local go_sem] Oper.semAt_some
def pieceC (c : Col) (f i : Nat) : List V := (valsC c i).drop f
theorem valsC_len (c : Col) (n : Nat) : (valsC c n).length = n := by simp [valsC]
theorem piece_add (c : Col) (cs : CS) (f i : Nat) (h : f ≤ i) : CS.app c.k cs (pieceC c f (i + 1)) = (CS.app c.k cs (pieceC c f i)).add c.k (valC c i) := by
  unfold pieceC
  rw [valsC_snoc, List.drop_append_of_le_length (by rw [valsC_len]; exact h), CS.app_snoc]
theorem piece_none (c : Col) (f i : Nat) (h : i < f) : pieceC c f (i + 1) = pieceC c f i := by
  unfold pieceC
  rw [List.drop_eq_nil_of_le (by rw [valsC_len]; omega), List.drop_eq_nil_of_le (by rw [valsC_len]; omega)]
structure CutI (c : Col) (B D E X : SL) (f t : Nat) (bl Bs b0 n0 : Nat) (w w1 : World) (i : Nat) (W : World) : Prop where
  le : i ≤ t
  bs : BS W (fun b => n0 ≤ b ∧ b < b0 ∨ w1.heap.size + 2 ≤ b) bl c.k c.s (CS.app c.k CS.zero (pieceC c f i))
  bel : Below w.heap.size w W
  bf : W.heap[w.heap.size + 1]? = some (.cells #[.int .i64 (f : Int)] 3 (0, 0))
  bt : W.heap[w.heap.size + 1 + 1]? = some (.cells #[.int .i64 (t : Int)] 3 (0, 0))
  bz : W.heap[w.heap.size + 1 + 1 + 1]? = some (.cells #[.int .i64 0, .int .i64 0, .int .i64 0, .int .i64 0, .slice none 0 0, .slice none 0 0, .slice none 0 0, .slice none 0 0] 63 (0, 0))
  b0 : W.heap[b0]? = some (.cells #[.pointer (some ⟨bl, 0, none⟩)] 25 (0, 0))
  bx : W.heap[Bs]? = some (.cells #[.int .i64 c.k, .int .i64 c.s, .int .i64 c.n, .int .i64 c.m, .slice B.a c.bits.length B.c, .slice D.a c.data.length D.c, .slice E.a c.ends.length E.c, .slice X.a c.words.length X.c] 63 (0, 0))
structure CutL (n0 b0 Bs : Nat) (w w1 : World) : Prop where
  h0 : w.heap.size + 4 ≤ n0
  h1 : n0 ≤ b0
  h2 : b0 < Bs
  h3 : Bs < w1.heap.size
theorem CutI.moved {c : Col} {B D E X : SL} {f t bl Bs b0 n0 : Nat} {w w1 A A' : World} {i : Nat} (hl : CutL n0 b0 Bs w w1) (h : CutI c B D E X f t bl Bs b0 n0 w w1 i A) (hk : Kept (fun k => k = w1.heap.size ∨ k = w1.heap.size + 1) A A') : CutI c B D E X f t bl Bs b0 n0 w w1 i A' := by
  obtain ⟨l0, l1, l2, l3⟩ := hl
  exact ⟨h.le, h.bs.kept hk (fun b hb _ e => by omega), h.bel.trans (hk.to_below h.bel.size (fun b e => by omega)), (hk.block _ (lt_of_blk h.bf) (by omega)).trans h.bf, (hk.block _ (lt_of_blk h.bt) (by omega)).trans h.bt, (hk.block _ (lt_of_blk h.bz) (by omega)).trans h.bz,
    (hk.block _ (lt_of_blk h.b0) (by omega)).trans h.b0, (hk.block _ (lt_of_blk h.bx) (by omega)).trans h.bx⟩
theorem set8 {w : World} {b : Nat} {x0 x1 x2 x3 x4 x5 x6 x7 : Value} {T : TypeId} (h : w.heap[b]? = some (.cells #[x0, x1, x2, x3, x4, x5, x6, x7] T (0, 0))) (y0 y1 y2 y3 y4 y5 y6 y7 : Value) :
    ((((((((w.setCell ⟨b, 0, none⟩ y0).setCell ⟨b, 1, none⟩ y1).setCell ⟨b, 2, none⟩ y2).setCell ⟨b, 3, none⟩ y3).setCell ⟨b, 4, none⟩ y4).setCell ⟨b, 5, none⟩ y5).setCell ⟨b, 6, none⟩ y6).setCell ⟨b, 7, none⟩ y7).heap[b]? = some (.cells #[y0, y1, y2, y3, y4, y5, y6, y7] T (0, 0)) := by
  have h := heap_setCell_at (k := 7) (heap_setCell_at (k := 6) (heap_setCell_at (k := 5) (heap_setCell_at (k := 4) (heap_setCell_at (k := 3) (heap_setCell_at (k := 2) (heap_setCell_at (k := 1) (heap_setCell_at (k := 0) h y0) y1) y2) y3) y4) y5) y6) y7
  simpa using h
theorem kept_put1 {W : World} {l : Nat} {o : Obj} : Kept (fun k => k = l) W (W.putObj l o) := ⟨rfl, rfl, rfl, by simp, fun k _ hn => World.putObj_heap_other hn⟩
theorem below_four (w : World) (o1 o2 o3 o4 : Obj) : Below w.heap.size w ((((w.alloc o1).alloc o2).alloc o3).alloc o4) ∧ ((((w.alloc o1).alloc o2).alloc o3).alloc o4).heap.size = w.heap.size + 4 ∧
    ((((w.alloc o1).alloc o2).alloc o3).alloc o4).heap[w.heap.size]? = some o1 ∧ ((((w.alloc o1).alloc o2).alloc o3).alloc o4).heap[w.heap.size + 1]? = some o2 ∧ ((((w.alloc o1).alloc o2).alloc o3).alloc o4).heap[w.heap.size + 1 + 1]? = some o3 ∧ ((((w.alloc o1).alloc o2).alloc o3).alloc o4).heap[w.heap.size + 1 + 1 + 1]? = some o4 := by
  obtain ⟨h1, h2, h3, h4, h5⟩ := below_three w o1 o2 o3
  refine ⟨h1.alloc (by omega) _, by rw [World.size_alloc, h2], ?_, ?_, ?_, ?_⟩
  · exact (Below.heap_alloc _ _ _ (by omega)).trans h3
  · exact (Below.heap_alloc _ _ _ (by omega)).trans h4
  · exact (Below.heap_alloc _ _ _ (by omega)).trans h5
  · have := World.alloc_heap_new (((w.alloc o1).alloc o2).alloc o3) o4
    rwa [h2] at this
theorem cut_yes (c : Col) (hc : COK c) (B D E X : SL) (vals : List Value) (hr : checkC c = 0) (hDa : D.a = none ∨ ∃ g off, D.a = some ⟨g, off, none⟩) (N : Nat) (hn : c.n = (N : Int)) (f t : Nat) (hft : f ≤ t) (htn : t ≤ N)
    (hroom : ∀ i, f ≤ i → i < t → Room (CS.app c.k CS.zero (pieceC c f i)) (valC c i)) (hsm : Small (CS.app c.k CS.zero (pieceC c f t))) (w : World) (h : RdC w c B D E X vals) :
    Calls Tryz.prog 109 #[colV c B D E X, .int .i64 (f : Int), .int .i64 (t : Int)] w (ColEP ((CS.app c.k CS.zero (pieceC c f t)).col c.k c.s) w) := by
  have hck := Aside.mk (fun (w2 : World) (hb : Below w.heap.size w w2) => check_any c hc B D E X vals w2 (h.below hb))
  have HE := Aside.mk (fun Bs => each1_any c hc B D E X vals hr hDa Bs N hn)
  have hea := Aside.mk (fun w2 => each_any c B D E X w2)
  have HO := Aside.mk (check_zero hr).1
  rw [hr] at hck
  have HR := Aside.mk h
  have HRM := Aside.mk hroom
  have HSM := Aside.mk hsm
  have HN := Aside.mk hn
  have hfl : (t : Int) ≤ c.n := by rw [hn]; omega
  have hcn : c.n ≤ 9223372036854775807 := hc.n.2
  clear h hr hc hn hDa hroom hsm
  dsimp only [colV] at hck hea ⊢
  refine calls_of_marks Tryz.func109 rfl ?_; simp only [Tryz.ntmps109, List.size_toArray, List.length_cons, List.length_nil, Nat.reduceAdd, Nat.reduceSub, Array.replicate_succ, Array.replicate_zero, List.push_toArray, List.append_toArray, List.nil_append, List.cons_append]
  go_wp2_with fail
  have hg : ∀ W', (((((w.alloc (.cells #[.int .i64 c.k, .int .i64 c.s, .int .i64 c.n, .int .i64 c.m, .slice B.a c.bits.length B.c, .slice D.a c.data.length D.c, .slice E.a c.ends.length E.c, .slice X.a c.words.length X.c] 63)).alloc (.cells #[.int .i64 (f : Int)] 3)).alloc (.cells #[.int .i64 (t : Int)] 3)).alloc (.cells #[.int .i64 0, .int .i64 0, .int .i64 0, .int .i64 0, .slice none 0 0, .slice none 0 0, .slice none 0 0, .slice none 0 0] 63)) = W' → Below w.heap.size w W' ∧ W'.heap.size = w.heap.size + 4 ∧ W'.heap[w.heap.size]? = some (.cells #[.int .i64 c.k, .int .i64 c.s, .int .i64 c.n, .int .i64 c.m, .slice B.a c.bits.length B.c, .slice D.a c.data.length D.c, .slice E.a c.ends.length E.c, .slice X.a c.words.length X.c] 63 (0, 0)) ∧ W'.heap[w.heap.size + 1]? = some (.cells #[.int .i64 (f : Int)] 3 (0, 0)) ∧ W'.heap[w.heap.size + 1 + 1]? = some (.cells #[.int .i64 (t : Int)] 3 (0, 0)) ∧ W'.heap[w.heap.size + 1 + 1 + 1]? = some (.cells #[.int .i64 0, .int .i64 0, .int .i64 0, .int .i64 0, .slice none 0 0, .slice none 0 0, .slice none 0 0, .slice none 0 0] 63 (0, 0))) := fun W' e => by rw [← e]; exact below_four w _ _ _ _
  generalize ((((w.alloc (.cells #[.int .i64 c.k, .int .i64 c.s, .int .i64 c.n, .int .i64 c.m, .slice B.a c.bits.length B.c, .slice D.a c.data.length D.c, .slice E.a c.ends.length E.c, .slice X.a c.words.length X.c] 63)).alloc (.cells #[.int .i64 (f : Int)] 3)).alloc (.cells #[.int .i64 (t : Int)] 3)).alloc (.cells #[.int .i64 0, .int .i64 0, .int .i64 0, .int .i64 0, .slice none 0 0, .slice none 0 0, .slice none 0 0, .slice none 0 0] 63)) = w2 at *
  obtain ⟨t1, t2, t3, t4, t5, t6⟩ := hg w2 rfl
  have B2 := Aside.mk t1
  have HS2 := Aside.mk t2
  clear hg
  refine (hck.out _ B2.out).mono ?_
  rintro e w3 ⟨rfl, hb3⟩
  have B3 := Aside.mk (below_chain B2.out hb3)
  have HS3 := Aside.mk (Nat.le_trans (Nat.le_of_eq t2.symm) hb3.size)
  replace t3 := (hb3.block _ (lt_of_blk t3)).trans t3
  replace t4 := (hb3.block _ (lt_of_blk t4)).trans t4
  replace t5 := (hb3.block _ (lt_of_blk t5)).trans t5
  replace t6 := (hb3.block _ (lt_of_blk t6)).trans t6
  obtain ⟨c0, c1, c2, c3, c4, c5, c6, c7⟩ := box8 t3
  have d0 : w3.cell? ⟨w.heap.size + 1, 0, none⟩ = some (.int .i64 (f : Int)) := by rw [cell_blk t4]; rfl
  have d1 : w3.cell? ⟨w.heap.size + 1 + 1, 0, none⟩ = some (.int .i64 (t : Int)) := by rw [cell_blk t5]; rfl
  have H3 := Aside.mk t3
  have H4 := Aside.mk t4
  have H5 := Aside.mk t5
  have H6 := Aside.mk t6
  clear t1 t2 t3 t4 t5 t6 hb3
  go_wp2_with fail
  refine (new_BS c.k c.s w3 HO.out).mono ?_
  rintro e w4 ⟨bl, rfl, hbs, hb4⟩
  have HBS := Aside.mk hbs
  have HB4 := Aside.mk hb4
  replace H3 := Aside.mk ((hb4.block _ (lt_of_blk H3.out)).trans H3.out)
  replace H4 := Aside.mk ((hb4.block _ (lt_of_blk H4.out)).trans H4.out)
  replace H5 := Aside.mk ((hb4.block _ (lt_of_blk H5.out)).trans H5.out)
  replace H6 := Aside.mk ((hb4.block _ (lt_of_blk H6.out)).trans H6.out)
  clear hbs hb4 c0 c1 c2 c3 c4 c5 c6 c7 d0 d1
  have hbA := (Below.refl _ w4).alloc (Nat.le_refl _) (.cells #[.pointer (some ⟨bl, 0, none⟩)] 25)
  have HA0 := Aside.mk (heap_alloc_new w4 (.cells #[.pointer (some ⟨bl, 0, none⟩)] 25))
  replace H3 := Aside.mk ((hbA.block _ (lt_of_blk H3.out)).trans H3.out)
  replace H4 := Aside.mk ((hbA.block _ (lt_of_blk H4.out)).trans H4.out)
  replace H5 := Aside.mk ((hbA.block _ (lt_of_blk H5.out)).trans H5.out)
  replace H6 := Aside.mk ((hbA.block _ (lt_of_blk H6.out)).trans H6.out)
  obtain ⟨c0, c1, c2, c3, c4, c5, c6, c7⟩ := box8 H3.out
  have HBA := Aside.mk hbA
  clear hbA
  go_wp2_with (go_at_call 83; refine (hea.out _).mono ?_; rintro e w6 ⟨rfl, hb6, hbx⟩; have HB6 := Aside.mk hb6; have HX6 := Aside.mk hbx; clear hb6 hbx)
  have HL : Aside (CutL w3.heap.size w4.heap.size (w4.heap.size + 1) w w6) := ⟨HS3.out, HB4.out.size, by omega, by have := lt_of_blk HX6.out; simpa using this⟩
  have hsA : (w4.alloc (.cells #[.pointer (some ⟨bl, 0, none⟩)] 25)).heap.size = w4.heap.size + 1 := World.size_alloc _ _
  rw [hsA] at HX6
  have B4 := Aside.mk (below_chain B3.out HB4.out)
  have B6 := Aside.mk (below_chain (below_chain B4.out HBA.out) HB6.out)
  clear hsA c0 c1 c2 c3 c4 c5 c6 c7
  refine wp_seq (gf := 150) (lb := #[.pointer (some ⟨w4.heap.size + 1, 0, none⟩)]) rfl (enters_of Tryz.func150 (by kernel_rfl) rfl) (HE.out (w4.heap.size + 1)) (fun _ _ => rfl)
    (CutI c B D E X f t bl (w4.heap.size + 1) w4.heap.size w3.heap.size w w6) (fun x W => x = .exit 1 ∧ CutI c B D E X f t bl (w4.heap.size + 1) w4.heap.size w3.heap.size w w6 t W)
    (fun k A h => ⟨HR.out.below h.bel, h.bx⟩)
    (fun k A A' hk h => h.moved HL.out hk) (fun _ A A' hk h => ⟨h.1, h.2.moved HL.out hk⟩)
    (fun W hb hs => ⟨Nat.zero_le _, (by rw [show pieceC c f 0 = [] by simp [pieceC, valsC]]; exact ((HBS.out.mono (S' := fun b => w3.heap.size ≤ b ∧ b < w4.heap.size) (fun b h1 h2 => ⟨h1, h2⟩)).below (below_chain (below_chain HBA.out HB6.out) hb)).mono (fun b h _ => .inl h)), below_chain B6.out hb,
      (hb.block _ (Nat.lt_of_lt_of_le (lt_of_blk H4.out) HB6.out.size)).trans ((HB6.out.block _ (lt_of_blk H4.out)).trans H4.out), (hb.block _ (Nat.lt_of_lt_of_le (lt_of_blk H5.out) HB6.out.size)).trans ((HB6.out.block _ (lt_of_blk H5.out)).trans H5.out), (hb.block _ (Nat.lt_of_lt_of_le (lt_of_blk H6.out) HB6.out.size)).trans ((HB6.out.block _ (lt_of_blk H6.out)).trans H6.out),
      (hb.block _ (Nat.lt_of_lt_of_le (lt_of_blk HA0.out) HB6.out.size)).trans ((HB6.out.block _ (lt_of_blk HA0.out)).trans HA0.out), (hb.block _ (lt_of_blk HX6.out)).trans HX6.out⟩) ?round ?done ?stop
  case round =>
    rintro l i v W hi hI ⟨ta, tc, rfl, hrd⟩ hlt hmk
    have HMK := Aside.mk hmk
    dsimp only [valV]
    have HI := Aside.mk hI
    have HRD := Aside.mk hrd
    have HLT5 := Aside.mk hlt
    clear hI hrd hlt hmk
    gi_wp2
    refine ⟨fun k hk => Below.heap_alloc W _ k (by have := HLT5.out; omega), fun W₂ hk hsz => ?_⟩
    have hWsz := HLT5.out
    have hsz2 : W₂.heap.size = W.heap.size + 1 := by rw [hsz]; simp
    have hkW : Kept (fun k => k = w6.heap.size ∨ k = w6.heap.size + 1) W W₂ := (Kept.of_below ((Below.refl _ W).alloc (Nat.le_refl _) _)).trans hk (fun _ h _ => h)
    have HI2 := Aside.mk (HI.out.moved HL.out hkW)
    have hvb := (hk.block W.heap.size (by simp) (by omega)).trans (heap_alloc_new W (.cells #[.int .u64 ((valC c i).bits : Int), .slice ta (valC c i).text.length tc, .bool (valC c i).null] 145))
    obtain ⟨q0, q1, q2⟩ := box3 hvb
    have d0 : W₂.cell? ⟨w4.heap.size, 0, none⟩ = some (.pointer (some ⟨bl, 0, none⟩)) := by rw [cell_blk HI2.out.b0]; rfl
    have d1 : W₂.cell? ⟨w.heap.size + 1, 0, none⟩ = some (.int .i64 (f : Int)) := by rw [cell_blk HI2.out.bf]; rfl
    have d2 : W₂.cell? ⟨w.heap.size + 1 + 1, 0, none⟩ = some (.int .i64 (t : Int)) := by rw [cell_blk HI2.out.bt]; rfl
    have hrd2 := HRD.out.marks HMK.out hkW
    have HS2' := Aside.mk hsz2
    by_cases hit : i < t
    · by_cases hif : f ≤ i
      · have HADD := Aside.mk (add_BS _ bl c.k c.s _ (valC c i) ta tc (HRM.out i hif hit) W₂ HI2.out.bs hrd2)
        clear hvb hrd2 hsz hsz2 hkW hWsz
        generalize hvc : valC c i = vc at *
        have HVC := Aside.mk hvc
        clear hvc
        gi_wp2_with (refine ⟨trivial, ?_⟩; gi_at_call 72; refine (CallsIn.inRound l (callsIn_wide.2 HADD.out)).mono ?_; rintro e w7 ⟨rfl, hb7, hk7⟩; have HB7 := Aside.mk hb7; have HK7 := Aside.mk hk7; clear hb7 hk7)
        obtain ⟨l0, l1, l2, l3⟩ := HL.out
        have hB := HI2.out.bel.size
        refine ⟨fun k hk => HK7.out.block k (by have := HLT5.out; have := HS2'.out; omega) (fun e => by omega), hit, ?_, HI2.out.bel.trans (HK7.out.to_below hB (fun b e => by omega)), ?_, ?_, ?_, ?_, ?_⟩
        · rw [piece_add _ _ _ _ hif, HVC.out]
          exact HB7.out.mono (fun b hb _ => hb.elim id (fun h => .inr (by have := HLT5.out; have := HS2'.out; omega)))
        · exact (HK7.out.block _ (lt_of_blk HI2.out.bf) (by omega)).trans HI2.out.bf
        · exact (HK7.out.block _ (lt_of_blk HI2.out.bt) (by omega)).trans HI2.out.bt
        · exact (HK7.out.block _ (lt_of_blk HI2.out.bz) (by omega)).trans HI2.out.bz
        · exact (HK7.out.block _ (lt_of_blk HI2.out.b0) (by omega)).trans HI2.out.b0
        · exact (HK7.out.block _ (lt_of_blk HI2.out.bx) (by omega)).trans HI2.out.bx
      · have HPN := Aside.mk (piece_none c f i (by omega))
        clear hvb hrd2 hsz hsz2 hkW hWsz
        gi_wp2
        have h2 := HI2.out
        refine ⟨fun k hk => rfl, hit, ?_, h2.bel, h2.bf, h2.bt, h2.bz, h2.b0, h2.bx⟩
        rw [HPN.out]
        exact h2.bs
    · have hle := HI.out.le
      obtain rfl : i = t := by omega
      clear hvb hrd2 hsz hsz2 hkW hWsz
      gi_wp2
      exact ⟨fun k hk => rfl, rfl, HI2.out⟩
  case done =>
    rintro W hI hK
    have hle := hI.le
    obtain rfl : t = N := by omega
    have HI := Aside.mk hI
    have HK := Aside.mk hK
    clear hI hK hle
    have HCOL := Aside.mk (column_BS _ bl c.k c.s _ HSM.out.1 HSM.out.2.1 HSM.out.2.2.1 HSM.out.2.2.2.1 HSM.out.2.2.2.2 W HI.out.bs)
    generalize CS.app c.k CS.zero (pieceC c f t) = J2 at *
    have d0 : W.cell? ⟨w4.heap.size, 0, none⟩ = some (.pointer (some ⟨bl, 0, none⟩)) := by rw [cell_blk HI.out.b0]; rfl
    go_wp2_with (go_at_call 34; refine HCOL.out.mono ?_; rintro e w7 ⟨B', D', E', X', vals, rfl, hoc, hb7⟩; have HOC := Aside.mk hoc; have HB7 := Aside.mk hb7; have hr4 := (hb7.block _ (lt_of_blk HI.out.bz)).trans HI.out.bz; obtain ⟨r0, r1, r2, r3, r4, r5, r6, r7⟩ := box8 hr4; have f0 := frozen_blk (k := 0) hr4; have f1 := frozen_blk (k := 1) hr4; have f2 := frozen_blk (k := 2) hr4; have f3 := frozen_blk (k := 3) hr4; have f4 := frozen_blk (k := 4) hr4; have f5 := frozen_blk (k := 5) hr4; have f6 := frozen_blk (k := 6) hr4; have f7 := frozen_blk (k := 7) hr4; have HR4 := Aside.mk hr4; clear hoc hb7 hr4; dsimp only [colV, CS.col])
    have K8 : Kept (fun b => b = w.heap.size + 1 + 1 + 1) w7 _ := kept8 w7 (w.heap.size + 1 + 1 + 1) (.int .i64 c.k) (.int .i64 c.s) (.int .i64 (J2.nulls.length : Int)) (.int .i64 (J2.nulls.length : Int)) (.slice B'.a (mof J2.nulls).length B'.c) (.slice D'.a J2.data.length D'.c) (.slice E'.a J2.ends.length E'.c) (.slice X'.a J2.words.length X'.c)
    have hs8 := set8 HR4.out (.int .i64 c.k) (.int .i64 c.s) (.int .i64 (J2.nulls.length : Int)) (.int .i64 (J2.nulls.length : Int)) (.slice B'.a (mof J2.nulls).length B'.c) (.slice D'.a J2.data.length D'.c) (.slice E'.a J2.ends.length E'.c) (.slice X'.a J2.words.length X'.c)
    obtain ⟨l0, l1, l2, l3⟩ := HL.out
    have hWs := lt_of_blk HI.out.bx
    have hKs := lt_of_blk HK.out
    have hK7 := (HB7.out.block _ (lt_of_blk HK.out)).trans HK.out
    have hK8 := (K8.block _ (lt_of_blk hK7) (by omega)).trans hK7
    obtain ⟨z0, z1, z2, z3, z4, z5, z6, z7⟩ := box8 ((World.putObj_heap_other (r := w6.heap.size) (o := .deferred none) (by omega)).trans hs8)
    refine left_marks hK8 (v := .tuple #[.agg #[.int .i64 c.k, .int .i64 c.s, .int .i64 (J2.nulls.length : Int), .int .i64 (J2.nulls.length : Int), .slice B'.a (mof J2.nulls).length B'.c, .slice D'.a J2.data.length D'.c, .slice E'.a J2.ends.length E'.c, .slice X'.a J2.words.length X'.c], .int .i64 0]) (by simp [results, Tryz.results109, go_sem, z0, z1, z2, z3, z4, z5, z6, z7]) ?_
    refine ⟨B', D', E', X', vals, rfl, (((HOC.out.kept K8 (fun b h => by omega)).kept kept_put1 (fun b h => by omega))).mono (by omega), ?_⟩
    have hw7 := HB7.out.size
    exact ((HI.out.bel.trans (HB7.out.mono (by omega))).trans (K8.to_below (by omega) (fun b e => by omega))).trans (kept_put1.to_below (by have := K8.size; omega) (fun b e => by omega))
  case stop =>
    rintro x W ⟨rfl, hI⟩ hK
    have HI := Aside.mk hI
    have HK := Aside.mk hK
    clear hI hK
    have HCOL := Aside.mk (column_BS _ bl c.k c.s _ HSM.out.1 HSM.out.2.1 HSM.out.2.2.1 HSM.out.2.2.2.1 HSM.out.2.2.2.2 W HI.out.bs)
    generalize CS.app c.k CS.zero (pieceC c f t) = J2 at *
    have d0 : W.cell? ⟨w4.heap.size, 0, none⟩ = some (.pointer (some ⟨bl, 0, none⟩)) := by rw [cell_blk HI.out.b0]; rfl
    go_wp2_with (go_at_call 34; refine HCOL.out.mono ?_; rintro e w7 ⟨B', D', E', X', vals, rfl, hoc, hb7⟩; have HOC := Aside.mk hoc; have HB7 := Aside.mk hb7; have hr4 := (hb7.block _ (lt_of_blk HI.out.bz)).trans HI.out.bz; obtain ⟨r0, r1, r2, r3, r4, r5, r6, r7⟩ := box8 hr4; have f0 := frozen_blk (k := 0) hr4; have f1 := frozen_blk (k := 1) hr4; have f2 := frozen_blk (k := 2) hr4; have f3 := frozen_blk (k := 3) hr4; have f4 := frozen_blk (k := 4) hr4; have f5 := frozen_blk (k := 5) hr4; have f6 := frozen_blk (k := 6) hr4; have f7 := frozen_blk (k := 7) hr4; have HR4 := Aside.mk hr4; clear hoc hb7 hr4; dsimp only [colV, CS.col])
    have K8 : Kept (fun b => b = w.heap.size + 1 + 1 + 1) w7 _ := kept8 w7 (w.heap.size + 1 + 1 + 1) (.int .i64 c.k) (.int .i64 c.s) (.int .i64 (J2.nulls.length : Int)) (.int .i64 (J2.nulls.length : Int)) (.slice B'.a (mof J2.nulls).length B'.c) (.slice D'.a J2.data.length D'.c) (.slice E'.a J2.ends.length E'.c) (.slice X'.a J2.words.length X'.c)
    have hs8 := set8 HR4.out (.int .i64 c.k) (.int .i64 c.s) (.int .i64 (J2.nulls.length : Int)) (.int .i64 (J2.nulls.length : Int)) (.slice B'.a (mof J2.nulls).length B'.c) (.slice D'.a J2.data.length D'.c) (.slice E'.a J2.ends.length E'.c) (.slice X'.a J2.words.length X'.c)
    obtain ⟨l0, l1, l2, l3⟩ := HL.out
    have hWs := lt_of_blk HI.out.bx
    have hKs := lt_of_blk HK.out
    have hK7 := (HB7.out.block _ (lt_of_blk HK.out)).trans HK.out
    have hK8 := (K8.block _ (lt_of_blk hK7) (by omega)).trans hK7
    obtain ⟨z0, z1, z2, z3, z4, z5, z6, z7⟩ := box8 ((World.putObj_heap_other (r := w6.heap.size) (o := .deferred none) (by omega)).trans hs8)
    refine left_marks hK8 (v := .tuple #[.agg #[.int .i64 c.k, .int .i64 c.s, .int .i64 (J2.nulls.length : Int), .int .i64 (J2.nulls.length : Int), .slice B'.a (mof J2.nulls).length B'.c, .slice D'.a J2.data.length D'.c, .slice E'.a J2.ends.length E'.c, .slice X'.a J2.words.length X'.c], .int .i64 0]) (by simp [results, Tryz.results109, go_sem, z0, z1, z2, z3, z4, z5, z6, z7]) ?_
    refine ⟨B', D', E', X', vals, rfl, (((HOC.out.kept K8 (fun b h => by omega)).kept kept_put1 (fun b h => by omega))).mono (by omega), ?_⟩
    have hw7 := HB7.out.size
    exact ((HI.out.bel.trans (HB7.out.mono (by omega))).trans (K8.to_below (by omega) (fun b e => by omega))).trans (kept_put1.to_below (by have := K8.size; omega) (fun b e => by omega))
end Go.Proofs.YtmhjjhaipcgbiaaGreat


namespace Go.Proofs.YtmhjjhaipcgbiaaGreat
open Go.RowKit
set_option linter.unusedVariables false
set_option linter.unusedSimpArgs false
set_option maxRecDepth 100000
set_option maxHeartbeats 4000000
def LayIn (k s : Int) (N : Nat) (l : List V) (i : Nat) (nv : Value) (w wr : World) : Prop := ∃ dv ev wv vals, LX w wr k s N (CS.of k (l.take i)) nv dv ev wv vals
def nrm (v : V) : V := bif v.null then ⟨true, 0, []⟩ else v
theorem nrm_text (v : V) : (nrm v).text.length ≤ v.text.length := by cases v with | mk n b t => cases n <;> simp [nrm]
theorem nrm_wf {v : V} (h : IsBytes v.text ∧ v.bits < 18446744073709551616) : IsBytes (nrm v).text ∧ (nrm v).bits < 18446744073709551616 := by
  cases v with
  | mk n b t =>
    cases n
    · exact h
    · exact ⟨fun x hx => (by cases hx), by simp [nrm]⟩
theorem nrm_id {k s : Int} {v : V} (h : vOK k s v) : nrm v = v := by
  cases v with
  | mk n b t =>
    cases n
    · rfl
    · obtain ⟨h1, h2⟩ := h.2.2.1 rfl
      simp only at h1 h2
      subst h1 h2
      rfl
theorem nrm_map {k s : Int} {l : List V} (h : ∀ v ∈ l, vOK k s v) : l.map nrm = l := by
  conv => rhs; rw [← List.map_id l]
  exact List.map_congr_left (fun v hv => nrm_id (h v hv))
theorem nrm_few {l : List V} (h : Few l) : Few (l.map nrm) := ⟨by simpa using h.1, fun v hv => by
  obtain ⟨u, hu, rfl⟩ := List.mem_map.1 hv
  exact Nat.le_trans (nrm_text u) (h.2 u hu)⟩
theorem room_wf {k : Int} {l : List V} (hf : Few l) (hl : ∀ v ∈ l, IsBytes v.text ∧ v.bits < 18446744073709551616) {i : Nat} (hi : i < l.length) : Room (CS.of k (l.take i)) l[i] := by
  have hm := List.getElem_mem hi
  obtain ⟨h1, h2, h3, h4⟩ := of_sizes k (l.take i) (fun v hv => hf.2 v (List.mem_of_mem_take hv))
  have h5 := hf.2 _ hm
  have h6 := hf.1
  rw [List.length_take] at h1 h2 h3 h4
  exact ⟨by omega, by omega, by omega, by omega, (hl _ hm).1, (hl _ hm).2⟩
theorem lay_next {k s : Int} {N : Nat} {l : List V} {i : Nat} {nv dv ev wv : Value} {vals : List Value} {w W : World} {c c' : CS} {v : V} (hn : CS.of k (l.take (i + 1)) = c.add k v) (e : c.add k v = c') (h : LX w W k s N c' nv dv ev wv vals) : LayIn k s N l (i + 1) nv w W := ⟨dv, ev, wv, vals, by rw [hn, e]; exact h⟩
theorem lay_start (w : World) (k s : Int) (n : Nat) : LX w ((((w.alloc (.cells #[.int .i64 k, .int .i64 s] 23)).alloc (.cells #[.int .i64 0, .int .i64 0, .int .i64 0, .int .i64 0, .slice none 0 0, .slice none 0 0, .slice none 0 0, .slice none 0 0] 63)).alloc (.cells #[.int .i64 k, .int .i64 s, .int .i64 (n : Int), .int .i64 0, .slice none 0 0, .slice none 0 0, .slice none 0 0, .slice none 0 0] 63)).alloc (.cells #[.slice none 0 0] 148)) k s n CS.zero (.slice none 0 0) (.slice none 0 0) (.slice none 0 0) (.slice none 0 0) [] := by
  obtain ⟨h1, h2, h3, h4, h5, h6⟩ := below_four w (.cells #[.int .i64 k, .int .i64 s] 23 (0, 0)) (.cells #[.int .i64 0, .int .i64 0, .int .i64 0, .int .i64 0, .slice none 0 0, .slice none 0 0, .slice none 0 0, .slice none 0 0] 63 (0, 0)) (.cells #[.int .i64 k, .int .i64 s, .int .i64 (n : Int), .int .i64 0, .slice none 0 0, .slice none 0 0, .slice none 0 0, .slice none 0 0] 63 (0, 0)) (.cells #[.slice none 0 0] 148 (0, 0))
  exact ⟨h3, h4, h5, ⟨h6, by omega, Own.nil _ _ _ _, rfl, (fun j t hj _ => absurd hj (Nat.not_lt_zero _)), (fun j j' _ _ _ hj => absurd hj (Nat.not_lt_zero _)), (fun t ht => (by cases ht))⟩, Own.nil _ _ _ _, Own.nil _ _ _ _, Own.nil _ _ _ _, fun v hv => (by cases hv), h1⟩
theorem lay_end {w wr w5 : World} {k s : Int} {n : Nat} {c : CS} {nv : Value} {da ea wa ma : Option Addr} {dc ec wc mc : Nat} {vals : List Value} (hL : LX w wr k s n c nv (.slice da c.data.length dc) (.slice ea c.ends.length ec) (.slice wa c.words.length wc) vals) (h5 : LX w w5 k s n c nv (.slice da c.data.length dc) (.slice ea c.ends.length ec) (.slice wa c.words.length wc) vals)
    (ho : Own w5 wr.heap.size 5 1 (.slice ma (mof c.nulls).length mc) (mof c.nulls).length ((mof c.nulls).map (.int .u8))) (hb : Below wr.heap.size wr w5) (x : Int) :
    OwnC (((((((((((w5.setCell ⟨w.heap.size + 1 + 1, 3, none⟩ (.int .i64 (c.nulls.length : Int))).setCell ⟨w.heap.size + 1 + 1, 4, none⟩ (.slice ma (mof c.nulls).length mc)).setCell ⟨w.heap.size + 1 + 1, 7, none⟩ (.slice wa c.words.length wc)).setCell ⟨w.heap.size + 1, 0, none⟩ (.int .i64 k)).setCell ⟨w.heap.size + 1, 1, none⟩ (.int .i64 s)).setCell ⟨w.heap.size + 1, 2, none⟩ (.int .i64 x)).setCell ⟨w.heap.size + 1, 3, none⟩ (.int .i64 (c.nulls.length : Int))).setCell ⟨w.heap.size + 1, 4, none⟩ (.slice ma (mof c.nulls).length mc)).setCell ⟨w.heap.size + 1, 5, none⟩ (.slice da c.data.length dc)).setCell ⟨w.heap.size + 1, 6, none⟩ (.slice ea c.ends.length ec)).setCell ⟨w.heap.size + 1, 7, none⟩ (.slice wa c.words.length wc)) w.heap.size (c.col k s) ⟨ma, mc⟩ ⟨da, dc⟩ ⟨ea, ec⟩ ⟨wa, wc⟩ vals ∧
    Below w.heap.size w (((((((((((w5.setCell ⟨w.heap.size + 1 + 1, 3, none⟩ (.int .i64 (c.nulls.length : Int))).setCell ⟨w.heap.size + 1 + 1, 4, none⟩ (.slice ma (mof c.nulls).length mc)).setCell ⟨w.heap.size + 1 + 1, 7, none⟩ (.slice wa c.words.length wc)).setCell ⟨w.heap.size + 1, 0, none⟩ (.int .i64 k)).setCell ⟨w.heap.size + 1, 1, none⟩ (.int .i64 s)).setCell ⟨w.heap.size + 1, 2, none⟩ (.int .i64 x)).setCell ⟨w.heap.size + 1, 3, none⟩ (.int .i64 (c.nulls.length : Int))).setCell ⟨w.heap.size + 1, 4, none⟩ (.slice ma (mof c.nulls).length mc)).setCell ⟨w.heap.size + 1, 5, none⟩ (.slice da c.data.length dc)).setCell ⟨w.heap.size + 1, 6, none⟩ (.slice ea c.ends.length ec)).setCell ⟨w.heap.size + 1, 7, none⟩ (.slice wa c.words.length wc)) := by
  have K : Kept (fun b => b = w.heap.size + 1 + 1 ∨ b = w.heap.size + 1) w5 (((((((((((w5.setCell ⟨w.heap.size + 1 + 1, 3, none⟩ (.int .i64 (c.nulls.length : Int))).setCell ⟨w.heap.size + 1 + 1, 4, none⟩ (.slice ma (mof c.nulls).length mc)).setCell ⟨w.heap.size + 1 + 1, 7, none⟩ (.slice wa c.words.length wc)).setCell ⟨w.heap.size + 1, 0, none⟩ (.int .i64 k)).setCell ⟨w.heap.size + 1, 1, none⟩ (.int .i64 s)).setCell ⟨w.heap.size + 1, 2, none⟩ (.int .i64 x)).setCell ⟨w.heap.size + 1, 3, none⟩ (.int .i64 (c.nulls.length : Int))).setCell ⟨w.heap.size + 1, 4, none⟩ (.slice ma (mof c.nulls).length mc)).setCell ⟨w.heap.size + 1, 5, none⟩ (.slice da c.data.length dc)).setCell ⟨w.heap.size + 1, 6, none⟩ (.slice ea c.ends.length ec)).setCell ⟨w.heap.size + 1, 7, none⟩ (.slice wa c.words.length wc)) := by
    refine Kept.trans ?_ (kept8 _ (w.heap.size + 1) _ _ _ _ _ _ _ _) (fun b e _ => .inr e)
    refine Kept.trans (Kept.trans (Kept.trans (Kept.refl _ w5) (Kept.setCell _ _ _) (fun b e _ => .inl e)) (Kept.setCell _ _ _) (fun b e _ => .inl e)) (Kept.setCell _ _ _) (fun b e _ => .inl e)
  generalize (((((((((((w5.setCell ⟨w.heap.size + 1 + 1, 3, none⟩ (.int .i64 (c.nulls.length : Int))).setCell ⟨w.heap.size + 1 + 1, 4, none⟩ (.slice ma (mof c.nulls).length mc)).setCell ⟨w.heap.size + 1 + 1, 7, none⟩ (.slice wa c.words.length wc)).setCell ⟨w.heap.size + 1, 0, none⟩ (.int .i64 k)).setCell ⟨w.heap.size + 1, 1, none⟩ (.int .i64 s)).setCell ⟨w.heap.size + 1, 2, none⟩ (.int .i64 x)).setCell ⟨w.heap.size + 1, 3, none⟩ (.int .i64 (c.nulls.length : Int))).setCell ⟨w.heap.size + 1, 4, none⟩ (.slice ma (mof c.nulls).length mc)).setCell ⟨w.heap.size + 1, 5, none⟩ (.slice da c.data.length dc)).setCell ⟨w.heap.size + 1, 6, none⟩ (.slice ea c.ends.length ec)).setCell ⟨w.heap.size + 1, 7, none⟩ (.slice wa c.words.length wc)) = W at *
  have ty : ∀ {F : TypeId}, F ≠ 63 → ∀ b, (b = w.heap.size + 1 + 1 ∨ b = w.heap.size + 1) → b < w5.heap.size → ∀ cs, w5.heap[b]? ≠ some (.cells cs F (0, 0)) := by
    rintro F hF b (rfl | rfl) hb cs hc
    · rw [h5.bc] at hc; cases hc; exact hF rfl
    · rw [h5.br] at hc; cases hc; exact hF rfl
  have hsz := hL.bel.size
  refine ⟨⟨(ho.keptT K (ty (by decide))).mono hsz, h5.data.keptT K (ty (by decide)), h5.ends.keptT K (ty (by decide)), h5.words.row.keptT K (ty (by decide)), h5.words.len, fun j t hj ht => ?_, ⟨fun b e e2 => ?_, fun v hv b e => ⟨fun e2 => ?_, fun e2 => ?_⟩, ?_⟩⟩, h5.bel.trans (K.to_below h5.bel.size (fun b e => by omega))⟩
  · obtain ⟨a, cap, q1, q2⟩ := h5.words.each j t hj ht
    exact ⟨a, cap, q1, q2.keptT K (ty (by decide))⟩
  · rw [← own_len00 ma (mof c.nulls).length mc] at e
    rw [← own_len00 da c.data.length dc] at e2
    have := (ho.lt b e).1
    have := (hL.data.lt b e2).2
    omega
  · rw [← own_len00 ma (mof c.nulls).length mc] at e2
    have := (ho.lt b e2).1
    have := (hL.word_lt v hv b e).1
    omega
  · rw [← own_len00 da c.data.length dc] at e2
    exact hL.apart v hv b e e2
  · rw [hL.words.len]; exact hL.words.sep
set_option maxHeartbeats 40000000 in
theorem lay_gen (k s : Int) (l : List V) (ho : okType k s = true) (hf : Few l) (hl : ∀ v ∈ l, IsBytes v.text ∧ v.bits < 18446744073709551616) (A : SL) (w : World) (h : RdVs w A l) :
    Calls Tryz.prog 25 #[.agg #[.int .i64 k, .int .i64 s], .slice A.a l.length A.c] w (ColBP ((CS.of k (l.map nrm)).col k s) w) := by
  obtain ⟨aa, ac⟩ := A
  have HR := Aside.mk h
  have HF := Aside.mk (nrm_few hf)
  have HLO := Aside.mk (show ∀ v ∈ l.map nrm, IsBytes v.text ∧ v.bits < 18446744073709551616 from fun v hv => by
    obtain ⟨u, hu, rfl⟩ := List.mem_map.1 hv
    exact nrm_wf (hl u hu))
  have HLV := Aside.mk hl
  have HML := Aside.mk (show ∀ {i : Nat} (hi : i < l.length) (hm : i < (l.map nrm).length), (l.map nrm)[i]'hm = nrm l[i] from fun hi hm => by simp)
  have HLL := Aside.mk (show (l.map nrm).length = l.length by simp)
  have HO := Aside.mk ho
  have hfl := hf.1
  clear h hf hl ho
  generalize l.map nrm = m at *
  dsimp only
  go_enter Tryz.func25, Tryz.ntmps25
  go_wp2_with fail
  go_loopw [6, 8] (fun nv iv wr => ∃ i : Nat, i ≤ l.length ∧ iv = .int .i64 (i : Int) ∧ Aside (LayIn k s l.length m i nv w wr)) (fun _ iv _ => l.length - (intOf iv).toNat)
  case atStart =>
    exact ⟨0, by omega, rfl, ⟨.slice none 0 0, .slice none 0 0, .slice none 0 0, [], lay_start w k s l.length⟩⟩
  case round =>
    obtain ⟨i, hi, rfl, hp⟩ := hrel
    obtain ⟨dv, ev, wv, vals, hL⟩ := hp.out
    clear hp
    have c0 := cell_blk (k := 0) hL.bt
    have c1 := cell_blk (k := 1) hL.bt
    simp at c0 c1
    by_cases hlt : i < l.length
    · obtain ⟨g, off, cap, ta, tc, e1, e2, q1, q2, v0, v1, v2, hrt⟩ := HR.out.at hlt
      simp only at e1 e2
      subst e1 e2
      have HRT := Aside.mk hrt
      have hlm : i < m.length := by have := HLL.out; omega
      have HROOM := Aside.mk (show Room (CS.of k (m.take i)) (nrm l[i]) from by rw [← HML.out hlt hlm]; exact room_wf HF.out HLO.out hlm)
      have HNX := Aside.mk (show CS.of k (m.take (i + 1)) = (CS.of k (m.take i)).add k (nrm l[i]) from by rw [← HML.out hlt hlm]; exact of_next k m hlm)
      have HV := Aside.mk (HLV.out _ (List.getElem_mem hlt))
      obtain ⟨s1, s2, s3, s4⟩ := of_sizes k (m.take i) (fun v hv => HF.out.2 v (List.mem_of_mem_take hv))
      rw [List.length_take] at s1 s2 s3 s4
      clear hrt hlm
      generalize l[i] = v at *
      generalize CS.of k (m.take i) = c at *
      obtain ⟨vn, vb, vt⟩ := v
      dsimp only at v0 v1 v2 HRT
      have HV0 := Aside.mk v0
      have HV1 := Aside.mk v1
      have HV2 := Aside.mk v2
      clear v0 v1 v2 c0 c1
      obtain ⟨na, nc, rfl⟩ := hL.nulls.form
      obtain ⟨da, dc, rfl⟩ := hL.data.form
      obtain ⟨ea, ec, rfl⟩ := hL.ends.form
      have HL := Aside.mk hL
      clear hL
      have HNN := Aside.mk HL.out.nulls
      obtain ⟨nn, hnn⟩ : ∃ n, n = c.nulls.length := ⟨_, rfl⟩
      rw [← hnn] at HNN
      rw [← hnn]
      have HN2 := Aside.mk hnn
      have hn8 : nn ≤ 20000 := by omega
      clear hnn
      obtain ⟨en, hen⟩ : ∃ n, n = c.ends.length := ⟨_, rfl⟩
      have HE2 := Aside.mk hen
      have he8 : en ≤ 20000 := by omega
      clear hen
      obtain ⟨dn, hdn⟩ : ∃ n, n = c.data.length := ⟨_, rfl⟩
      have HD2 := Aside.mk hdn
      have hd8 : dn ≤ 98000000 := by omega
      clear hdn
      -- ROUND
      have c0 := cell_blk (k := 0) HL.out.bt
      have c1 := cell_blk (k := 1) HL.out.bt
      simp at c0 c1
      obtain ⟨b0, b1, b2, b3, b4, b5, b6, b7⟩ := box8 HL.out.bc
      have fz := fun k => frozen_blk (k := k) HL.out.bc
      have u0 := (HL.out.bel.cell (p := ⟨g, off + i * 3, none⟩) (World.block_lt_of_cell? _ _ HV0.out)).trans HV0.out
      have u1 := (HL.out.bel.cell (p := ⟨g, off + i * 3 + 1, none⟩) (World.block_lt_of_cell? _ _ HV1.out)).trans HV1.out
      have u2 := (HL.out.bel.cell (p := ⟨g, off + i * 3 + 2, none⟩) (World.block_lt_of_cell? _ _ HV2.out)).trans HV2.out
      have hlc := lt_of_blk HL.out.bc
      have hlb := lt_of_blk HL.out.bt
      have hlg := World.block_lt_of_cell? _ _ u0
      try dsimp only at b5 b6
      rw [← HE2.out] at b6
      rw [← HD2.out] at b5
      by_cases h15 : k = 15
      · subst h15
        cases vn with
        | true =>
          replace HNX := Aside.mk (show CS.of 15 (m.take (i + 1)) = c.add 15 ⟨true, 0, []⟩ from HNX.out)
          go_wp2_with (at_builtin; refine wpList_app2 _ rfl _ _ 140 140 rfl w.heap.size 4 (.bool false) 1 1 Tryz.underlying140 boolinfo rfl _ nn (c.nulls.map .bool) rfl (HNN.out.alloc _) _ 1 [_] rfl (src_one Tryz.underlying140 _ _ _ rfl rfl) (by unfold maxLen; omega) (by omega) (by have := HL.out.bel.size; simp; omega) ?_)
          intro v5 w5 hA
          obtain ⟨na5, nc5, rfl⟩ := hA.own.form
          have H5 := Aside.mk (LX.null HL.out (by rw [← HN2.out]; exact hA))
          clear hA
          clear c0 c1 b0 b1 b2 b3 b4 b5 b6 b7 fz u0 u1 u2 hlc hlb hlg
          have c0 := cell_blk (k := 0) H5.out.bt
          have c1 := cell_blk (k := 1) H5.out.bt
          simp at c0 c1
          obtain ⟨b0, b1, b2, b3, b4, b5, b6, b7⟩ := box8 H5.out.bc
          have fz := fun k => frozen_blk (k := k) H5.out.bc
          have u0 := (H5.out.bel.cell (p := ⟨g, off + i * 3, none⟩) (World.block_lt_of_cell? _ _ HV0.out)).trans HV0.out
          have u1 := (H5.out.bel.cell (p := ⟨g, off + i * 3 + 1, none⟩) (World.block_lt_of_cell? _ _ HV1.out)).trans HV1.out
          have u2 := (H5.out.bel.cell (p := ⟨g, off + i * 3 + 2, none⟩) (World.block_lt_of_cell? _ _ HV2.out)).trans HV2.out
          have hlc := lt_of_blk H5.out.bc
          have hlb := lt_of_blk H5.out.bt
          have hlg := World.block_lt_of_cell? _ _ u0
          try dsimp only at b5 b6
          rw [← HE2.out] at b6
          rw [← HD2.out] at b5
          have HEN := Aside.mk H5.out.ends
          dsimp only at HEN
          rw [← HE2.out] at HEN
          go_wp2_with (at_builtin; refine wpList_app2 _ rfl _ _ 61 61 rfl w.heap.size 3 (.int .i64 0) 1 8 Tryz.underlying61 intinfo2 rfl _ en (c.ends.map (.int .i64)) rfl (HEN.out.alloc _) _ 1 [_] rfl (src_one Tryz.underlying61 _ _ _ rfl rfl) (by unfold maxLen; omega) (by omega) (by have := H5.out.bel.size; simp; omega) ?_)
          intro v6 w6 hA
          obtain ⟨ea6, ec6, rfl⟩ := hA.own.form
          have H6 := Aside.mk (LX.end_ H5.out (by dsimp only; rw [← HE2.out]; exact hA))
          have g6 := ((show Kept (fun b => (Value.slice ea en ec).ownBlock = some b) w5 w6 from (Kept.of_below (below_new w5 _)).trans ((Kept.of_grown hA.grown).mono (fun b e _ => e.symm)) (fun _ e _ => e)).block _ hlc (fun e => HEN.out.blk_ne H5.out.bc (by decide) e)).trans H5.out.bc
          clear hA b0 b1 b2 b3 b4 b5 b6 b7 fz
          obtain ⟨b0, b1, b2, b3, b4, b5, b6, b7⟩ := box8 g6
          have fz := fun k => frozen_blk (k := k) g6
          clear g6
          go_wp2_with fail
          exact ⟨⟨i + 1, by omega, by simp, ⟨lay_next HNX.out (by simp [CS.add, HD2.out]) H6.out⟩⟩, by simp [intOf]; omega⟩
        | false =>
          replace HNX := Aside.mk (show CS.of 15 (m.take (i + 1)) = c.add 15 ⟨false, vb, vt⟩ from HNX.out)
          replace HROOM := Aside.mk (show Room c ⟨false, vb, vt⟩ from HROOM.out)
          have hvt := HV.out.1
          have hr1 := HROOM.out.1
          dsimp only at hr1
          go_wp2_with (at_builtin; refine wpList_app2 _ rfl _ _ 140 140 rfl w.heap.size 4 (.bool false) 1 1 Tryz.underlying140 boolinfo rfl _ nn (c.nulls.map .bool) rfl (HNN.out.alloc _) _ 1 [_] rfl (src_one Tryz.underlying140 _ _ _ rfl rfl) (by unfold maxLen; omega) (by omega) (by have := HL.out.bel.size; simp; omega) ?_)
          intro v5 w5 hA
          obtain ⟨na5, nc5, rfl⟩ := hA.own.form
          have H5 := Aside.mk (LX.null HL.out (by rw [← HN2.out]; exact hA))
          clear hA
          clear c0 c1 b0 b1 b2 b3 b4 b5 b6 b7 fz u0 u1 u2 hlc hlb hlg
          have c0 := cell_blk (k := 0) H5.out.bt
          have c1 := cell_blk (k := 1) H5.out.bt
          simp at c0 c1
          obtain ⟨b0, b1, b2, b3, b4, b5, b6, b7⟩ := box8 H5.out.bc
          have fz := fun k => frozen_blk (k := k) H5.out.bc
          have u0 := (H5.out.bel.cell (p := ⟨g, off + i * 3, none⟩) (World.block_lt_of_cell? _ _ HV0.out)).trans HV0.out
          have u1 := (H5.out.bel.cell (p := ⟨g, off + i * 3 + 1, none⟩) (World.block_lt_of_cell? _ _ HV1.out)).trans HV1.out
          have u2 := (H5.out.bel.cell (p := ⟨g, off + i * 3 + 2, none⟩) (World.block_lt_of_cell? _ _ HV2.out)).trans HV2.out
          have hlc := lt_of_blk H5.out.bc
          have hlb := lt_of_blk H5.out.bt
          have hlg := World.block_lt_of_cell? _ _ u0
          try dsimp only at b5 b6
          rw [← HE2.out] at b6
          rw [← HD2.out] at b5
          have HDA := Aside.mk H5.out.data
          dsimp only at HDA
          rw [← HD2.out] at HDA
          have hrd5 := HRT.out.below H5.out.bel
          have HSR := Aside.mk ((hrd5.below (below_drewN w5 _ 1)).src (P := Tryz.prog) Tryz.underlying43 (one_map (fun x : Int => Value.int .u8 x) (fun _ => rfl) vt))
          clear hrd5
          generalize hvl : vt.length = vl at *
          have HVL := Aside.mk hvl
          clear hvl
          go_wp2_with fail
          go_region_law ((refine step_app2 (P := Tryz.prog) w5.drew (.tmp 46) (.tmp 51) 43 43 (by rfl) (by rfl) w.heap.size 5 (.int .u8 0) 1 1 Tryz.underlying43 u8info (by rfl) (.slice da dn dc) dn (c.data.map (.int .u8)) (by rfl) (HDA.out.drewN 1) (.slice ta vl tc) vl (vt.map (.int .u8)) (by rfl) HSR.out (by unfold maxLen; omega) (by omega) (by have := H5.out.bel.size; exact this) ?_; intro v7 w7 hA; obtain ⟨da7, dc7, rfl⟩ := hA.own.form; have K7 := Aside.mk (show Kept (fun b => (Value.slice da dn dc).ownBlock = some b) w5 w7 from (Kept.of_below (below_drewN w5 _ 1)).trans ((Kept.of_grown hA.grown).mono (fun b e _ => e.symm)) (fun _ e _ => e)); have g7 := (K7.out.block _ hlc (fun e => HDA.out.blk_ne H5.out.bc (by decide) e)).trans H5.out.bc; clear b0 b1 b2 b3 b4 b5 b6 b7 fz; obtain ⟨b0, b1, b2, b3, b4, b5, b6, b7⟩ := box8 g7; have fz := fun k => frozen_blk (k := k) g7; have HA7 := Aside.mk hA; clear hA g7))
          all_goals
            have HE7 := Aside.mk H5.out.ends
            have H8 := Aside.mk (LX.dat (data' := c.data ++ vt) H5.out (by rw [← HD2.out]; exact K7.out) (by rw [List.length_append, HVL.out, ← HD2.out, List.map_append]; exact HA7.out.own) (by rw [← HD2.out]; exact HA7.out.blk))
            clear c0 c1 b0 b1 b2 b3 b4 b5 b6 b7 fz u0 u1 u2 hlb hlg hlc
            go_upto_region 12 with fail
            generalize w7.setCell ⟨w.heap.size + 1 + 1, 5, none⟩ (.slice da7 (dn + vl) dc7) = w8 at *
            obtain ⟨b0, b1, b2, b3, b4, b5, b6, b7⟩ := box8 H8.out.bc
            have fz := fun k => frozen_blk (k := k) H8.out.bc
            have hlc := lt_of_blk H8.out.bc
            rw [← HE2.out] at b6
            have HEN := Aside.mk H8.out.ends
            dsimp only at HEN
            rw [← HE2.out] at HEN
            go_wp2_with (at_builtin; refine wpList_app2 _ rfl _ _ 61 61 rfl w.heap.size 3 (.int .i64 0) 1 8 Tryz.underlying61 intinfo2 rfl _ en (c.ends.map (.int .i64)) rfl (HEN.out.alloc _) _ 1 [_] rfl (src_one Tryz.underlying61 _ _ _ rfl rfl) (by unfold maxLen; omega) (by omega) (by have := H8.out.bel.size; simp; omega) ?_)
            intro v6 w6 hA
            obtain ⟨ea6, ec6, rfl⟩ := hA.own.form
            have H6 := Aside.mk (LX.end_ H8.out (by dsimp only; rw [← HE2.out]; exact hA))
            have g6 := ((show Kept (fun b => (Value.slice ea en ec).ownBlock = some b) w8 w6 from (Kept.of_below (below_new w8 _)).trans ((Kept.of_grown hA.grown).mono (fun b e _ => e.symm)) (fun _ e _ => e)).block _ hlc (fun e => HEN.out.blk_ne H8.out.bc (by decide) e)).trans H8.out.bc
            clear hA b0 b1 b2 b3 b4 b5 b6 b7 fz
            obtain ⟨b0, b1, b2, b3, b4, b5, b6, b7⟩ := box8 g6
            have fz := fun k => frozen_blk (k := k) g6
            clear g6
            go_wp2_with fail
            exact ⟨⟨i + 1, by omega, by simp, ⟨lay_next HNX.out (by simp [CS.add, HD2.out, ← HVL.out]) H6.out⟩⟩, by simp [intOf]; omega⟩
      · have k15 : (k == 15) = false := by simpa using h15
        obtain ⟨Wn, hW, _, hW8⟩ := width_pos HO.out h15
        have HWD := Aside.mk (fun W : World => show Calls Tryz.prog 78 #[.int .i64 k] W fun e w' => e = .returned (.int .i64 (Wn : Int)) ∧ W = w' from by have := r18width_any k W; rwa [hW] at this)
        have HW2 := Aside.mk hW
        clear hW
        have hvb := HV.out.2
        dsimp only at hvb
        by_cases h16 : k = 16
        · subst h16
          have hw4 : Wn = 4 := by have := HW2.out; simp [widthOf] at this; omega
          have HW4 := Aside.mk hw4
          clear hw4
          cases vn with
          | true =>
            replace HNX := Aside.mk (show CS.of 16 (m.take (i + 1)) = c.add 16 ⟨true, 0, []⟩ from HNX.out)
            go_wp2_with (at_builtin; refine wpList_app2 _ rfl _ _ 140 140 rfl w.heap.size 4 (.bool false) 1 1 Tryz.underlying140 boolinfo rfl _ nn (c.nulls.map .bool) rfl (HNN.out.alloc _) _ 1 [_] rfl (src_one Tryz.underlying140 _ _ _ rfl rfl) (by unfold maxLen; omega) (by omega) (by have := HL.out.bel.size; simp; omega) ?_)
            intro v5 w5 hA
            obtain ⟨na5, nc5, rfl⟩ := hA.own.form
            have H5 := Aside.mk (LX.null HL.out (by rw [← HN2.out]; exact hA))
            clear hA
            clear c0 c1 b0 b1 b2 b3 b4 b5 b6 b7 fz u0 u1 u2 hlc hlb hlg
            have c0 := cell_blk (k := 0) H5.out.bt
            have c1 := cell_blk (k := 1) H5.out.bt
            simp at c0 c1
            obtain ⟨b0, b1, b2, b3, b4, b5, b6, b7⟩ := box8 H5.out.bc
            have fz := fun k => frozen_blk (k := k) H5.out.bc
            have u0 := (H5.out.bel.cell (p := ⟨g, off + i * 3, none⟩) (World.block_lt_of_cell? _ _ HV0.out)).trans HV0.out
            have u1 := (H5.out.bel.cell (p := ⟨g, off + i * 3 + 1, none⟩) (World.block_lt_of_cell? _ _ HV1.out)).trans HV1.out
            have u2 := (H5.out.bel.cell (p := ⟨g, off + i * 3 + 2, none⟩) (World.block_lt_of_cell? _ _ HV2.out)).trans HV2.out
            have hlc := lt_of_blk H5.out.bc
            have hlb := lt_of_blk H5.out.bt
            have hlg := World.block_lt_of_cell? _ _ u0
            try dsimp only at b5 b6
            rw [← HE2.out] at b6
            rw [← HD2.out] at b5
            go_wp2_with fail
            have HDA := Aside.mk H5.out.data
            dsimp only at HDA
            have HPUT := Aside.mk (put18_any w.heap.size c.data (0) Wn (by decide) hW8 (by omega) da dc w5.drew (HDA.out.drewN 1) (H5.out.bel.size))
            rw [← HD2.out] at HPUT HDA
            go_region_law (first
              | (refine step_call (P := Tryz.prog) w5.drew (by rfl) 78 [.tmp 91] _ (by rfl) [.int .i64 16] (by rfl) (fun _ _ => rfl) (HWD.out _) ?_; rintro e wn ⟨rfl, rfl⟩; refine ⟨_, rfl, ?_⟩)
              | (refine step_call (P := Tryz.prog) w5.drew (by rfl) 77 [.tmp 88, .tmp 89, .tmp 92] _ (by rfl) [.slice da dn dc, .int .u64 ((0 : Nat) : Int), .int .i64 (Wn : Int)] (by rfl) (fun _ _ => rfl) HPUT.out ?_; rintro e w7 ⟨da7, dc7, rfl, ho, hk, hb⟩; rw [← HD2.out] at ho hk hb ⊢; have K7 := Aside.mk (show Kept (fun b => (Value.slice da dn dc).ownBlock = some b) w5 w7 from (Kept.of_below (below_drewN w5 _ 1)).trans hk (fun _ e _ => e)); have g7 := (K7.out.block _ hlc (fun e => HDA.out.blk_ne H5.out.bc (by decide) e)).trans H5.out.bc; clear b0 b1 b2 b3 b4 b5 b6 b7 fz; obtain ⟨b0, b1, b2, b3, b4, b5, b6, b7⟩ := box8 g7; have fz := fun k => frozen_blk (k := k) g7; have HA7 := Aside.mk (And.intro ho hb); clear ho hk hb g7; refine ⟨_, rfl, ?_⟩))
            all_goals
              have H8 := Aside.mk (LX.dat (data' := c.data ++ lows (0) Wn) H5.out (by rw [← HD2.out]; exact K7.out) (by rw [List.length_append, lows_len, ← HD2.out]; exact HA7.out.1) (by rw [← HD2.out]; exact HA7.out.2))
              go_wp2_with fail
              exact ⟨⟨i + 1, by omega, by simp, ⟨lay_next HNX.out (by rw [HW4.out]; simp [CS.add]) H8.out⟩⟩, by simp [intOf]; omega⟩
          | false =>
            replace HNX := Aside.mk (show CS.of 16 (m.take (i + 1)) = c.add 16 ⟨false, vb, vt⟩ from HNX.out)
            replace HROOM := Aside.mk (show Room c ⟨false, vb, vt⟩ from HROOM.out)
            have hvt := HV.out.1
            dsimp only at hvt
            have hr1 := HROOM.out.1
            dsimp only at hr1
            go_wp2_with (at_builtin; refine wpList_app2 _ rfl _ _ 140 140 rfl w.heap.size 4 (.bool false) 1 1 Tryz.underlying140 boolinfo rfl _ nn (c.nulls.map .bool) rfl (HNN.out.alloc _) _ 1 [_] rfl (src_one Tryz.underlying140 _ _ _ rfl rfl) (by unfold maxLen; omega) (by omega) (by have := HL.out.bel.size; simp; omega) ?_)
            intro v5 w5 hA
            obtain ⟨na5, nc5, rfl⟩ := hA.own.form
            have H5 := Aside.mk (LX.null HL.out (by rw [← HN2.out]; exact hA))
            clear hA
            clear c0 c1 b0 b1 b2 b3 b4 b5 b6 b7 fz u0 u1 u2 hlc hlb hlg
            have c0 := cell_blk (k := 0) H5.out.bt
            have c1 := cell_blk (k := 1) H5.out.bt
            simp at c0 c1
            obtain ⟨b0, b1, b2, b3, b4, b5, b6, b7⟩ := box8 H5.out.bc
            have fz := fun k => frozen_blk (k := k) H5.out.bc
            have u0 := (H5.out.bel.cell (p := ⟨g, off + i * 3, none⟩) (World.block_lt_of_cell? _ _ HV0.out)).trans HV0.out
            have u1 := (H5.out.bel.cell (p := ⟨g, off + i * 3 + 1, none⟩) (World.block_lt_of_cell? _ _ HV1.out)).trans HV1.out
            have u2 := (H5.out.bel.cell (p := ⟨g, off + i * 3 + 2, none⟩) (World.block_lt_of_cell? _ _ HV2.out)).trans HV2.out
            have hlc := lt_of_blk H5.out.bc
            have hlb := lt_of_blk H5.out.bt
            have hlg := World.block_lt_of_cell? _ _ u0
            try dsimp only at b5 b6
            rw [← HE2.out] at b6
            rw [← HD2.out] at b5
            have HCO := Aside.mk (code17 w.heap.size (w.heap.size + 1 + 1 + 1) c.words wv vals vt hvt (by omega) (by omega) ta tc w5 H5.out.bel.size H5.out.words (HRT.out.below H5.out.bel))
            have hcq : codeOf c.words vt ≤ 100000000 := Nat.le_trans (codeOf_le _ _) (by omega)
            have hwq := wrap_u64 (codeOf c.words vt) (by omega)
            obtain ⟨q, hq⟩ : ∃ q, q = codeOf c.words vt := ⟨_, rfl⟩
            unfold Code17P at HCO
            rw [← hq] at HCO hcq hwq
            have HQ := Aside.mk hq
            clear hq
            go_upto_region 17 with (go_at_call 76; refine HCO.out.mono ?_; rintro e w6 ⟨rfl, wv6, vals6, hw6, hk6, hv6⟩; have H6 := Aside.mk (LX.word H5.out hw6 hk6 hv6); clear hw6 hk6 hv6 c0 c1 b0 b1 b2 b3 b4 b5 b6 b7 fz u0 u1 u2 hlc hlb hlg; have c0 := cell_blk (k := 0) H6.out.bt; have c1 := cell_blk (k := 1) H6.out.bt; simp at c0 c1; obtain ⟨b0, b1, b2, b3, b4, b5, b6, b7⟩ := box8 H6.out.bc; have fz := fun k => frozen_blk (k := k) H6.out.bc; have u0 := (H6.out.bel.cell (p := ⟨g, off + i * 3, none⟩) (World.block_lt_of_cell? _ _ HV0.out)).trans HV0.out; have hlc := lt_of_blk H6.out.bc)
            try dsimp only at b5 b6
            rw [← HE2.out] at b6
            rw [← HD2.out] at b5
            have HDA := Aside.mk H6.out.data
            dsimp only at HDA
            have HPUT := Aside.mk (put18_any w.heap.size c.data (q) Wn (by omega) hW8 (by omega) da dc w6.drew (HDA.out.drewN 1) (H6.out.bel.size))
            rw [← HD2.out] at HPUT HDA
            go_region_law (first
              | (refine step_call (P := Tryz.prog) w6.drew (by rfl) 78 [.tmp 91] _ (by rfl) [.int .i64 16] (by rfl) (fun _ _ => rfl) (HWD.out _) ?_; rintro e wn ⟨rfl, rfl⟩; refine ⟨_, rfl, ?_⟩)
              | (refine step_call (P := Tryz.prog) w6.drew (by rfl) 77 [.tmp 88, .tmp 89, .tmp 92] _ (by rfl) [.slice da dn dc, .int .u64 ((q : Nat) : Int), .int .i64 (Wn : Int)] (by rfl) (fun _ _ => rfl) HPUT.out ?_; rintro e w7 ⟨da7, dc7, rfl, ho, hk, hb⟩; rw [← HD2.out] at ho hk hb ⊢; have K7 := Aside.mk (show Kept (fun b => (Value.slice da dn dc).ownBlock = some b) w6 w7 from (Kept.of_below (below_drewN w6 _ 1)).trans hk (fun _ e _ => e)); have g7 := (K7.out.block _ hlc (fun e => HDA.out.blk_ne H6.out.bc (by decide) e)).trans H6.out.bc; clear b0 b1 b2 b3 b4 b5 b6 b7 fz; obtain ⟨b0, b1, b2, b3, b4, b5, b6, b7⟩ := box8 g7; have fz := fun k => frozen_blk (k := k) g7; have HA7 := Aside.mk (And.intro ho hb); clear ho hk hb g7; refine ⟨_, rfl, ?_⟩))
            all_goals
              have H8 := Aside.mk (LX.dat (data' := c.data ++ lows (q) Wn) H6.out (by rw [← HD2.out]; exact K7.out) (by rw [List.length_append, lows_len, ← HD2.out]; exact HA7.out.1) (by rw [← HD2.out]; exact HA7.out.2))
              go_wp2_with fail
              exact ⟨⟨i + 1, by omega, by simp, ⟨lay_next HNX.out (by rw [HW4.out, HQ.out]; simp [CS.add]) H8.out⟩⟩, by simp [intOf]; omega⟩
        · have k16 : (k == 16) = false := by simpa using h16
          cases vn with
          | true =>
            replace HNX := Aside.mk (show CS.of k (m.take (i + 1)) = c.add k ⟨true, 0, []⟩ from HNX.out)
            go_wp2_with (at_builtin; refine wpList_app2 _ rfl _ _ 140 140 rfl w.heap.size 4 (.bool false) 1 1 Tryz.underlying140 boolinfo rfl _ nn (c.nulls.map .bool) rfl (HNN.out.alloc _) _ 1 [_] rfl (src_one Tryz.underlying140 _ _ _ rfl rfl) (by unfold maxLen; omega) (by omega) (by have := HL.out.bel.size; simp; omega) ?_)
            intro v5 w5 hA
            obtain ⟨na5, nc5, rfl⟩ := hA.own.form
            have H5 := Aside.mk (LX.null HL.out (by rw [← HN2.out]; exact hA))
            clear hA
            clear c0 c1 b0 b1 b2 b3 b4 b5 b6 b7 fz u0 u1 u2 hlc hlb hlg
            have c0 := cell_blk (k := 0) H5.out.bt
            have c1 := cell_blk (k := 1) H5.out.bt
            simp at c0 c1
            obtain ⟨b0, b1, b2, b3, b4, b5, b6, b7⟩ := box8 H5.out.bc
            have fz := fun k => frozen_blk (k := k) H5.out.bc
            have u0 := (H5.out.bel.cell (p := ⟨g, off + i * 3, none⟩) (World.block_lt_of_cell? _ _ HV0.out)).trans HV0.out
            have u1 := (H5.out.bel.cell (p := ⟨g, off + i * 3 + 1, none⟩) (World.block_lt_of_cell? _ _ HV1.out)).trans HV1.out
            have u2 := (H5.out.bel.cell (p := ⟨g, off + i * 3 + 2, none⟩) (World.block_lt_of_cell? _ _ HV2.out)).trans HV2.out
            have hlc := lt_of_blk H5.out.bc
            have hlb := lt_of_blk H5.out.bt
            have hlg := World.block_lt_of_cell? _ _ u0
            try dsimp only at b5 b6
            rw [← HE2.out] at b6
            rw [← HD2.out] at b5
            go_wp2_with fail
            have HDA := Aside.mk H5.out.data
            dsimp only at HDA
            have HPUT := Aside.mk (put18_any w.heap.size c.data (0) Wn (by decide) hW8 (by omega) da dc w5.drew (HDA.out.drewN 1) (H5.out.bel.size))
            rw [← HD2.out] at HPUT HDA
            go_region_law (first
              | (refine step_call (P := Tryz.prog) w5.drew (by rfl) 78 [.tmp 91] _ (by rfl) [.int .i64 k] (by rfl) (fun _ _ => rfl) (HWD.out _) ?_; rintro e wn ⟨rfl, rfl⟩; refine ⟨_, rfl, ?_⟩)
              | (refine step_call (P := Tryz.prog) w5.drew (by rfl) 77 [.tmp 88, .tmp 89, .tmp 92] _ (by rfl) [.slice da dn dc, .int .u64 ((0 : Nat) : Int), .int .i64 (Wn : Int)] (by rfl) (fun _ _ => rfl) HPUT.out ?_; rintro e w7 ⟨da7, dc7, rfl, ho, hk, hb⟩; rw [← HD2.out] at ho hk hb ⊢; have K7 := Aside.mk (show Kept (fun b => (Value.slice da dn dc).ownBlock = some b) w5 w7 from (Kept.of_below (below_drewN w5 _ 1)).trans hk (fun _ e _ => e)); have g7 := (K7.out.block _ hlc (fun e => HDA.out.blk_ne H5.out.bc (by decide) e)).trans H5.out.bc; clear b0 b1 b2 b3 b4 b5 b6 b7 fz; obtain ⟨b0, b1, b2, b3, b4, b5, b6, b7⟩ := box8 g7; have fz := fun k => frozen_blk (k := k) g7; have HA7 := Aside.mk (And.intro ho hb); clear ho hk hb g7; refine ⟨_, rfl, ?_⟩))
            all_goals
              have H8 := Aside.mk (LX.dat (data' := c.data ++ lows (0) Wn) H5.out (by rw [← HD2.out]; exact K7.out) (by rw [List.length_append, lows_len, ← HD2.out]; exact HA7.out.1) (by rw [← HD2.out]; exact HA7.out.2))
              go_wp2_with fail
              exact ⟨⟨i + 1, by omega, by simp, ⟨lay_next HNX.out (by simp [CS.add, h15, h16, HW2.out]) H8.out⟩⟩, by simp [intOf]; omega⟩
          | false =>
            replace HNX := Aside.mk (show CS.of k (m.take (i + 1)) = c.add k ⟨false, vb, vt⟩ from HNX.out)
            replace HROOM := Aside.mk (show Room c ⟨false, vb, vt⟩ from HROOM.out)
            go_wp2_with (at_builtin; refine wpList_app2 _ rfl _ _ 140 140 rfl w.heap.size 4 (.bool false) 1 1 Tryz.underlying140 boolinfo rfl _ nn (c.nulls.map .bool) rfl (HNN.out.alloc _) _ 1 [_] rfl (src_one Tryz.underlying140 _ _ _ rfl rfl) (by unfold maxLen; omega) (by omega) (by have := HL.out.bel.size; simp; omega) ?_)
            intro v5 w5 hA
            obtain ⟨na5, nc5, rfl⟩ := hA.own.form
            have H5 := Aside.mk (LX.null HL.out (by rw [← HN2.out]; exact hA))
            clear hA
            clear c0 c1 b0 b1 b2 b3 b4 b5 b6 b7 fz u0 u1 u2 hlc hlb hlg
            have c0 := cell_blk (k := 0) H5.out.bt
            have c1 := cell_blk (k := 1) H5.out.bt
            simp at c0 c1
            obtain ⟨b0, b1, b2, b3, b4, b5, b6, b7⟩ := box8 H5.out.bc
            have fz := fun k => frozen_blk (k := k) H5.out.bc
            have u0 := (H5.out.bel.cell (p := ⟨g, off + i * 3, none⟩) (World.block_lt_of_cell? _ _ HV0.out)).trans HV0.out
            have u1 := (H5.out.bel.cell (p := ⟨g, off + i * 3 + 1, none⟩) (World.block_lt_of_cell? _ _ HV1.out)).trans HV1.out
            have u2 := (H5.out.bel.cell (p := ⟨g, off + i * 3 + 2, none⟩) (World.block_lt_of_cell? _ _ HV2.out)).trans HV2.out
            have hlc := lt_of_blk H5.out.bc
            have hlb := lt_of_blk H5.out.bt
            have hlg := World.block_lt_of_cell? _ _ u0
            try dsimp only at b5 b6
            rw [← HE2.out] at b6
            rw [← HD2.out] at b5
            go_wp2_with fail
            have HDA := Aside.mk H5.out.data
            dsimp only at HDA
            have HPUT := Aside.mk (put18_any w.heap.size c.data (vb) Wn (hvb) hW8 (by omega) da dc w5.drew (HDA.out.drewN 1) (H5.out.bel.size))
            rw [← HD2.out] at HPUT HDA
            go_region_law (first
              | (refine step_call (P := Tryz.prog) w5.drew (by rfl) 78 [.tmp 91] _ (by rfl) [.int .i64 k] (by rfl) (fun _ _ => rfl) (HWD.out _) ?_; rintro e wn ⟨rfl, rfl⟩; refine ⟨_, rfl, ?_⟩)
              | (refine step_call (P := Tryz.prog) w5.drew (by rfl) 77 [.tmp 88, .tmp 89, .tmp 92] _ (by rfl) [.slice da dn dc, .int .u64 ((vb : Nat) : Int), .int .i64 (Wn : Int)] (by rfl) (fun _ _ => rfl) HPUT.out ?_; rintro e w7 ⟨da7, dc7, rfl, ho, hk, hb⟩; rw [← HD2.out] at ho hk hb ⊢; have K7 := Aside.mk (show Kept (fun b => (Value.slice da dn dc).ownBlock = some b) w5 w7 from (Kept.of_below (below_drewN w5 _ 1)).trans hk (fun _ e _ => e)); have g7 := (K7.out.block _ hlc (fun e => HDA.out.blk_ne H5.out.bc (by decide) e)).trans H5.out.bc; clear b0 b1 b2 b3 b4 b5 b6 b7 fz; obtain ⟨b0, b1, b2, b3, b4, b5, b6, b7⟩ := box8 g7; have fz := fun k => frozen_blk (k := k) g7; have HA7 := Aside.mk (And.intro ho hb); clear ho hk hb g7; refine ⟨_, rfl, ?_⟩))
            all_goals
              have H8 := Aside.mk (LX.dat (data' := c.data ++ lows (vb) Wn) H5.out (by rw [← HD2.out]; exact K7.out) (by rw [List.length_append, lows_len, ← HD2.out]; exact HA7.out.1) (by rw [← HD2.out]; exact HA7.out.2))
              go_wp2_with fail
              exact ⟨⟨i + 1, by omega, by simp, ⟨lay_next HNX.out (by simp [CS.add, h15, h16, HW2.out]) H8.out⟩⟩, by simp [intOf]; omega⟩
    · obtain rfl : i = l.length := by omega
      rw [← HLL.out, List.take_length] at hL
      rw [HLL.out] at hL
      obtain ⟨s1, s2, s3, s4⟩ := of_sizes k m HF.out.2
      rw [HLL.out] at s1 s2 s3 s4
      have HS2 := Aside.mk s2
      have s5 := Nat.le_of_eq s2
      clear s2
      generalize CS.of k m = c at *
      obtain ⟨na, nc, rfl⟩ := hL.nulls.form
      obtain ⟨da, dc, rfl⟩ := hL.data.form
      obtain ⟨ea, ec, rfl⟩ := hL.ends.form
      obtain ⟨wa, wc, rfl⟩ := hL.words.row.form
      have HL := Aside.mk hL
      have HOF := Aside.mk (of16_any c.nulls (.slice na c.nulls.length nc) wr (by omega) hL.nulls.rd)
      clear hL c0 c1
      go_wp2_with (go_at_call 79; refine HOF.out.mono ?_; rintro e w5 ⟨v5, rfl, ho5, hb5⟩; obtain ⟨ma, mc, rfl⟩ := ho5.form; have H5 := Aside.mk (HL.out.below hb5); have HO5 := Aside.mk ho5; have HB5 := Aside.mk hb5; obtain ⟨b0, b1, b2, b3, b4, b5, b6, b7⟩ := box8 H5.out.bc; obtain ⟨r0, r1, r2, r3, r4, r5, r6, r7⟩ := box8 H5.out.br; have fz := fun k => frozen_blk (k := k) H5.out.bc; have fr := fun k => frozen_blk (k := k) H5.out.br; have q0 := cell_blk (k := 0) H5.out.words.blk; simp at q0; clear ho5 hb5)
      refine bodyPost_ret (v := .agg #[.int .i64 k, .int .i64 s, .int .i64 (l.length : Int), .int .i64 (c.nulls.length : Int), .slice ma (mof c.nulls).length mc, .slice da c.data.length dc, .slice ea c.ends.length ec, .slice wa c.words.length wc]) (by simp [results, Tryz.results25, go_sem, r0, r1, r2, r3, r4, r5, r6, r7]) rfl ?_
      have r := lay_end HL.out H5.out HO5.out HB5.out (l.length : Int)
      exact ⟨⟨ma, mc⟩, ⟨da, dc⟩, ⟨ea, ec⟩, ⟨wa, wc⟩, vals, by simp [colV, CS.col, HS2.out], r.1, r.2⟩
theorem lay_any (k s : Int) (l : List V) (ho : okType k s = true) (hf : Few l) (hl : ∀ v ∈ l, vOK k s v) (A : SL) (w : World) (h : RdVs w A l) :
    Calls Tryz.prog 25 #[.agg #[.int .i64 k, .int .i64 s], .slice A.a l.length A.c] w (ColBP ((CS.of k l).col k s) w) := by
  have := lay_gen k s l ho hf (fun v hv => ⟨(hl v hv).1, (hl v hv).2.1⟩) A w h
  rwa [nrm_map hl] at this
end Go.Proofs.YtmhjjhaipcgbiaaGreat


namespace Go.Proofs.YtmhjjhaipcgbiaaGreat
open Go.RowKit
set_option linter.unusedVariables false
set_option linter.unusedSimpArgs false
set_option maxRecDepth 100000
set_option maxHeartbeats 1000000
theorem fold_pre (k : Int) : ∀ (r : List V) (c : CS), ∃ nu da en wo, r.foldl (CS.add k) c = ⟨c.nulls ++ nu, c.data ++ da, c.ends ++ en, c.words ++ wo⟩
  | [], c => ⟨[], [], [], [], by simp⟩
  | v :: r, c => by
    have h1 : ∃ nu da en wo, c.add k v = ⟨c.nulls ++ nu, c.data ++ da, c.ends ++ en, c.words ++ wo⟩ := by
      unfold CS.add
      split
      · exact ⟨[v.null], v.text, [((c.data ++ v.text).length : Int)], [], by simp⟩
      split
      · split
        · exact ⟨[v.null], lows 0 4, [], [], by simp⟩
        · obtain ⟨wo, hw⟩ := addWord_pre c.words v.text
          exact ⟨[v.null], lows (codeOf c.words v.text) 4, [], wo, by rw [hw]; simp⟩
      · exact ⟨[v.null], lows v.bits (widthOf k).toNat, [], [], by simp⟩
    obtain ⟨nu, da, en, wo, h1⟩ := h1
    obtain ⟨nu2, da2, en2, wo2, h2⟩ := fold_pre k r (c.add k v)
    rw [List.foldl_cons, h2, h1]
    exact ⟨nu ++ nu2, da ++ da2, en ++ en2, wo ++ wo2, by simp [List.append_assoc]⟩
theorem of_front (k : Int) (l : List V) (n : Nat) : (CS.of k (l.take n)).nulls = (CS.of k l).nulls.take (CS.of k (l.take n)).nulls.length ∧ (CS.of k (l.take n)).data = (CS.of k l).data.take (CS.of k (l.take n)).data.length ∧
    (CS.of k (l.take n)).ends = (CS.of k l).ends.take (CS.of k (l.take n)).ends.length ∧ (CS.of k (l.take n)).words = (CS.of k l).words.take (CS.of k (l.take n)).words.length := by
  have h : CS.of k l = (l.drop n).foldl (CS.add k) (CS.of k (l.take n)) := by
    unfold CS.of
    rw [← List.foldl_append, List.take_append_drop]
  obtain ⟨nu, da, en, wo, h2⟩ := fold_pre k (l.drop n) (CS.of k (l.take n))
  rw [h, h2]
  exact ⟨by simp, by simp, by simp, by simp⟩
theorem nulls_len (k : Int) (l : List V) : (CS.of k l).nulls.length = l.length := by rw [nulls_of]; simp
theorem fixed_len {k : Int} (h1 : k ≠ 15) (h2 : k ≠ 16) {W : Nat} (hw : widthOf k = (W : Int)) (l : List V) : (CS.of k l).data.length = l.length * W ∧ (CS.of k l).ends = [] ∧ (CS.of k l).words = [] := by
  rw [fixed_of h1 h2]
  refine ⟨?_, rfl, rfl⟩
  show ((l.map (·.bits)).flatMap fun x => lows x (widthOf k).toNat).length = _
  rw [hw, Int.toNat_natCast, flatMap_len _ W (fun x => lows_len x W)]
  simp
theorem coded_len (l : List V) : (CS.of 16 l).data.length = l.length * 4 ∧ (CS.of 16 l).ends = [] ∧ (CS.of 16 l).words = wordsOf [] l := by
  rw [coded_of]
  refine ⟨?_, rfl, rfl⟩
  show ((codesOf [] l).flatMap fun x => lows x 4).length = _
  rw [flatMap_len _ 4 (fun x => lows_len x 4), codes_len]
theorem running_len (l : List V) (n : Nat) (h : n ≤ l.length) : (CS.of 15 (l.take n)).ends.length = n ∧ aheadI (CS.of 15 (l.take n)).ends n = ((CS.of 15 (l.take n)).data.length : Int) ∧ (CS.of 15 (l.take n)).words = [] ∧ (CS.of 15 l).words = [] := by
  have hl : (l.take n).length = n := by rw [List.length_take]; omega
  refine ⟨by rw [(running_ends _).1, hl], ?_, (running_data _).2, (running_data _).2⟩
  rw [running_ahead (l.take n) n (by omega), (running_data _).1, List.take_of_length_le (by omega)]
theorem need_step (l : List V) (i : Nat) (h : i < l.length) : (wordsOf [] (l.take (i + 1))).length = if l[i].null then (wordsOf [] (l.take i)).length else max (wordsOf [] (l.take i)).length (codeOf (wordsOf [] (l.take i)) l[i].text + 1) := by
  rw [words_step l [] i h]
  split
  · rfl
  · cases hc : (wordsOf [] (l.take i)).contains l[i].text with
    | true =>
      have := (List.getElem?_eq_some_iff.1 (codeOf_get hc)).1
      rw [addWord_old hc]; omega
    | false => rw [addWord_new hc, codeOf_new hc]; simp
theorem need_word (l : List V) (n i : Nat) (hm : l.length ≤ 100000000) (h : i < n) (hn : n ≤ l.length) : wordAt ((CS.of 16 l).data.take (n * 4)) (i * 4) 4 = if (l[i]'(by omega)).null then 0 else codeOf (wordsOf [] (l.take i)) (l[i]'(by omega)).text := by
  have hf := (of_front 16 l n).2.1
  have hl : (l.take n).length = n := by rw [List.length_take]; omega
  rw [(coded_len _).1, hl] at hf
  rw [← hf]
  have := coded_word 0 (l.take n) (by omega) i (by omega)
  rw [List.getElem_take, List.take_take, Nat.min_eq_left (by omega)] at this
  exact this
end Go.Proofs.YtmhjjhaipcgbiaaGreat


namespace Go.Proofs.YtmhjjhaipcgbiaaGreat
open Go.RowKit
set_option linter.unusedVariables false
set_option linter.unusedSimpArgs false
set_option maxRecDepth 100000
set_option maxHeartbeats 1000000
theorem of_bytes (k : Int) (l : List V) (hl : ∀ v ∈ l, IsBytes v.text) : IsBytes (CS.of k l).data ∧ ∀ t ∈ (CS.of k l).words, IsBytes t := by
  induction l using snoc_ind with
  | h0 => exact ⟨isBytes_nil, fun t h => by cases h⟩
  | h1 l v ih =>
    obtain ⟨h1, h2⟩ := ih (fun v hv => hl v (List.mem_append_left _ hv))
    have hv := hl v (by simp)
    rw [CS.of_snoc]
    unfold CS.add
    split
    · exact ⟨isBytes_append h1 hv, h2⟩
    split
    · refine ⟨isBytes_append h1 (lows_bytes _ _), ?_⟩
      dsimp only
      split
      · exact h2
      · exact addWord_bytes h2 hv
    · exact ⟨isBytes_append h1 (lows_bytes _ _), h2⟩
theorem of_ends (k : Int) (l : List V) (hl : ∀ v ∈ l, v.text.length ≤ 4900) : ∀ x ∈ (CS.of k l).ends, 0 ≤ x ∧ x ≤ (l.length : Int) * 4900 := by
  induction l using snoc_ind with
  | h0 => intro x h; cases h
  | h1 l v ih =>
    have ih := ih (fun v hv => hl v (List.mem_append_left _ hv))
    have hv := hl v (by simp)
    have hd := (of_sizes k l (fun v hv => hl v (List.mem_append_left _ hv))).1
    have ih2 : ∀ x ∈ (CS.of k l).ends, 0 ≤ x ∧ x ≤ ((l ++ [v]).length : Int) * 4900 := fun x hx => by
      have := ih x hx
      simp; omega
    rw [CS.of_snoc]
    unfold CS.add
    split
    · intro x hx
      rcases List.mem_append.1 hx with h | h
      · exact ih2 x h
      · simp at h; subst h; simp; omega
    split <;> exact ih2
theorem built_cokB {k s : Int} (ho : okType k s = true) {l : List V} (hf : Few l) (hl : ∀ v ∈ l, IsBytes v.text) : COK ((CS.of k l).col k s) := by
  obtain ⟨h1, h2, h3, h4⟩ := of_sizes k l hf.2
  obtain ⟨h5, h6⟩ := of_bytes k l hl
  have h7 := of_ends k l hf.2
  have h8 := of_words k l hf.2
  have h9 := hf.1
  have hm := mof_len (CS.of k l).nulls
  unfold okType at ho
  simp only [decide_eq_true_eq] at ho
  refine ⟨mof_bytes _, h5, fun x hx => ?_, fun t ht => ⟨h6 t ht, Nat.le_trans (h8 t ht) (by decide)⟩, ?_, ?_, ?_, ?_, ?_, ?_, ?_, ?_⟩
  · have := h7 x hx; unfold IsI64; omega
  · show (mof (CS.of k l).nulls).length ≤ _; omega
  · show (CS.of k l).data.length ≤ _; omega
  · show (CS.of k l).ends.length ≤ _; omega
  · show (CS.of k l).words.length ≤ _; omega
  · show IsI64 k; unfold IsI64; omega
  · show IsI64 s; unfold IsI64; omega
  · show IsI64 ((CS.of k l).nulls.length : Int); unfold IsI64; omega
  · show IsI64 ((CS.of k l).nulls.length : Int); unfold IsI64; omega
theorem built_cok {k s : Int} (ho : okType k s = true) {l : List V} (hf : Few l) (hl : ∀ v ∈ l, vOK k s v) : COK ((CS.of k l).col k s) := built_cokB ho hf (fun v hv => (hl v hv).1)
structure BF (k s : Int) (l : List V) (c : Col) : Prop where
  cok : COK c
  chk : checkC c = 0
  k : c.k = k
  s : c.s = s
  n : c.n = (l.length : Int)
  bits : c.bits = mof (l.map (·.null))
  val : ∀ (i : Nat) (h : i < l.length), l[i].null = false → valueC c i = (l[i].bits, l[i].text)
  nul : ∀ (i : Nat) (h : i < l.length), nullB c.bits i = l[i].null
theorem built_facts {k s : Int} (ho : okType k s = true) {l : List V} (hf : Few l) (hl : ∀ v ∈ l, vOK k s v) : BF k s l ((CS.of k l).col k s) := by
  have h9 := hf.1
  refine ⟨built_cok ho hf hl, built_ok ho l hl (by omega), rfl, rfl, ?_, ?_, fun i h hn => built_value ho l hl (by omega) i h hn, fun i h => built_null k s l i h⟩
  · show ((CS.of k l).nulls.length : Int) = _; rw [nulls_of]; simp
  · show mof (CS.of k l).nulls = _; rw [nulls_of]
end Go.Proofs.YtmhjjhaipcgbiaaGreat


namespace Go.Proofs.YtmhjjhaipcgbiaaGreat
open Go.RowKit
set_option linter.unusedVariables false
set_option linter.unusedSimpArgs false
set_option maxRecDepth 100000
set_option maxHeartbeats 1000000
abbrev colOf (k s : Int) (l : List V) : Col := (CS.of k l).col k s
theorem app_of (k : Int) (l r : List V) : CS.app k (CS.of k l) r = CS.of k (l ++ r) := by simp [CS.app, CS.of, List.foldl_append]
theorem app_zero (k : Int) (r : List V) : CS.app k CS.zero r = CS.of k r := rfl
theorem valC_built {k s : Int} {l : List V} {c : Col} (hF : BF k s l c) (hl : ∀ v ∈ l, vOK k s v) (i : Nat) (h : i < l.length) : valC c i = l[i] := by
  have hv := hl _ (List.getElem_mem h)
  unfold valC
  rw [hF.nul i h]
  cases hn : l[i].null with
  | true =>
    obtain ⟨h1, h2⟩ := hv.2.2.1 hn
    rw [if_pos rfl]
    cases hx : l[i] with
    | mk a b t => rw [hx] at hn h1 h2; simp at hn h1 h2; rw [hn, h1, h2]
  | false =>
    rw [if_neg (by simp), hF.val i h hn]
    cases hx : l[i] with
    | mk a b t => rw [hx] at hn; simp at hn; rw [hn]
theorem valsC_built {k s : Int} {l : List V} {c : Col} (hF : BF k s l c) (hl : ∀ v ∈ l, vOK k s v) (n : Nat) (h : n ≤ l.length) : valsC c n = l.take n := by
  refine List.ext_getElem (by rw [valsC_len, List.length_take]; omega) (fun i h1 h2 => ?_)
  rw [valsC_len] at h1
  simp only [valsC, List.getElem_map, List.getElem_range, List.getElem_take]
  exact valC_built hF hl i (by omega)
theorem room_at {k s : Int} {l r : List V} (hf : Few (l ++ r)) (hl : ∀ v ∈ l ++ r, vOK k s v) (i : Nat) (hi : i < r.length) : Room (CS.app k (CS.of k l) (r.take i)) r[i] := by
  have h : l.length + i < (l ++ r).length := by rw [List.length_append]; omega
  have := of_room hf hl h
  rw [List.take_append, List.take_of_length_le (by omega), show l.length + i - l.length = i by omega, List.getElem_append_right (by omega)] at this
  rw [app_of]
  simpa using this
theorem small_of {k s : Int} {l : List V} (hf : Few l) : Small (CS.of k l) := by
  obtain ⟨h1, h2, h3, h4⟩ := of_sizes k l hf.2
  have := hf.1
  exact ⟨by omega, by omega, by omega, by omega, fun t ht => Nat.le_trans (of_words k l hf.2 t ht) (by decide)⟩
theorem few_app {k s : Int} {l r : List V} (h : Few (l ++ r) ∧ ∀ v ∈ l ++ r, vOK k s v) : (Few l ∧ ∀ v ∈ l, vOK k s v) ∧ (Few r ∧ ∀ v ∈ r, vOK k s v) := by
  obtain ⟨⟨h1, h2⟩, h3⟩ := h
  rw [List.length_append] at h1
  exact ⟨⟨⟨by omega, fun v hv => h2 v (List.mem_append_left _ hv)⟩, fun v hv => h3 v (List.mem_append_left _ hv)⟩, ⟨⟨by omega, fun v hv => h2 v (List.mem_append_right _ hv)⟩, fun v hv => h3 v (List.mem_append_right _ hv)⟩⟩
structure HasC (w : World) (base blk : Nat) (c : Col) (B D E X : SL) (vals : List Value) : Prop where
  box : w.heap[blk]? = some (.cells #[.int .i64 c.k, .int .i64 c.s, .int .i64 c.n, .int .i64 c.m, .slice B.a c.bits.length B.c, .slice D.a c.data.length D.c, .slice E.a c.ends.length E.c, .slice X.a c.words.length X.c] 63 (0, 0))
  own : OwnC w base c B D E X vals
theorem HasC.kept {w w' : World} {base blk : Nat} {c : Col} {B D E X : SL} {vals : List Value} {S : Nat → Prop} (h : HasC w base blk c B D E X vals) (hk : Kept S w w') (h1 : ¬ S blk) (h2 : ∀ b, base ≤ b → b < w.heap.size → ¬ S b) : HasC w' base blk c B D E X vals :=
  ⟨(hk.block _ (lt_of_blk h.box) h1).trans h.box, h.own.keptL hk h2⟩
theorem HasC.below {w w' : World} {base blk : Nat} {c : Col} {B D E X : SL} {vals : List Value} (h : HasC w base blk c B D E X vals) (hb : Below w.heap.size w w') : HasC w' base blk c B D E X vals :=
  ⟨(hb.block _ (lt_of_blk h.box)).trans h.box, h.own.below hb⟩
theorem join_of {k s : Int} (ho : okType k s = true) {l r : List V} (hf : Few (l ++ r) ∧ ∀ v ∈ l ++ r, vOK k s v) {b1 b2 : Nat} (B D E X B2 D2 E2 X2 : SL) (va vb : List Value) (w : World) (h : OwnC w b1 (colOf k s l) B D E X va) (h2 : OwnC w b2 (colOf k s r) B2 D2 E2 X2 vb) :
    Calls Tryz.prog 68 #[colV (colOf k s l) B D E X, colV (colOf k s r) B2 D2 E2 X2] w (ColEP (colOf k s (l ++ r)) w) := by
  obtain ⟨⟨f1, o1⟩, f2, o2⟩ := few_app hf
  have F1 := built_facts ho f1 o1
  have F2 := built_facts ho f2 o2
  have v1 := valsC_built F1 o1
  have v2 := valsC_built F2 o2
  have e1 : CS.app k CS.zero (valsC (colOf k s l) l.length) = CS.of k l := by rw [v1 _ (Nat.le_refl _), List.take_length]; rfl
  have e2 : CS.app k (CS.of k l) (valsC (colOf k s r) r.length) = CS.of k (l ++ r) := by rw [v2 _ (Nat.le_refl _), List.take_length, app_of]
  have := join_yes (colOf k s l) (colOf k s r) F1.cok F2.cok B D E X B2 D2 E2 X2 va vb F1.chk F2.chk rfl rfl (own_addr h.data) (own_addr h2.data) l.length r.length F1.n F2.n (fun i hi => by
      show Room (CS.app k CS.zero (valsC (colOf k s l) i)) (valC (colOf k s l) i)
      rw [v1 i (by omega), valC_built F1 o1 i hi]
      have := room_at (l := []) (r := l) (by simpa using f1) (by simpa using o1) i hi
      exact this) (fun i hi => by
      show Room (CS.app k (CS.app k CS.zero (valsC (colOf k s l) l.length)) (valsC (colOf k s r) i)) (valC (colOf k s r) i)
      rw [e1, v2 i (by omega), valC_built F2 o2 i hi]
      exact room_at hf.1 hf.2 i hi) (by
      show Small (CS.app k (CS.app k CS.zero (valsC (colOf k s l) l.length)) (valsC (colOf k s r) r.length))
      rw [e1, e2]; exact small_of (s := s) hf.1) w h.rd h2.rd
  have e3 : CS.app (colOf k s l).k (CS.app (colOf k s l).k CS.zero (valsC (colOf k s l) l.length)) (valsC (colOf k s r) r.length) = CS.of k (l ++ r) := by
    show CS.app k (CS.app k CS.zero (valsC (colOf k s l) l.length)) (valsC (colOf k s r) r.length) = _
    rw [e1, e2]
  rw [e3] at this
  exact this
theorem append_of {k s : Int} (ho : okType k s = true) (S : Nat → Prop) (bl : Nat) {l r : List V} {c : Col} (ec : c = colOf k s r) (hf : Few (l ++ r) ∧ ∀ v ∈ l ++ r, vOK k s v) (B D E X : SL) (va : List Value) (hD : D.a = none ∨ ∃ g off, D.a = some ⟨g, off, none⟩) (w : World) (hb : BS w S bl k s (CS.of k l)) (hcol : ∀ w', Kept S w w' → RdC w' c B D E X va) :
    Calls Tryz.prog 28 #[.pointer (some ⟨bl, 0, none⟩), colV c B D E X] w (StepP S bl k s (CS.of k (l ++ r)) (.int .i64 0) w) := by
  subst ec
  obtain ⟨⟨f1, o1⟩, f2, o2⟩ := few_app hf
  have F2 := built_facts ho f2 o2
  have v2 := valsC_built F2 o2
  have e2 : CS.app k (CS.of k l) (valsC (colOf k s r) r.length) = CS.of k (l ++ r) := by rw [v2 _ (Nat.le_refl _), List.take_length, app_of]
  have := append_BS S bl (colOf k s r) F2.cok B D E X va F2.chk hD r.length F2.n (CS.of k l) (fun i hi => by
      show Room (CS.app k (CS.of k l) (valsC (colOf k s r) i)) (valC (colOf k s r) i)
      rw [v2 i (by omega), valC_built F2 o2 i hi]
      exact room_at hf.1 hf.2 i hi) w hb hcol
  have e3 : CS.app (colOf k s r).k (CS.of k l) (valsC (colOf k s r) r.length) = CS.of k (l ++ r) := e2
  rw [e3] at this
  exact this
theorem cut_of {k s : Int} (ho : okType k s = true) {l : List V} (hf : Few l ∧ ∀ v ∈ l, vOK k s v) {b1 : Nat} (B D E X : SL) (va : List Value) (f t : Nat) (hft : f ≤ t) (ht : t ≤ l.length) (w : World) (h : OwnC w b1 (colOf k s l) B D E X va) :
    Calls Tryz.prog 109 #[colV (colOf k s l) B D E X, .int .i64 (f : Int), .int .i64 (t : Int)] w (ColEP (colOf k s ((l.take t).drop f)) w) := by
  obtain ⟨hf, hl⟩ := hf
  have F := built_facts ho hf hl
  have v := valsC_built F hl
  have hp : ∀ i, i ≤ l.length → pieceC (colOf k s l) f i = (l.take i).drop f := fun i hi => by unfold pieceC; rw [v i hi]
  have hm : ∀ x ∈ (l.take t).drop f, x ∈ l := fun x hx => List.mem_of_mem_take (List.mem_of_mem_drop hx)
  have hf' : Few ((l.take t).drop f) := ⟨by have := hf.1; simp only [List.length_drop, List.length_take]; omega, fun x hx => hf.2 x (hm x hx)⟩
  have := cut_yes (colOf k s l) F.cok B D E X va F.chk (own_addr h.data) l.length F.n f t hft ht (fun i h1 h2 => by
      show Room (CS.app k CS.zero (pieceC (colOf k s l) f i)) (valC (colOf k s l) i)
      rw [hp i (by omega), valC_built F hl i (by omega)]
      have h3 : i - f < (l.drop f).length := by rw [List.length_drop]; omega
      have := room_at (k := k) (s := s) (l := []) (r := l.drop f) ⟨by have := hf.1; simp only [List.nil_append, List.length_drop]; omega, fun x hx => hf.2 x (List.mem_of_mem_drop (by simpa using hx))⟩ (fun x hx => hl x (List.mem_of_mem_drop (by simpa using hx))) (i - f) h3
      rw [List.getElem_drop, show CS.of k [] = CS.zero from rfl] at this
      rw [List.drop_take]
      simpa [show f + (i - f) = i by omega] using this) (by
      show Small (CS.app k CS.zero (pieceC (colOf k s l) f t))
      rw [hp t ht]; exact small_of (s := s) hf') w h.rd
  have e3 : CS.app (colOf k s l).k CS.zero (pieceC (colOf k s l) f t) = CS.of k ((l.take t).drop f) := by rw [hp t ht]; rfl
  rw [e3] at this
  exact this
theorem join_eq {k s : Int} (ho : okType k s = true) {l r : List V} {a b c : Col} (ea : a = colOf k s l) (eb : b = colOf k s r) (ec : c = colOf k s (l ++ r)) (hf : Few (l ++ r) ∧ ∀ v ∈ l ++ r, vOK k s v) {base x y : Nat} {B D E X B2 D2 E2 X2 : SL} {va vb : List Value} {w : World} (h : HasC w base x a B D E X va) (h2 : HasC w base y b B2 D2 E2 X2 vb) :
    Calls Tryz.prog 68 #[colV a B D E X, colV b B2 D2 E2 X2] w (ColEP c w) := by
  subst ea; subst eb; subst ec
  exact join_of ho hf B D E X B2 D2 E2 X2 va vb w h.own h2.own
theorem cut_eq {k s : Int} (ho : okType k s = true) {l : List V} {a c : Col} {f t : Nat} (ea : a = colOf k s l) (ec : c = colOf k s ((l.take t).drop f)) (hf : Few l ∧ ∀ v ∈ l, vOK k s v) (hft : f ≤ t) (ht : t ≤ l.length) {base x : Nat} {B D E X : SL} {va : List Value} {w : World} (h : HasC w base x a B D E X va) :
    Calls Tryz.prog 109 #[colV a B D E X, .int .i64 (f : Int), .int .i64 (t : Int)] w (ColEP c w) := by
  subst ea; subst ec
  exact cut_of ho hf B D E X va f t hft ht w h.own
theorem equal_eq {k s : Int} (ho : okType k s = true) {l : List V} {a b : Col} (ea : a = colOf k s l) (eb : b = colOf k s l) (hf : Few l ∧ ∀ v ∈ l, vOK k s v) {B D E X B2 D2 E2 X2 : SL} {va vb : List Value} {w : World} (h : RdC w a B D E X va) (h2 : RdC w b B2 D2 E2 X2 vb) :
    Calls Tryz.prog 30 #[colV a B D E X, colV b B2 D2 E2 X2] w (BoolP true w) := by
  subst ea; subst eb
  have F := built_facts ho hf.1 hf.2
  have := equal_col _ _ F.cok F.cok B D E X B2 D2 E2 X2 va vb w h h2
  rwa [equalC_refl] at this
theorem check_eq {k s : Int} (ho : okType k s = true) {l : List V} {a : Col} (ea : a = colOf k s l) (hf : Few l ∧ ∀ v ∈ l, vOK k s v) {B D E X : SL} {va : List Value} {w : World} (h : RdC w a B D E X va) :
    Calls Tryz.prog 82 #[colV a B D E X] w (IntP 0 w) := by
  subst ea
  have F := built_facts ho hf.1 hf.2
  have := check_any _ F.cok B D E X va w h
  rwa [F.chk] at this
structure B5 (w5 W : World) (bl : Nat) (k s : Int) (l : List V) : Prop where
  bs : BS W (fun b => w5.heap.size ≤ b) bl k s (CS.of k l)
  bel : Below w5.heap.size w5 W
theorem B5.below {w5 W W' : World} {bl : Nat} {k s : Int} {l : List V} (h : B5 w5 W bl k s l) (hb : Below W.heap.size W W') : B5 w5 W' bl k s l := ⟨h.bs.below hb, below_chain h.bel hb⟩
theorem B5.step {w5 W W' : World} {bl : Nat} {k s : Int} {l l' : List V} {r : Value} {e : Ending} (h : B5 w5 W bl k s l) (hs : StepP (fun b => w5.heap.size ≤ b) bl k s (CS.of k l') r W e W') : e = .returned r ∧ B5 w5 W' bl k s l' := by
  obtain ⟨rfl, hb, hk⟩ := hs
  exact ⟨rfl, hb.mono (fun b hb _ => hb.elim id (fun h' => Nat.le_trans h.bel.size h')), h.bel.trans (hk.to_below h.bel.size (fun _ h => h))⟩
theorem append5 {k s : Int} (ho : okType k s = true) {bl : Nat} {l r : List V} {c : Col} (ec : c = colOf k s r) (hf : Few (l ++ r) ∧ ∀ v ∈ l ++ r, vOK k s v) {base x : Nat} {B D E X : SL} {va : List Value} {w5 W : World} (h : HasC w5 base x c B D E X va) (hB : B5 w5 W bl k s l) :
    Calls Tryz.prog 28 #[.pointer (some ⟨bl, 0, none⟩), colV c B D E X] W fun e w' => e = .returned (.int .i64 0) ∧ B5 w5 w' bl k s (l ++ r) :=
  (append_of ho _ bl ec hf B D E X va (own_addr h.own.data) W hB.bs (fun w' hk => (h.own.below (hB.bel.trans (hk.to_below hB.bel.size (fun _ h => h)))).rd)).mono (fun e w' hs => hB.step hs)
theorem few_sub {k s : Int} {v l : List V} (h : Few v ∧ ∀ x ∈ v, vOK k s x) (hl : l.length ≤ v.length) (hm : ∀ x ∈ l, x ∈ v) : Few l ∧ ∀ x ∈ l, vOK k s x :=
  ⟨⟨by have := h.1.1; omega, fun x hx => h.1.2 x (hm x hx)⟩, fun x hx => h.2 x (hm x hx)⟩
theorem column_of {k s : Int} {l : List V} (hf : Few l) (S : Nat → Prop) (bl : Nat) {c : Col} (ec : c = colOf k s l) (w : World) (h : BS w S bl k s (CS.of k l)) : Calls Tryz.prog 34 #[.pointer (some ⟨bl, 0, none⟩)] w (ColBP c w) := by
  subst ec
  obtain ⟨h1, h2, h3, h4, h5⟩ := small_of (k := k) (s := s) hf
  exact column_BS S bl k s (CS.of k l) h1 h2 h3 h4 h5 w h
end Go.Proofs.YtmhjjhaipcgbiaaGreat


namespace Go.Proofs.YtmhjjhaipcgbiaaGreat
open Go.RowKit
set_option linter.unusedVariables false
set_option linter.unusedSimpArgs false
set_option maxRecDepth 100000
set_option maxHeartbeats 1000000
def rdStep (c : Col) (i p : Nat) : Option (V × Nat) :=
  if c.k = 15 then
    if i < c.ends.length ∧ (p : Int) ≤ c.ends.getD i 0 ∧ c.ends.getD i 0 ≤ (c.data.length : Int) then some (⟨nullB c.bits i, 0, (c.data.drop p).take ((c.ends.getD i 0).toNat - p)⟩, (c.ends.getD i 0).toNat) else none
  else if p + (widthOf c.k).toNat ≤ c.data.length then
    if nullB c.bits i = true then some (⟨true, wordAt c.data p (widthOf c.k).toNat, []⟩, p + (widthOf c.k).toNat)
    else if c.k = 16 then (if wordAt c.data p (widthOf c.k).toNat < c.words.length then some (⟨false, 0, c.words.getD (wordAt c.data p (widthOf c.k).toNat) []⟩, p + (widthOf c.k).toNat) else none)
    else if fitsB c.k c.s (wordAt c.data p (widthOf c.k).toNat) = true then some (⟨false, wordAt c.data p (widthOf c.k).toNat, []⟩, p + (widthOf c.k).toNat) else none
  else none
def rdRun (c : Col) : Nat → Option (List V × Nat)
  | 0 => some ([], 0)
  | i + 1 => (rdRun c i).bind fun x => (rdStep c i x.2).map fun y => (x.1 ++ [y.1], y.2)
def readRows (c : Col) : Option (List V) := (rdRun c c.n.toNat).bind fun x => if equalC (colOf c.k c.s (x.1.map nrm)) c = true then some x.1 else none
def readC (c : Col) : Option (List V) := if okType c.k c.s = true ∧ maskOK c.m c.bits = true ∧ c.m = c.n then readRows c else none
def readE (c : Col) : Int := if okType c.k c.s = false then 170 else if (readC c).isSome then 0 else 171
theorem rdRun_len {c : Col} : ∀ {i : Nat} {l : List V} {p : Nat}, rdRun c i = some (l, p) → l.length = i
  | 0, l, p, h => by simp [rdRun] at h; simp [← h.1]
  | i + 1, l, p, h => by
    rw [rdRun] at h
    obtain ⟨x, h1, h2⟩ := Option.bind_eq_some_iff.1 h
    obtain ⟨y, h3, h4⟩ := Option.map_eq_some_iff.1 h2
    cases h4
    simp [rdRun_len (l := x.1) (p := x.2) (by simpa using h1)]
def placeOf (k : Int) (l : List V) (i : Nat) : Nat := if k = 15 then ((l.take i).flatMap (·.text)).length else i * (widthOf k).toNat
theorem step_built {k s : Int} (ho : okType k s = true) (l : List V) (hl : ∀ v ∈ l, vOK k s v) (hm : l.length ≤ 100000000) (i : Nat) (h : i < l.length) : rdStep (colOf k s l) i (placeOf k l i) = some (l[i], placeOf k l (i + 1)) := by
  have hv := hl l[i] (List.getElem_mem _)
  have hnl := built_null k s l i h
  by_cases h15 : k = 15
  · subst h15
    have hb : l[i].bits = 0 := by
      cases hn : l[i].null with
      | true => exact (hv.2.2.1 hn).1
      | false => exact hv.2.2.2 hn
    obtain ⟨h1, h2, h3⟩ := running_piece l i h
    obtain ⟨e1, e2⟩ := running_ends l
    unfold rdStep placeOf
    rw [if_pos (show (colOf 15 s l).k = 15 from rfl), if_pos rfl, if_pos rfl, hnl]
    show (if i < (CS.of 15 l).ends.length ∧ (((l.take i).flatMap (·.text)).length : Int) ≤ (CS.of 15 l).ends.getD i 0 ∧ (CS.of 15 l).ends.getD i 0 ≤ ((CS.of 15 l).data.length : Int) then some ((⟨l[i].null, 0, ((CS.of 15 l).data.drop ((l.take i).flatMap (·.text)).length).take (((CS.of 15 l).ends.getD i 0).toNat - ((l.take i).flatMap (·.text)).length)⟩ : V), ((CS.of 15 l).ends.getD i 0).toNat) else none) = _
    rw [e1, e2 i h, (running_data l).1, Int.toNat_natCast, h1, if_pos ⟨h, by omega, by omega⟩]
    have : (⟨l[i].null, 0, l[i].text⟩ : V) = l[i] := by rw [← hb]
    rw [this]
  · obtain ⟨W, hW, hW1, hW8⟩ := width_pos ho h15
    have hWn : (widthOf k).toNat = W := by rw [hW]; rfl
    unfold rdStep placeOf
    rw [if_neg (show ¬ (colOf k s l).k = 15 from h15), if_neg h15, if_neg h15, hnl]
    show (if i * (widthOf k).toNat + (widthOf k).toNat ≤ (CS.of k l).data.length then if l[i].null = true then some ((⟨true, wordAt (CS.of k l).data (i * (widthOf k).toNat) (widthOf k).toNat, []⟩ : V), i * (widthOf k).toNat + (widthOf k).toNat)
      else if k = 16 then (if wordAt (CS.of k l).data (i * (widthOf k).toNat) (widthOf k).toNat < (CS.of k l).words.length then some (⟨false, 0, (CS.of k l).words.getD (wordAt (CS.of k l).data (i * (widthOf k).toNat) (widthOf k).toNat) []⟩, i * (widthOf k).toNat + (widthOf k).toNat) else none)
      else if fitsB k s (wordAt (CS.of k l).data (i * (widthOf k).toNat) (widthOf k).toNat) = true then some (⟨false, wordAt (CS.of k l).data (i * (widthOf k).toNat) (widthOf k).toNat, []⟩, i * (widthOf k).toNat + (widthOf k).toNat) else none
      else none) = _
    rw [hWn]
    have hplace : i * W + W = (i + 1) * W := by rw [Nat.add_mul]; omega
    have hle : (i + 1) * W ≤ l.length * W := Nat.mul_le_mul_right _ h
    by_cases h16 : k = 16
    · subst h16
      have hw4 : W = 4 := by simp [widthOf] at hW; omega
      subst hw4
      obtain ⟨d1, d2, d3⟩ := coded_len l
      have hwd := coded_word s l hm i h
      replace hwd : wordAt (CS.of 16 l).data (i * 4) 4 = _ := hwd
      rw [d1, if_pos (by omega), hwd, hplace]
      cases hn : l[i].null with
      | true =>
        obtain ⟨q1, q2⟩ := hv.2.2.1 hn
        have : (⟨true, 0, []⟩ : V) = l[i] := by rw [← q2, ← hn, ← q1]
        simp only [if_true]
        rw [this]
      | false =>
        have hb : l[i].bits = 0 := hv.2.2.2 hn
        have hc := word_at_code l i h hn
        have hlt := (List.getElem?_eq_some_iff.1 hc).1
        simp only [Bool.false_eq_true, if_false, if_true]
        rw [d3, if_pos hlt, List.getD_eq_getElem?_getD, hc]
        have : (⟨false, 0, l[i].text⟩ : V) = l[i] := by rw [← hn, ← hb]
        simp only [Option.getD_some]
        rw [this]
    · obtain ⟨d1, d2, d3⟩ := fixed_len h15 h16 hW l
      have hwd := fixed_word h15 h16 hW l hl i h
      replace hwd : wordAt (CS.of k l).data (i * W) W = _ := hwd
      rw [d1, if_pos (by omega), hwd, hplace]
      cases hn : l[i].null with
      | true =>
        obtain ⟨q1, q2⟩ := hv.2.2.1 hn
        have : (⟨true, l[i].bits, []⟩ : V) = l[i] := by rw [← q2, ← hn]
        simp only [if_true]
        rw [this]
      | false =>
        have hw : wordedB k = false := by simp [wordedB, h15, h16]
        have hq := hv.2.2.2 hn
        rw [hw] at hq
        simp only [Bool.false_eq_true, if_false] at hq
        have : (⟨false, l[i].bits, []⟩ : V) = l[i] := by rw [← hq.2, ← hn]
        simp only [Bool.false_eq_true, if_false]
        rw [if_neg h16, if_pos hq.1, this]
theorem run_built {k s : Int} (ho : okType k s = true) (l : List V) (hl : ∀ v ∈ l, vOK k s v) (hm : l.length ≤ 100000000) : ∀ i, i ≤ l.length → rdRun (colOf k s l) i = some (l.take i, placeOf k l i)
  | 0, _ => by simp [rdRun, placeOf]
  | i + 1, h => by
    rw [rdRun, run_built ho l hl hm i (by omega), Option.bind_some, step_built ho l hl hm i (by omega), Option.map_some, List.take_succ_eq_append_getElem (by omega)]
theorem read_built {k s : Int} (ho : okType k s = true) (l : List V) (hl : ∀ v ∈ l, vOK k s v) (hm : l.length ≤ 100000000) : readC (colOf k s l) = some l := by
  have hn : (colOf k s l).n = (l.length : Int) := by show ((CS.of k l).nulls.length : Int) = _; rw [nulls_of]; simp
  have hm2 : maskOK (colOf k s l).m (colOf k s l).bits = true := mof_ok _
  unfold readC readRows
  rw [if_pos ⟨ho, hm2, rfl⟩, hn, Int.toNat_natCast, run_built ho l hl hm _ (Nat.le_refl _), List.take_length, Option.bind_some, nrm_map hl]
  exact if_pos (equalC_refl _)
theorem readE_built {k s : Int} (ho : okType k s = true) (l : List V) (hl : ∀ v ∈ l, vOK k s v) (hm : l.length ≤ 100000000) : readE (colOf k s l) = 0 := by
  unfold readE
  rw [read_built ho l hl hm, if_neg (by show ¬ okType k s = false; rw [ho]; decide)]
  rfl
end Go.Proofs.YtmhjjhaipcgbiaaGreat


namespace Go.Proofs.YtmhjjhaipcgbiaaGreat
open Go.RowKit
set_option linter.unusedVariables false
set_option linter.unusedSimpArgs false
set_option maxRecDepth 100000
set_option maxHeartbeats 1000000
theorem mask_bits {m : Nat} {bs : List Int} (hb : IsBytes bs) (hm : m ≤ 8 * bs.length) (h8 : 8 * bs.length < m + 8) :
    (0 < m % 8 → (bs.getD (bs.length - 1) 0).toNat / 2 ^ (m % 8) = 0) ↔ ∀ i, m ≤ i → i < 8 * bs.length → nullB bs i = false := by
  constructor
  · intro h i h1 h2
    have e1 : i / 8 = bs.length - 1 := by omega
    have e2 : m % 8 ≤ i % 8 := by omega
    have h0 := h (by omega)
    unfold nullB
    rw [e1]
    have hp : 0 < 2 ^ (m % 8) := Nat.pow_pos (by decide)
    have hlt : (bs.getD (bs.length - 1) 0).toNat < 2 ^ (m % 8) := by
      rcases Nat.lt_or_ge (bs.getD (bs.length - 1) 0).toNat (2 ^ (m % 8)) with h | h
      · exact h
      · have := Nat.div_pos h hp; omega
    exact Nat.testBit_lt_two_pow (Nat.lt_of_lt_of_le hlt (Nat.pow_le_pow_right (by decide) e2))
  · intro h h0
    refine Nat.div_eq_of_lt (Nat.lt_pow_two_of_testBit _ fun j hj => ?_)
    rcases Nat.lt_or_ge j 8 with h9 | h9
    · have := h (8 * (bs.length - 1) + j) (by omega) (by omega)
      unfold nullB at this
      rwa [show (8 * (bs.length - 1) + j) / 8 = bs.length - 1 by omega, show (8 * (bs.length - 1) + j) % 8 = j by omega] at this
    · refine Nat.testBit_lt_two_pow (Nat.lt_of_lt_of_le ?_ (Nat.pow_le_pow_right (by decide) h9))
      have := getD_byte hb (bs.length - 1)
      omega
theorem maskOK_iff {m : Int} {bs : List Int} (hb : IsBytes bs) : maskOK m bs = true ↔ (0 ≤ m ∧ m ≤ 8 * (bs.length : Int) ∧ 8 * (bs.length : Int) - 8 < m ∧ ∀ i, m.toNat ≤ i → i < 8 * bs.length → nullB bs i = false) := by
  unfold maskOK
  rw [decide_eq_true_eq]
  constructor
  · rintro ⟨h1, h2, h3, h4⟩
    refine ⟨h1, h2, by omega, ?_⟩
    refine (mask_bits hb (by omega) (by omega)).1 fun h => ?_
    have := h4 (by omega)
    rwa [show (m % 8).toNat = m.toNat % 8 by omega] at this
  · rintro ⟨h1, h2, h3, h4⟩
    refine ⟨h1, h2, by omega, fun h => ?_⟩
    have := (mask_bits hb (by omega) (by omega)).2 h4 (by omega)
    rwa [show (m % 8).toNat = m.toNat % 8 by omega]
def bitsOf (bs : List Int) (m : Nat) : List Bool := (List.range m).map (nullB bs)
theorem bitsOf_succ (bs : List Int) (m : Nat) : bitsOf bs (m + 1) = bitsOf bs m ++ [nullB bs m] := by simp [bitsOf, List.range_succ]
theorem bitsOf_len (bs : List Int) (m : Nat) : (bitsOf bs m).length = m := by simp [bitsOf]
theorem boolinfo16 : (Tryz.prog.info? 4).map (fun i => (i.zero, i.size, i.bytes)) = some (some (.bool false), 1, 1) := by kernel_rfl
def Read16P (m : Int) (bs : List Int) (w : World) (e : Ending) (w' : World) : Prop :=
  Below w.heap.size w w' ∧ ((maskOK m bs = true ∧ ∃ a c, e = .returned (.tuple #[.slice a m.toNat c, .bool true]) ∧ Own w' w.heap.size 4 1 (.slice a m.toNat c) m.toNat ((bitsOf bs m.toNat).map .bool)) ∨ (maskOK m bs = false ∧ e = .returned (.tuple #[.slice none 0 0, .bool false])))
theorem read16_no {m : Int} {bs : List Int} {w w' : World} (h : ¬ maskOK m bs = true) (hb : Below w.heap.size w w') : Read16P m bs w (.returned (.tuple #[.slice none 0 0, .bool false])) w' :=
  ⟨hb, .inr ⟨by simpa using h, rfl⟩⟩
structure R16 (m : Nat) (bs : List Int) (B : SL) (w wr : World) (v : Value) (i : Nat) : Prop where
  own : Own wr w.heap.size 4 1 v (min i m) ((bitsOf bs (min i m)).map .bool)
  bel : Below w.heap.size w wr
  box : wr.heap[w.heap.size]? = some (.cells #[.int .i64 (m : Int), .slice B.a bs.length B.c] 60 (0, 0))
  no : ∀ j, m ≤ j → j < i → nullB bs j = false
theorem R16.more {m : Nat} {bs : List Int} {B : SL} {w wr w5 : World} {va v5 : Value} {i : Nat} {o : Obj} (h : R16 m bs B w wr va i) (hi : i < m) (hA : AppP (wr.alloc o) w.heap.size 4 1 va i ((bitsOf bs i).map .bool) 1 [.bool (nullB bs i)] v5 w5) : R16 m bs B w w5 v5 (i + 1) := by
  have n0 : va.ownBlock ≠ some w.heap.size := h.own.blk_ne h.box (by decide)
  have K : Kept (fun b => va.ownBlock = some b) wr w5 := (Kept.of_below (below_new wr o)).trans ((Kept.of_grown hA.grown).mono (fun b e _ => e.symm)) (fun _ e _ => e)
  refine ⟨?_, h.bel.trans (K.to_below h.bel.size (fun b e => (h.own.lt b e).1)), (K.block _ (lt_of_blk h.box) n0).trans h.box, fun j h1 h2 => h.no j h1 (by omega)⟩
  have := hA.own
  rw [show min (i + 1) m = i + 1 by omega, bitsOf_succ, List.map_append]
  exact this
theorem R16.skip {m : Nat} {bs : List Int} {B : SL} {w wr : World} {v : Value} {i : Nat} (h : R16 m bs B w wr v i) (hi : m ≤ i) (hn : nullB bs i = false) : R16 m bs B w wr v (i + 1) := by
  refine ⟨?_, h.bel, h.box, fun j h1 h2 => ?_⟩
  · have := h.own
    rw [show min (i + 1) m = min i m by omega]; exact this
  · by_cases e : j = i
    · subst e; exact hn
    · exact h.no j h1 (by omega)
theorem read16_any (m : Int) (bs : List Int) (B : SL) (hl : bs.length ≤ 100000000) (hb : IsBytes bs) (w : World) (h : Rd w 1 (.slice B.a bs.length B.c) bs.length (bs.map (.int .u8))) :
    Calls Tryz.prog 151 #[.agg #[.int .i64 m, .slice B.a bs.length B.c]] w (Read16P m bs w) := by
  obtain ⟨ba, bc⟩ := B
  have HB0 := Aside.mk (below_new w (.cells #[.int .i64 m, .slice ba bs.length bc] 60))
  have HR := Aside.mk h
  have HBY := Aside.mk hb
  clear h hb
  dsimp only
  by_cases h1 : m < 0
  · have HD := Aside.mk (show ¬ maskOK m bs = true from fun e => by have := (maskOK_iff HBY.out).1 e; omega)
    go_enter Tryz.func151, Tryz.ntmps151
    go_wp2
    go_ret2
    exact read16_no HD.out HB0.out
  by_cases h2 : 8 * (bs.length : Int) < m
  · have HD := Aside.mk (show ¬ maskOK m bs = true from fun e => by have := (maskOK_iff HBY.out).1 e; omega)
    go_enter Tryz.func151, Tryz.ntmps151
    go_wp2
    go_ret2
    exact read16_no HD.out HB0.out
  by_cases h3 : m ≤ 8 * (bs.length : Int) - 8
  · have HD := Aside.mk (show ¬ maskOK m bs = true from fun e => by have := (maskOK_iff HBY.out).1 e; omega)
    go_enter Tryz.func151, Tryz.ntmps151
    go_wp2
    go_ret2
    exact read16_no HD.out HB0.out
  obtain ⟨mn, rfl⟩ := Int.eq_ofNat_of_zero_le (show 0 ≤ m by omega)
  have hm1 : mn ≤ 8 * bs.length := by omega
  have HM3 := Aside.mk (show 8 * (bs.length : Int) - 8 < (mn : Int) by omega)
  generalize hbl : bs.length = bl at *
  have HBL := Aside.mk hbl
  clear hbl
  go_enter Tryz.func151, Tryz.ntmps151
  go_wp2
  go_loopw [4, 5] (fun lv iv wr => ∃ (i : Nat) (a : Option Addr) (c : Nat), i ≤ 8 * bl ∧ lv = .slice a (min i mn) c ∧ iv = .int .i64 (i : Int) ∧ Aside (R16 mn bs ⟨ba, bc⟩ w wr (.slice a (min i mn) c) i)) (fun _ iv _ => 8 * bl - (intOf iv).toNat)
  case atStart =>
    refine ⟨0, none, 0, by omega, by simp, rfl, ⟨?_, HB0.out, ?_, fun j h1 h2 => by omega⟩⟩
    · simpa [bitsOf] using Own.nil _ _ _ _
    · rw [HBL.out]; exact heap_alloc_new w _
  case round =>
    obtain ⟨i, a, c, hi, rfl, rfl, HP⟩ := hrel
    have c0 := cell_blk (k := 0) HP.out.box
    have c1 := cell_blk (k := 1) HP.out.box
    simp at c0 c1
    rw [HBL.out] at c1
    have hlt0 := lt_of_blk HP.out.box
    by_cases hlt : i < 8 * bl
    · obtain ⟨g, off, cap, hs, hlc, hcap, hc⟩ := rd_get HR.out (i / 8) (by have := HBL.out; omega)
      simp only [Value.slice.injEq, true_and] at hs
      obtain ⟨rfl, rfl⟩ := hs
      have hv := getD_byte HBY.out (i / 8)
      have hc2 := (HP.out.bel.cell (p := ⟨g, off + i / 8, none⟩) (World.block_lt_of_cell? _ _ hc)).trans hc
      have r := shr_bit _ hv.1 hv.2 (i % 8)
      have HBIT := Aside.mk (show (bs.getD (i / 8) 0).toNat.testBit (i % 8) = nullB bs i from rfl)
      clear hc
      generalize bs.getD (i / 8) 0 = y at *
      rw [HBIT.out] at r
      by_cases him : i < mn
      · have hmin : min i mn = i := by omega
        rw [hmin] at HP ⊢
        obtain ⟨bit, hbit⟩ : ∃ b, b = nullB bs i := ⟨_, rfl⟩
        rw [← hbit] at r
        have HBV := Aside.mk hbit
        clear hbit hmin
        have HOWN := Aside.mk (show Own wr w.heap.size 4 1 (.slice a i c) i ((bitsOf bs i).map .bool) from by have := HP.out.own; rwa [show min i mn = i by omega] at this)
        have hsz := HP.out.bel.size
        go_wp2_with (at_builtin; go_loud (refine wpList_app2 _ rfl _ _ 140 140 rfl w.heap.size 4 (.bool false) 1 1 Tryz.underlying140 boolinfo16 rfl _ i ((bitsOf bs i).map .bool) rfl (HOWN.out.alloc _) _ 1 [_] rfl (src_one Tryz.underlying140 _ _ _ rfl rfl) (by unfold maxLen; omega) (by omega) (by simp; omega) ?_))
        intro v5 w5 hA
        obtain ⟨a5, c5, rfl⟩ := hA.own.form
        have HN := Aside.mk (R16.more (v5 := .slice a5 (i + 1) c5) HP.out him (by rw [← HBV.out]; exact hA))
        clear hA
        go_wp2_with fail
        refine ⟨⟨i + 1, a5, c5, by omega, by rw [show min (i + 1) mn = i + 1 by omega], by simp, ?_⟩, by simp [intOf]; omega⟩
        rw [show min (i + 1) mn = i + 1 by omega]
        exact HN
      · have hmin : min i mn = mn := by omega
        have HP0 := Aside.mk HP.out
        rw [hmin] at HP ⊢
        clear hmin
        cases hbit : nullB bs i with
        | true =>
          rw [hbit] at r
          have HNO := Aside.mk (show ¬ maskOK (mn : Int) bs = true from fun e => by
            have := ((maskOK_iff HBY.out).1 e).2.2.2 i (by simpa using him) (by have := HBL.out; omega)
            rw [hbit] at this; cases this)
          clear hbit
          go_wp2_with fail
          go_ret2
          exact read16_no HNO.out HP.out.bel
        | false =>
          rw [hbit] at r
          have HN := Aside.mk (HP0.out.skip (by omega) hbit)
          rw [show min i mn = mn by omega] at HN
          clear hbit
          go_wp2_with fail
          refine ⟨⟨i + 1, a, c, by omega, by rw [show min (i + 1) mn = mn by omega], by simp, ?_⟩, by simp [intOf]; omega⟩
          rw [show min (i + 1) mn = mn by omega]
          exact HN
    · have HEND := Aside.mk (show maskOK (mn : Int) bs = true from (maskOK_iff HBY.out).2 ⟨by omega, by have := HBL.out; omega, by have := HBL.out; have := HM3.out; omega, fun j h1 h2 => HP.out.no j (by simpa using h1) (by have := HBL.out; omega)⟩)
      have hmin : min i mn = mn := by omega
      rw [hmin] at HP ⊢
      clear hmin
      go_wp2_with fail
      go_ret2
      refine ⟨HP.out.bel, .inl ⟨HEND.out, a, c, rfl, ?_⟩⟩
      have := HP.out.own
      rw [show min i mn = mn by omega] at this
      exact this
end Go.Proofs.YtmhjjhaipcgbiaaGreat


namespace Go.Proofs.YtmhjjhaipcgbiaaGreat
open Go.RowKit
set_option linter.unusedVariables false
set_option linter.unusedSimpArgs false
set_option maxRecDepth 100000
set_option maxHeartbeats 1000000
def numOf : List Int → Nat
  | [] => 0
  | x :: r => x.toNat + 256 * numOf r
theorem numOf_lt : ∀ {l : List Int}, IsBytes l → numOf l < 256 ^ l.length
  | [], _ => by simp [numOf]
  | x :: r, h => by
    have h1 := numOf_lt (l := r) (fun y hy => h y (List.mem_cons_of_mem _ hy))
    have h2 := h x (List.mem_cons_self ..)
    rw [numOf, List.length_cons, Nat.pow_succ]
    omega
theorem numOf_snoc : ∀ (l : List Int) (y : Int), numOf (l ++ [y]) = numOf l + y.toNat * 256 ^ l.length
  | [], y => by simp [numOf]
  | x :: r, y => by
    rw [List.cons_append, numOf, numOf_snoc r y, numOf, List.length_cons, Nat.pow_succ, Nat.mul_add, Nat.mul_comm (256 ^ r.length) 256, ← Nat.mul_assoc, ← Nat.mul_assoc, Nat.mul_comm 256 y.toNat]
    omega
theorem numOf_word (data : List Int) (o : Nat) : ∀ n, o + n ≤ data.length → numOf ((data.drop o).take n) = wordAt data o n
  | 0, _ => by simp [numOf, wordAt]
  | n + 1, h => by
    have e : (data.drop o).take (n + 1) = (data.drop o).take n ++ [data.getD (o + n) 0] := by
      rw [List.take_add_one, List.getElem?_drop, List.getD_eq_getElem?_getD, List.getElem?_eq_getElem (by omega)]
      rfl
    rw [e, numOf_snoc, numOf_word data o n (by omega), wordAt, List.length_take, List.length_drop, Nat.min_eq_left (by omega)]
theorem num18_step (x : Nat) (y : Int) (n : Nat) (hx : x < 256 ^ n) (hn : n ≤ 7) (h0 : 0 ≤ y) (h1 : y < 256) : IntKind.u64.wrap (IntKind.u64.wrap ((x : Int) * 256) + y) = ((y.toNat + 256 * x : Nat) : Int) := by
  obtain ⟨d, rfl⟩ := Int.eq_ofNat_of_zero_le h0
  have hp : 256 ^ n ≤ 256 ^ 7 := Nat.pow_le_pow_right (by decide) hn
  have h7 : (256 : Nat) ^ 7 = 72057594037927936 := by decide
  have e : ((x : Int) * 256) = ((x * 256 : Nat) : Int) := by simp
  rw [e, wrap_u64 _ (by omega)]
  have e2 : (((x * 256 : Nat) : Int) + (d : Int)) = ((d + 256 * x : Nat) : Int) := by simp; omega
  rw [e2, wrap_u64 _ (by omega)]
  simp
theorem num18_any (xs : List Int) (A : SL) (hb : IsBytes xs) (hl : xs.length ≤ 8) (w : World) (h : Rd w 1 (.slice A.a xs.length A.c) xs.length (xs.map (.int .u8))) :
    Calls Tryz.prog 152 #[.slice A.a xs.length A.c] w fun e w' => e = .returned (.int .u64 (numOf xs : Int)) ∧ w = w' := by
  obtain ⟨aa, ac⟩ := A
  have HR := Aside.mk h
  have HB := Aside.mk hb
  clear h hb
  generalize hn : xs.length = n at *
  have HN := Aside.mk hn
  clear hn
  dsimp only
  go_enter Tryz.func152, Tryz.ntmps152
  go_wp2
  go_loop [3, 4] (fun xv iv => ∃ j : Nat, j ≤ n ∧ iv = .int .i64 ((j : Int) - 1) ∧ xv = .int .u64 (numOf (xs.drop j) : Int)) (fun _ iv => (intOf iv + 1).toNat)
  case atStart => exact ⟨n, Nat.le_refl _, rfl, by rw [← HN.out, List.drop_length]; rfl⟩
  case round =>
    obtain ⟨j, hj, rfl, rfl⟩ := hrel
    cases j with
    | zero =>
      have e : xs.drop 0 = xs := rfl
      go_wp2
      go_ret
      exact ⟨by simp, rfl⟩
    | succ j =>
      have hjl : j < xs.length := by have := HN.out; omega
      obtain ⟨g, off, cap, hs, _, _, hc⟩ := rd_get HR.out j (by have := HN.out; omega)
      simp only [Value.slice.injEq, true_and] at hs
      obtain ⟨rfl, rfl⟩ := hs
      have hv := getD_byte HB.out j
      have hx : numOf (xs.drop (j + 1)) < 256 ^ (n - (j + 1)) := by
        have := numOf_lt (l := xs.drop (j + 1)) (fun x hx => HB.out x (List.mem_of_mem_drop hx))
        rwa [List.length_drop, HN.out] at this
      have HS := Aside.mk (num18_step _ _ _ hx (by omega) hv.1 hv.2)
      have HX := Aside.mk (show (xs.getD j 0).toNat + 256 * numOf (xs.drop (j + 1)) = numOf (xs.drop j) from by
        rw [List.drop_eq_getElem_cons hjl, List.getD_eq_getElem?_getD, List.getElem?_eq_getElem hjl]; rfl)
      have hmj : ((j + 1 : Nat) : Int) - 1 = (j : Int) := by omega
      rw [hmj]
      clear hmj hx
      generalize numOf (xs.drop (j + 1)) = x at *
      generalize xs.getD j 0 = y at *
      go_wp2
      go_round
      case rel => exact ⟨j, by omega, rfl, by rw [← HX.out]; exact congrArg _ HS.out⟩
      case measure => simp [intOf]
end Go.Proofs.YtmhjjhaipcgbiaaGreat


namespace Go.Proofs.YtmhjjhaipcgbiaaGreat
open Go.RowKit
set_option linter.unusedVariables false
set_option linter.unusedSimpArgs false
set_option maxRecDepth 100000
set_option maxHeartbeats 1000000
theorem twin_bytes (xs : List Int) (A : SL) (hl : xs.length ≤ 100000000) (w : World) (h : Rd w 1 (.slice A.a xs.length A.c) xs.length (xs.map (.int .u8))) :
    Calls Tryz.prog 80 #[.slice A.a xs.length A.c] w fun e w' => ∃ a c, e = .returned (.slice a xs.length c) ∧ Own w' w.heap.size 5 1 (.slice a xs.length c) xs.length (xs.map (.int .u8)) ∧ Below w.heap.size w w' := by
  have HS := Aside.mk (h.src (tx := 43) (P := Tryz.prog) Tryz.underlying43 (one_map (fun x : Int => Value.int .u8 x) (fun _ => rfl) xs))
  clear h
  go_enter Tryz.func80, Tryz.ntmps80
  go_wp2_with (at_builtin; refine wpList_app _ rfl _ _ 43 43 rfl w.heap.size 5 (.int .u8 0) 1 1 Tryz.underlying43 u8info rfl _ _ _ rfl (Own.nil w w.heap.size 5 1) _ xs.length (xs.map (.int .u8)) rfl HS.out (by unfold maxLen; omega) (by omega) (Nat.le_refl _) ?_)
  intro v' w5 hown' hgrow _ hat
  obtain ⟨a5, c5, rfl⟩ := hown'.form
  have HO := Aside.mk hown'
  have HB := Aside.mk (below_of_grown hgrow (Nat.le_refl _) (fun k e => by cases e))
  clear hown' hgrow hat
  go_wp2
  go_ret
  refine ⟨a5, c5, ?_, ?_, HB.out⟩
  · simp
  · simpa using HO.out
theorem cut_bytes (xs : List Int) (A : SL) (hl : xs.length ≤ 9223372036854775807) (w : World) (h : Rd w 1 (.slice A.a xs.length A.c) xs.length (xs.map (.int .u8))) :
    Calls Tryz.prog 20 #[.slice A.a xs.length A.c, .int .i64 40] w fun e w' => ∃ a c, e = .returned (.slice a (xs.take 40).length c) ∧ Rd w 1 (.slice a (xs.take 40).length c) (xs.take 40).length ((xs.take 40).map (.int .u8)) ∧ w = w' := by
  by_cases h40 : 40 < xs.length
  · obtain ⟨g, off, cap, e, h1, h2, hc⟩ := h.some_ (by rw [List.length_map]; omega)
    obtain ⟨aa, ac⟩ := A
    simp only [Value.slice.injEq, true_and] at e
    obtain ⟨rfl, rfl⟩ := e
    have HT := Aside.mk (rd_cut (i := 0) (j := 40) h (by omega) (by omega))
    have hlen : (xs.take 40).length = 40 := by rw [List.length_take]; omega
    rw [hlen]
    clear h hc hlen
    generalize hn : xs.length = n at *
    have HN := Aside.mk hn
    clear hn
    go_enter Tryz.func20, Tryz.ntmps20
    go_wp2
    go_ret
    refine ⟨_, _, rfl, ?_, rfl⟩
    have := HT.out
    simpa [List.map_take] using this
  · have e : xs.take 40 = xs := List.take_of_length_le (by omega)
    have HR := Aside.mk h
    rw [e]
    clear h e
    generalize hn : xs.length = n at *
    clear hn
    go_enter Tryz.func20, Tryz.ntmps20
    go_wp2
    go_ret
    exact ⟨_, _, rfl, HR.out, rfl⟩
theorem fits_zero {k s : Int} (h : okType k s = true) (hw : wordedB k = false) : fitsB k s 0 = true := by
  unfold fitsB
  rw [h]
  unfold okType at h
  simp only [decide_eq_true_eq] at h
  unfold wordedB at hw
  simp only [Bool.or_eq_false_iff, beq_eq_false_iff_ne] at hw
  have hk : k = 1 ∨ k = 2 ∨ k = 3 ∨ k = 4 ∨ k = 5 ∨ k = 6 ∨ k = 7 ∨ k = 8 ∨ k = 9 ∨ k = 10 ∨ k = 11 ∨ k = 12 ∨ k = 13 ∨ k = 14 := by omega
  rcases hk with rfl | rfl | rfl | rfl | rfl | rfl | rfl | rfl | rfl | rfl | rfl | rfl | rfl | rfl
  all_goals first | decide | (have hz : asInt 0 = 0 := by kernel_rfl
                              simp [bitsOK, decOK, dayOK, momOK, hz])
end Go.Proofs.YtmhjjhaipcgbiaaGreat


namespace Go.Proofs.YtmhjjhaipcgbiaaGreat
open Go.RowKit
set_option linter.unusedVariables false
set_option linter.unusedSimpArgs false
set_option maxRecDepth 100000
set_option maxHeartbeats 2000000
def FitV (k s : Int) (w : World) (e : Ending) (w' : World) : Prop :=
  ∃ (v : V) (a : Option Addr) (c : Nat), e = .returned (.agg #[.bool v.null, .int .u64 (v.bits : Int), .slice a v.text.length c]) ∧ vOK k s v ∧ v.text.length ≤ 40 ∧ Own w' w.heap.size 5 1 (.slice a v.text.length c) v.text.length (v.text.map (.int .u8)) ∧ Below w.heap.size w w'
theorem fit_four (w : World) (x1 x2 x3 x4 : Array Value) (t1 t2 t3 t4 : TypeId) :
    Below w.heap.size w ((((w.alloc (.cells x1 t1)).alloc (.cells x2 t2)).alloc (.cells x3 t3)).alloc (.cells x4 t4)) ∧
    ((((w.alloc (.cells x1 t1)).alloc (.cells x2 t2)).alloc (.cells x3 t3)).alloc (.cells x4 t4)).heap[w.heap.size]? = some (.cells x1 t1 (0, 0)) ∧
    ((((w.alloc (.cells x1 t1)).alloc (.cells x2 t2)).alloc (.cells x3 t3)).alloc (.cells x4 t4)).heap[w.heap.size + 1]? = some (.cells x2 t2 (0, 0)) ∧
    ((((w.alloc (.cells x1 t1)).alloc (.cells x2 t2)).alloc (.cells x3 t3)).alloc (.cells x4 t4)).heap[w.heap.size + 1 + 1]? = some (.cells x3 t3 (0, 0)) ∧
    ((((w.alloc (.cells x1 t1)).alloc (.cells x2 t2)).alloc (.cells x3 t3)).alloc (.cells x4 t4)).heap[w.heap.size + 1 + 1 + 1]? = some (.cells x4 t4 (0, 0)) := by
  obtain ⟨b3, h1, h2, h3, hs⟩ := three_new w x1 x2 x3 t1 t2 t3
  refine ⟨b3.alloc (by omega) _, ?_, ?_, ?_, ?_⟩
  · rw [Below.heap_alloc _ _ _ (by omega)]; exact h1
  · rw [Below.heap_alloc _ _ _ (by omega)]; exact h2
  · rw [Below.heap_alloc _ _ _ (by omega)]; exact h3
  · have := heap_alloc_new (((w.alloc (.cells x1 t1)).alloc (.cells x2 t2)).alloc (.cells x3 t3)) (.cells x4 t4)
    rw [hs] at this
    exact this
def FitIn (k s : Int) (xs : List Int) (A : SL) (b0 b : Nat) (tv : Value) (w wr : World) : Prop :=
  Below w.heap.size w wr ∧ wr.heap[w.heap.size]? = some (.cells #[.int .i64 k, .int .i64 s] 23 (0, 0)) ∧ wr.heap[w.heap.size + 1]? = some (.cells #[.bool false, .int .u64 (b0 : Int), .slice A.a xs.length A.c] 45 (0, 0)) ∧
  wr.heap[w.heap.size + 1 + 1]? = some (.cells #[.bool false, .int .u64 0, .slice none 0 0] 50 (0, 0)) ∧ wr.heap[w.heap.size + 1 + 1 + 1]? = some (.cells #[.bool false, .int .u64 (b : Int), tv] 50 (0, 0))
theorem FitIn.below {k s : Int} {xs : List Int} {A : SL} {b0 b : Nat} {tv : Value} {w wr w2 : World} (h : FitIn k s xs A b0 b tv w wr) (hb : Below wr.heap.size wr w2) : FitIn k s xs A b0 b tv w w2 := by
  obtain ⟨h1, h2, h3, h4, h5⟩ := h
  exact ⟨h1.trans (hb.mono h1.size), (hb.block _ (lt_of_blk h2)).trans h2, (hb.block _ (lt_of_blk h3)).trans h3, (hb.block _ (lt_of_blk h4)).trans h4, (hb.block _ (lt_of_blk h5)).trans h5⟩
theorem FitIn.setBits {k s : Int} {xs : List Int} {A : SL} {b0 b b2 : Nat} {tv : Value} {w wr : World} (h : FitIn k s xs A b0 b tv w wr) : FitIn k s xs A b0 b2 tv w (wr.setCell ⟨w.heap.size + 1 + 1 + 1, 1, none⟩ (.int .u64 (b2 : Int))) := by
  obtain ⟨h1, h2, h3, h4, h5⟩ := h
  refine ⟨h1.setCell (by simp; omega) _, ?_, ?_, ?_, ?_⟩
  · rw [Below.heap_setCell _ _ _ _ (by simp; omega)]; exact h2
  · rw [Below.heap_setCell _ _ _ _ (by simp)]; exact h3
  · rw [Below.heap_setCell _ _ _ _ (by simp)]; exact h4
  · have := heap_setCell_at (k := 1) h5 (.int .u64 (b2 : Int))
    simpa using this
theorem fit_cells {k s : Int} {xs : List Int} {A : SL} {b0 b : Nat} {tv : Value} {w wr : World} (h : FitIn k s xs A b0 b tv w wr) :
    wr.cell? ⟨w.heap.size, 0, none⟩ = some (.int .i64 k) ∧ wr.cell? ⟨w.heap.size, 1, none⟩ = some (.int .i64 s) ∧ wr.cell? ⟨w.heap.size + 1, 1, none⟩ = some (.int .u64 (b0 : Int)) ∧ wr.cell? ⟨w.heap.size + 1, 2, none⟩ = some (.slice A.a xs.length A.c) ∧
    wr.cell? ⟨w.heap.size + 1 + 1, 0, none⟩ = some (.bool false) ∧ wr.cell? ⟨w.heap.size + 1 + 1, 1, none⟩ = some (.int .u64 0) ∧ wr.cell? ⟨w.heap.size + 1 + 1, 2, none⟩ = some (.slice none 0 0) ∧
    wr.cell? ⟨w.heap.size + 1 + 1 + 1, 0, none⟩ = some (.bool false) ∧ wr.cell? ⟨w.heap.size + 1 + 1 + 1, 1, none⟩ = some (.int .u64 (b : Int)) ∧ wr.cell? ⟨w.heap.size + 1 + 1 + 1, 2, none⟩ = some tv ∧
    (∀ n, wr.frozen? ⟨w.heap.size + 1 + 1, n, none⟩ = false) ∧ (∀ n, wr.frozen? ⟨w.heap.size + 1 + 1 + 1, n, none⟩ = false) := by
  obtain ⟨h1, h2, h3, h4, h5⟩ := h
  refine ⟨?_, ?_, ?_, ?_, ?_, ?_, ?_, ?_, ?_, ?_, fun n => frozen_blk h4, fun n => frozen_blk h5⟩
  · rw [cell_blk h2]; rfl
  · rw [cell_blk h2]; rfl
  · rw [cell_blk h3]; rfl
  · rw [cell_blk h3]; rfl
  · rw [cell_blk h4]; rfl
  · rw [cell_blk h4]; rfl
  · rw [cell_blk h4]; rfl
  · rw [cell_blk h5]; rfl
  · rw [cell_blk h5]; rfl
  · rw [cell_blk h5]; rfl
theorem fit_any (k s : Int) (ho : okType k s = true) (nl : Bool) (b : Nat) (hb : b < 18446744073709551616) (xs : List Int) (hx : IsBytes xs) (A : SL) (hl : xs.length ≤ 9223372036854775807) (w : World) (h : Rd w 1 (.slice A.a xs.length A.c) xs.length (xs.map (.int .u8))) :
    Calls Tryz.prog 60 #[.agg #[.int .i64 k, .int .i64 s], .agg #[.bool nl, .int .u64 (b : Int), .slice A.a xs.length A.c]] w (FitV k s w) := by
  have HR := Aside.mk h
  have HO := Aside.mk ho
  have HX := Aside.mk hx
  clear h ho hx
  cases nl with
  | true =>
    go_enter Tryz.func60, Tryz.ntmps60
    go_wp2
    refine bodyPost_ret (v := .agg #[.bool true, .int .u64 0, .slice none 0 0]) (by simp [results, Tryz.results60, go_sem]) rfl ?_
    exact ⟨⟨true, 0, []⟩, none, 0, rfl, ⟨isBytes_nil, (show (0 : Nat) < 18446744073709551616 by decide), (fun _ => ⟨rfl, rfl⟩), (fun h => by cases h)⟩, by simp, Own.nil _ _ _ _, (fit_four w _ _ _ _ _ _ _ _).1⟩
  | false =>
    go_enter Tryz.func60, Tryz.ntmps60
    go_wp2_with fail
    have HI := Aside.mk (show FitIn k s xs A b 0 (.slice none 0 0) w ((((w.alloc (.cells #[.int .i64 k, .int .i64 s] 23)).alloc (.cells #[.bool false, .int .u64 (b : Int), .slice A.a xs.length A.c] 45)).alloc (.cells #[.bool false, .int .u64 0, .slice none 0 0] 50)).alloc (.cells #[.bool false, .int .u64 0, .slice none 0 0] 50)) from fit_four w _ _ _ _ _ _ _ _)
    generalize ((((w.alloc (.cells #[.int .i64 k, .int .i64 s] 23)).alloc (.cells #[.bool false, .int .u64 (b : Int), .slice A.a xs.length A.c] 45)).alloc (.cells #[.bool false, .int .u64 0, .slice none 0 0] 50)).alloc (.cells #[.bool false, .int .u64 0, .slice none 0 0] 50)) = w4 at *
    cases hwd : wordedB k with
    | true =>
      have HWD := Aside.mk hwd
      have HTW := Aside.mk (fun (w2 : World) a c h => twin_bytes (xs.take 40) ⟨a, c⟩ (by rw [List.length_take]; omega) w2 h)
      have HCT := Aside.mk (fun (w2 : World) h => cut_bytes xs A hl w2 h)
      have HYB := Aside.mk (show IsBytes (xs.take 40) from fun x hx => HX.out x (List.mem_of_mem_take hx))
      have HYL := Aside.mk (show (xs.take 40).length ≤ 40 by rw [List.length_take]; omega)
      generalize xs.take 40 = ys at *
      clear hwd
      go_wp2_with (first | (go_at_call 62; refine (worded_any k s _).mono ?_; rintro e w5 ⟨rfl, hb5⟩; rw [HWD.out]; replace HI := Aside.mk (HI.out.below hb5); obtain ⟨p0, p1, p2, p3, p4, p5, p6, p7, p8, p9, f1, f2⟩ := fit_cells HI.out; clear hb5) | (go_at_call 20; refine (HCT.out _ (HR.out.below HI.out.1)).mono ?_; rintro e w6 ⟨ca, cc, rfl, hrc, rfl⟩; have HRC := Aside.mk hrc; clear hrc) | (go_at_call 80; refine (HTW.out _ _ _ HRC.out).mono ?_; rintro e w7 ⟨ta, tc, rfl, hot, hb7⟩; have HOT := Aside.mk (hot.mono (base' := w.heap.size + 4) (lt_of_blk HI.out.2.2.2.2)); replace HI := Aside.mk (HI.out.below hb7); clear hot hb7 p0 p1 p2 p3 p4 p5 p6 p7 p8 p9 f1 f2; obtain ⟨p0, p1, p2, p3, p4, p5, p6, p7, p8, p9, f1, f2⟩ := fit_cells HI.out))
      refine bodyPost_ret (v := .agg #[.bool false, .int .u64 0, .slice ta ys.length tc]) (by simp [results, Tryz.results60, go_sem, p4, p5, p6]) rfl ?_
      have hne : ∀ a, a = w.heap.size + 1 + 1 + 1 ∨ a = w.heap.size + 1 + 1 → Value.ownBlock (.slice ta ys.length tc) ≠ some a := fun a ha e => by have := (HOT.out.lt _ e).1; omega
      refine ⟨⟨false, 0, ys⟩, ta, tc, rfl, ⟨HYB.out, (show (0 : Nat) < 18446744073709551616 by decide), (fun h => by cases h), (fun _ => by rw [HWD.out, if_pos rfl])⟩, HYL.out, ?_, ?_⟩
      · exact ((((HOT.out.set_other (a := ⟨w.heap.size + 1 + 1 + 1, 2, none⟩) (hne _ (.inl rfl)) _).set_other (a := ⟨w.heap.size + 1 + 1, 0, none⟩) (hne _ (.inr rfl)) _).set_other (a := ⟨w.heap.size + 1 + 1, 1, none⟩) (hne _ (.inr rfl)) _).set_other (a := ⟨w.heap.size + 1 + 1, 2, none⟩) (hne _ (.inr rfl)) _).mono (by omega)
      · exact (((HI.out.1.setCell (by simp; omega) _).setCell (by simp; omega) _).setCell (by simp; omega) _).setCell (by simp; omega) _
    | false =>
      have HWD := Aside.mk hwd
      clear hwd
      go_wp2_with (go_at_call 62; refine (worded_any k s _).mono ?_; rintro e w5 ⟨rfl, hb5⟩; rw [HWD.out]; replace HI := Aside.mk (HI.out.below hb5); obtain ⟨p0, p1, p2, p3, p4, p5, p6, p7, p8, p9, f1, f2⟩ := fit_cells HI.out; clear hb5)
      have HI2 := Aside.mk (show FitIn k s xs A b (b / 2 ^ 0) (.slice none 0 0) w (w5.setCell ⟨w.heap.size + 1 + 1 + 1, 1, none⟩ (.int .u64 (b : Int))) from by
        have := HI.out.setBits (b2 := b)
        simpa using this)
      clear HI p0 p1 p2 p3 p4 p5 p6 p7 p8 p9 f1 f2
      go_loopw [6] (fun iv wr => ∃ i : Nat, i ≤ 64 ∧ iv = .int .i64 (i : Int) ∧ Aside (FitIn k s xs A b (b / 2 ^ i) (.slice none 0 0) w wr)) (fun iv _ => 64 - (intOf iv).toNat)
      case atStart => exact ⟨0, by omega, rfl, HI2⟩
      case round =>
        clear HI2
        obtain ⟨i, hi, rfl, HI⟩ := hrel
        obtain ⟨p0, p1, p2, p3, p4, p5, p6, p7, p8, p9, f1, f2⟩ := fit_cells HI.out
        have hlt64 : b / 2 ^ i < 18446744073709551616 := Nat.lt_of_le_of_lt (Nat.div_le_self _ _) hb
        have hnext : b / 2 ^ i / 2 = b / 2 ^ (i + 1) := by rw [Nat.div_div_eq_div_mul, Nat.pow_succ]
        have hzero : i = 64 → b / 2 ^ i = 0 := fun h => by rw [h]; exact Nat.div_eq_of_lt hb
        have HN := Aside.mk hnext
        have HZ := Aside.mk hzero
        clear hnext hzero
        have done_ : fitsB k s ((b / 2 ^ i : Nat) : Int) = true → vOK k s ⟨false, b / 2 ^ i, []⟩ := fun h => ⟨isBytes_nil, hlt64, (fun h => by cases h), fun _ => by rw [HWD.out, if_neg (by decide)]; exact ⟨h, rfl⟩⟩
        have HDN := Aside.mk done_
        clear done_
        generalize hx : b / 2 ^ i = x at *
        clear hx
        by_cases h64 : i < 64
        · cases hfit : fitsB k s (x : Int) with
          | true =>
            have HFT := Aside.mk hfit
            clear hfit
            go_wp2_with (go_at_call 75; refine (r18fits_any k s x (by omega) (by omega) _).mono ?_; rintro e w6 ⟨rfl, hb6⟩; rw [HFT.out]; replace HI := Aside.mk (HI.out.below hb6); clear hb6 p0 p1 p2 p3 p4 p5 p6 p7 p8 p9 f1 f2; obtain ⟨p0, p1, p2, p3, p4, p5, p6, p7, p8, p9, f1, f2⟩ := fit_cells HI.out)
            refine bodyPost_ret (v := .agg #[.bool false, .int .u64 (x : Int), .slice none 0 0]) (by simp [results, Tryz.results60, go_sem, p4, p5, p6]) rfl ?_
            exact ⟨⟨false, x, []⟩, none, 0, rfl, HDN.out HFT.out, by simp, Own.nil _ _ _ _, ((HI.out.1.setCell (by simp; omega) _).setCell (by simp; omega) _).setCell (by simp; omega) _⟩
          | false =>
            have HFT := Aside.mk hfit
            clear hfit
            go_wp2_with (go_at_call 75; refine (r18fits_any k s x (by omega) (by omega) _).mono ?_; rintro e w6 ⟨rfl, hb6⟩; rw [HFT.out]; replace HI := Aside.mk (HI.out.below hb6); clear hb6 p0 p1 p2 p3 p4 p5 p6 p7 p8 p9 f1 f2; obtain ⟨p0, p1, p2, p3, p4, p5, p6, p7, p8, p9, f1, f2⟩ := fit_cells HI.out)
            have hnx := HI.out.setBits (b2 := b / 2 ^ (i + 1))
            rw [← HN.out] at hnx
            refine ⟨⟨i + 1, by omega, by simp, ⟨?_⟩⟩, by simp [intOf]; omega⟩
            rw [← HN.out]
            simpa using hnx
        · obtain rfl : i = 64 := by omega
          have hx0 := HZ.out rfl
          subst hx0
          have HFT := Aside.mk (fits_zero HO.out HWD.out)
          go_wp2
          refine bodyPost_ret (v := .agg #[.bool false, .int .u64 0, .slice none 0 0]) (by simp [results, Tryz.results60, go_sem, p4, p5, p6]) rfl ?_
          exact ⟨⟨false, 0, []⟩, none, 0, rfl, HDN.out HFT.out, by simp, Own.nil _ _ _ _, ((HI.out.1.setCell (by simp; omega) _).setCell (by simp; omega) _).setCell (by simp; omega) _⟩
end Go.Proofs.YtmhjjhaipcgbiaaGreat


namespace Go.Proofs.YtmhjjhaipcgbiaaGreat
open Go.RowKit
set_option linter.unusedVariables false
set_option linter.unusedSimpArgs false
set_option maxRecDepth 100000
set_option maxHeartbeats 2000000
theorem valinfo : (Tryz.prog.info? 50).map (fun i => (i.zero, i.size, i.bytes)) = some (some (.agg #[.bool false, .int .u64 0, .slice none 0 0]), 3, 40) := by kernel_rfl
structure OwnVs (w : World) (base : Nat) (A : SL) (l : List V) (xs : List Value) : Prop where
  row : Own w base 50 3 (.slice A.a l.length A.c) l.length xs
  each : ∀ (i : Nat) v, l[i]? = some v → ∃ ta tc, xs[i * 3]? = some (.bool v.null) ∧ xs[i * 3 + 1]? = some (.int .u64 (v.bits : Int)) ∧ xs[i * 3 + 2]? = some (.slice ta v.text.length tc) ∧ Own w base 5 1 (.slice ta v.text.length tc) v.text.length (v.text.map (.int .u8))
theorem OwnVs.rd {w : World} {base : Nat} {A : SL} {l : List V} {xs : List Value} (h : OwnVs w base A l xs) : RdVs w A l :=
  ⟨xs, h.row.rd, fun i v hi => by obtain ⟨ta, tc, a, b, c, d⟩ := h.each i v hi; exact ⟨ta, tc, a, b, c, d.rd⟩⟩
theorem OwnVs.kept {w w' : World} {base : Nat} {A : SL} {l : List V} {xs : List Value} {S : Nat → Prop} (h : OwnVs w base A l xs) (hk : Kept S w w') (hS : ∀ b, base ≤ b → b < w.heap.size → ¬ S b) : OwnVs w' base A l xs :=
  ⟨h.row.kept hk (fun b e => hS b (h.row.lt b e).1 (h.row.lt b e).2), fun i v hi => by obtain ⟨ta, tc, a, b, c, d⟩ := h.each i v hi; exact ⟨ta, tc, a, b, c, d.kept hk (fun x e => hS x (d.lt x e).1 (d.lt x e).2)⟩⟩
theorem OwnVs.below {w w' : World} {base : Nat} {A : SL} {l : List V} {xs : List Value} (h : OwnVs w base A l xs) (hb : Below w.heap.size w w') : OwnVs w' base A l xs :=
  h.kept (Kept.of_below (S := fun _ => False) hb) (fun _ _ _ e => e)
def FitsIn (k s : Int) (a : Option Addr) (c i : Nat) (w wr : World) : Prop :=
  ∃ (l : List V) (xs : List Value), l.length = i ∧ (∀ v ∈ l, vOK k s v ∧ v.text.length ≤ 40) ∧ OwnVs wr (w.heap.size + 1) ⟨a, c⟩ l xs ∧ Below w.heap.size w wr ∧ wr.heap[w.heap.size]? = some (.cells #[.int .i64 k, .int .i64 s] 23 (0, 0))
def FitsLP (k s : Int) (w : World) (e : Ending) (w' : World) : Prop :=
  ∃ (l : List V) (A : SL) (xs : List Value), e = .returned (.slice A.a l.length A.c) ∧ l.length ≤ 120 ∧ (∀ v ∈ l, vOK k s v ∧ v.text.length ≤ 40) ∧ OwnVs w' w.heap.size A l xs ∧ Below w.heap.size w w'
theorem get3 (x0 x1 x2 : Value) : ∀ (j : Nat) (u : Value), [x0, x1, x2][j]? = some u → j = 0 ∧ u = x0 ∨ j = 1 ∧ u = x1 ∨ j = 2 ∧ u = x2
  | 0, u, h => by simp at h; exact .inl ⟨rfl, h.symm⟩
  | 1, u, h => by simp at h; exact .inr (.inl ⟨rfl, h.symm⟩)
  | 2, u, h => by simp at h; exact .inr (.inr ⟨rfl, h.symm⟩)
  | n + 3, u, h => by simp at h
theorem src_val (w : World) (x0 x1 x2 : Value) (h0 : x0.oneCell' = true) (h1 : x1.oneCell' = true) (h2 : x2.oneCell' = true) : Src Tryz.prog 3 33 (.slice (some ⟨w.heap.size, 0, none⟩) 1 1) 1 [x0, x1, x2] (w.alloc (.cells #[x0, x1, x2] 50)) := by
  refine Src.ofSlice _ Tryz.underlying33 _ 1 1 [x0, x1, x2] rfl (fun j u hu => ?_) (by simp [h0, h1, h2])
  rw [addr_add, cell_blk (heap_alloc_new w _)]
  rcases get3 x0 x1 x2 j u hu with ⟨rfl, rfl⟩ | ⟨rfl, rfl⟩ | ⟨rfl, rfl⟩ <;> rfl
theorem fits_step {k s : Int} {a a5 : Option Addr} {c c5 i : Nat} {w wr w3 w5 : World} {v : V} {va : Option Addr} {vc : Nat} {xs : List Value} {l : List V} {o : Obj} (hl : l.length = i) (hv : ∀ v ∈ l, vOK k s v ∧ v.text.length ≤ 40) (ho : OwnVs wr (w.heap.size + 1) ⟨a, c⟩ l xs) (hb : Below w.heap.size w wr) (ht : wr.heap[w.heap.size]? = some (.cells #[.int .i64 k, .int .i64 s] 23 (0, 0)))
    (hok : vOK k s v) (h40 : v.text.length ≤ 40) (hb3 : Below wr.heap.size wr w3) (hov : Own w3 wr.heap.size 5 1 (.slice va v.text.length vc) v.text.length (v.text.map (.int .u8)))
    (hg : (w3.alloc o).grownBy w5 (Value.ownBlock (.slice a i c))) (hown : Own w5 (w.heap.size + 1) 50 3 (.slice a5 (i + 1) c5) (i + 1) (xs ++ [.bool v.null, .int .u64 (v.bits : Int), .slice va v.text.length vc])) : FitsIn k s a5 c5 (i + 1) w w5 := by
  have hxl : xs.length = i * 3 := by have := ho.row.1; rw [hl] at this; exact this
  have hsw := lt_of_blk ht
  have hrow : Value.ownBlock (.slice a i c) = Value.ownBlock (.slice a l.length c) := by cases a <;> rfl
  have K : Kept (fun b => Value.ownBlock (.slice a i c) = some b) wr w5 := ((Kept.of_below (S := fun b => Value.ownBlock (.slice a i c) = some b) hb3).trans (Kept.of_below (S := fun b => Value.ownBlock (.slice a i c) = some b) (below_new w3 o)) (fun _ e _ => e)).trans (Kept.of_grown hg) (fun _ e _ => e.symm)
  have K3 : Kept (fun b => Value.ownBlock (.slice a i c) = some b) w3 w5 := (Kept.of_below (S := fun b => Value.ownBlock (.slice a i c) = some b) (below_new w3 o)).trans (Kept.of_grown hg) (fun _ e _ => e.symm)
  have hlt : ∀ b, Value.ownBlock (.slice a i c) = some b → w.heap.size + 1 ≤ b ∧ b < wr.heap.size := fun b e => ho.row.lt b (hrow ▸ e)
  refine ⟨l ++ [v], _, by simp [hl], ?_, ⟨by simpa [hl] using hown, ?_⟩, hb.trans (K.to_below hb.size (fun b e => by have := hlt b e; omega)), (K.block _ hsw (fun e => by have := (hlt _ e).1; omega)).trans ht⟩
  · intro u hu
    rcases List.mem_append.1 hu with h | h
    · exact hv u h
    · simp at h; subst h; exact ⟨hok, h40⟩
  · intro j u hj
    rcases Nat.lt_or_ge j l.length with hlt2 | hge
    · rw [List.getElem?_append_left hlt2] at hj
      obtain ⟨ta, tc, q0, q1, q2, q3⟩ := ho.each j u hj
      refine ⟨ta, tc, ?_, ?_, ?_, q3.kept K (fun b e h => ?_)⟩
      · rw [List.getElem?_append_left (by omega)]; exact q0
      · rw [List.getElem?_append_left (by omega)]; exact q1
      · rw [List.getElem?_append_left (by omega)]; exact q2
      · obtain ⟨cur, hc⟩ := own_blk q3 e
        exact ho.row.blk_ne hc (by decide) (hrow ▸ h)
    · rw [List.getElem?_append_right hge] at hj
      have h0 : j - l.length = 0 := by
        have := (List.getElem?_eq_some_iff.1 hj).1
        simp at this
        omega
      rw [h0] at hj
      simp at hj
      subst hj
      have hj3 : j * 3 = xs.length := by omega
      refine ⟨va, vc, ?_, ?_, ?_, (hov.kept K3 (fun b e h => ?_)).mono (by omega)⟩
      · rw [hj3, List.getElem?_append_right (Nat.le_refl _)]; simp
      · rw [hj3, List.getElem?_append_right (by omega)]; simp
      · rw [hj3, List.getElem?_append_right (by omega)]; simp
      · have := (hov.lt b e).1; have := (hlt b h).2; omega
theorem fits_end {k s : Int} {a : Option Addr} {c i : Nat} {w wr : World} (h : FitsIn k s a c i w wr) (hi : i ≤ 120) : FitsLP k s w (.returned (.slice a i c)) wr := by
  obtain ⟨l, xs, hl, hv, ho, hb, _⟩ := h
  refine ⟨l, ⟨a, c⟩, xs, by rw [hl], by omega, hv, ⟨ho.row.mono (by omega), fun j u hj => ?_⟩, hb⟩
  obtain ⟨ta, tc, q0, q1, q2, q3⟩ := ho.each j u hj
  exact ⟨ta, tc, q0, q1, q2, q3.mono (by omega)⟩
theorem fitsL_any (k s : Int) (ho : okType k s = true) (l : List V) (hl : l.length ≤ 9223372036854775807) (hv : ∀ v ∈ l, IsBytes v.text ∧ v.bits < 18446744073709551616 ∧ v.text.length ≤ 9223372036854775807) (A : SL) (w : World) (h : RdVs w A l) :
    Calls Tryz.prog 26 #[.agg #[.int .i64 k, .int .i64 s], .slice A.a l.length A.c] w (FitsLP k s w) := by
  obtain ⟨aa, ac⟩ := A
  have HR := Aside.mk h
  have HV := Aside.mk hv
  have HO := Aside.mk ho
  clear h hv ho
  dsimp only
  go_enter Tryz.func26, Tryz.ntmps26
  go_wp2
  go_loopw [5, 6] (fun ov iv wr => ∃ (i : Nat) (a : Option Addr) (c : Nat), i ≤ l.length ∧ i ≤ 120 ∧ ov = .slice a i c ∧ iv = .int .i64 (i : Int) ∧ Aside (FitsIn k s a c i w wr)) (fun ov iv _ => l.length - (intOf iv).toNat)
  case atStart => exact ⟨0, none, 0, by omega, by omega, rfl, rfl, ⟨[], [], rfl, fun v hv => (by cases hv), ⟨Own.nil _ _ _ _, fun i v h => by simp at h⟩, below_new w _, heap_alloc_new w _⟩⟩
  case round =>
    obtain ⟨i, a, c, hi, hi2, rfl, rfl, hp⟩ := hrel
    by_cases hlt : i < l.length
    · by_cases h120 : i < 120
      · obtain ⟨lv, xs, hll, hlv, hov, hbl, htb⟩ := hp.out
        obtain ⟨g, off, cap, ta, tc, e1, e2, q1, q2, v0, v1, v2, hrt⟩ := (HR.out.below hbl).at hlt
        simp only at e1 e2
        subst e1 e2
        have hc0 := cell_blk (k := 0) htb
        have hc1 := cell_blk (k := 1) htb
        simp at hc0 hc1
        have hvv := HV.out _ (List.getElem_mem hlt)
        generalize l[i] = v at *
        obtain ⟨vn, vb, vt⟩ := v
        dsimp only at v0 v1 v2 hrt hvv
        have HFIT := Aside.mk (fit_any k s HO.out vn vb hvv.2.1 vt hvv.1 ⟨ta, tc⟩ hvv.2.2 wr.drew (hrt.below (below_drewN _ _ 1)))
        have HP1 := Aside.mk (And.intro hll (And.intro hlv (And.intro hov (And.intro hbl htb))))
        clear hrt hvv hll hlv hov hbl htb
        have HROW := Aside.mk (show Own wr (w.heap.size + 1) 50 3 (.slice a i c) i xs by
          have := HP1.out.2.2.1.row
          rw [HP1.out.1] at this
          exact this)
        have hsz1 : w.heap.size + 1 ≤ wr.heap.size := lt_of_blk HP1.out.2.2.2.2
        go_wp2_with fail
        go_region_law (first
          | (refine step_call (P := Tryz.prog) wr.drew (by rfl) 60 [.tmp 18, .tmp 22] _ (by rfl) [.agg #[.int .i64 k, .int .i64 s], .agg #[.bool vn, .int .u64 (vb : Int), .slice ta vt.length tc]] (by rfl) (fun _ _ => rfl) HFIT.out ?_; rintro e w3 ⟨v', va, vc, rfl, hok, h40, hov, hb3⟩; replace hb3 := undrew hb3; have HF3 := Aside.mk (And.intro hok (And.intro h40 (And.intro hov hb3))); have hsz3 := Nat.le_trans hsz1 hb3.size; clear hok h40 hov hb3; refine ⟨_, rfl, ?_⟩)
          | (refine step_app (P := Tryz.prog) (w3.alloc (.cells #[.bool v'.null, .int .u64 (v'.bits : Int), .slice va v'.text.length vc] 50)) (by rfl) (.tmp 17) (.tmp 24) 33 33 (by rfl) (w.heap.size + 1) 50 (.agg #[.bool false, .int .u64 0, .slice none 0 0]) 3 40 Tryz.underlying33 valinfo (by rfl) (.slice a i c) i xs (by rfl) ((HROW.out.below HF3.out.2.2.2).alloc _) (.slice (some ⟨w3.heap.size, 0, none⟩) 1 1) 1 [.bool v'.null, .int .u64 (v'.bits : Int), .slice va v'.text.length vc] (by rfl) (src_val w3 _ _ _ rfl rfl rfl) (by unfold maxLen; omega) (by omega) (by simp; omega) ?_; intro v5 w5 hown' hgrow _ hat; obtain ⟨a5, c5, rfl⟩ := hown'.form; have HST := Aside.mk (fits_step HP1.out.1 HP1.out.2.1 HP1.out.2.2.1 HP1.out.2.2.2.1 HP1.out.2.2.2.2 HF3.out.1 HF3.out.2.1 HF3.out.2.2.2 HF3.out.2.2.1 hgrow hown'); clear hown' hgrow hat))
        all_goals
          go_wp2
          exact ⟨⟨i + 1, a5, c5, by omega, by omega, rfl, by simp, HST⟩, by simp [intOf]; omega⟩
      · obtain rfl : i = 120 := by omega
        go_wp2
        go_ret
        exact fits_end hp.out (by omega)
    · obtain rfl : i = l.length := by omega
      go_wp2
      go_ret
      exact fits_end hp.out (by omega)
end Go.Proofs.YtmhjjhaipcgbiaaGreat


namespace Go.Proofs.YtmhjjhaipcgbiaaGreat
open Go.RowKit
set_option linter.unusedVariables false
set_option linter.unusedSimpArgs false
set_option maxRecDepth 100000
set_option maxHeartbeats 1000000
theorem box6b {w : World} {b : Nat} {x0 x1 x2 x3 x4 x5 : Value} {T : TypeId} (h : w.heap[b]? = some (.cells #[x0, x1, x2, x3, x4, x5] T (0, 0))) : w.cell? ⟨b, 0, none⟩ = some x0 ∧ w.cell? ⟨b, 1, none⟩ = some x1 ∧ w.cell? ⟨b, 2, none⟩ = some x2 ∧ w.cell? ⟨b, 3, none⟩ = some x3 ∧ w.cell? ⟨b, 4, none⟩ = some x4 ∧ w.cell? ⟨b, 5, none⟩ = some x5 := by
  refine ⟨?_, ?_, ?_, ?_, ?_, ?_⟩ <;> (rw [cell_blk h]; rfl)
structure KRow where
  a : Option Addr
  c : Nat
  xs : List Int
def KRow.val (r : KRow) : Value := .slice r.a r.xs.length r.c
structure BR (w : World) (E TE : TypeId) (K : IntKind) (v : Value) (rows : List KRow) : Prop where
  rv : Own w 0 TE 1 v rows.length (rows.map KRow.val)
  row : ∀ (i : Nat) r, rows[i]? = some r → Own w 0 E 1 r.val r.xs.length (r.xs.map (.int K))
  apart : ∀ (i j : Nat) r r', i < j → rows[i]? = some r → rows[j]? = some r' → ∀ b, r.val.ownBlock = some b → r'.val.ownBlock ≠ some b
  few : rows.length ≤ 400
  small : ∀ r ∈ rows, r.xs.length ≤ 100000000
structure BS_ (w : World) (E TE : TypeId) (K : IntKind) (sv : Value) (rows : List KRow) (ss : List Value) : Prop where
  rs : Own w 0 TE 1 sv rows.length ss
  said : ∀ (i : Nat) r, rows[i]? = some r → ∃ a c, ss[i]? = some (.slice a r.xs.length c) ∧ Own w 0 E 1 (.slice a r.xs.length c) r.xs.length (r.xs.map (.int K))
structure BT (T : Nat → Prop) (v sv : Value) (rows : List KRow) (ss : List Value) : Prop where
  tv : ∀ b, v.ownBlock = some b → T b
  ts : ∀ b, sv.ownBlock = some b → T b
  vs : ∀ b, v.ownBlock = some b → sv.ownBlock ≠ some b
  trow : ∀ r ∈ rows, ∀ b, r.val.ownBlock = some b → T b
  tsaid : ∀ u ∈ ss, ∀ b, u.ownBlock = some b → T b
structure BKx (w : World) (T : Nat → Prop) (bk : Nat) (rows irows : List KRow) (ss hs : List Value) (bv sv iv hv : Value) : Prop where
  blk : w.heap[bk]? = some (.cells #[bv, sv, .slice none 0 0, .slice none 0 0, iv, hv] 41 (0, 0))
  tb : T bk
  b : BR w 5 43 .u8 bv rows
  bs : BS_ w 5 43 .u8 sv rows ss
  bt : BT T bv sv rows ss
  by_ : ∀ r ∈ rows, IsBytes r.xs
  i : BR w 3 61 .i64 iv irows
  is : BS_ w 3 61 .i64 hv irows hs
  it : BT T iv hv irows hs
def BK (w : World) (T : Nat → Prop) (bk : Nat) : Prop := ∃ rows irows ss hs bv sv iv hv, BKx w T bk rows irows ss hs bv sv iv hv
theorem BR.kept {w w' : World} {E TE : TypeId} {K : IntKind} {v : Value} {rows : List KRow} {S : Nat → Prop} (h : BR w E TE K v rows) (hk : Kept S w w') (h1 : ∀ b, v.ownBlock = some b → ¬ S b) (h2 : ∀ r ∈ rows, ∀ b, r.val.ownBlock = some b → ¬ S b) : BR w' E TE K v rows :=
  ⟨h.rv.kept hk h1, fun i r hi => (h.row i r hi).kept hk (h2 r (List.mem_of_getElem? hi)), h.apart, h.few, h.small⟩
theorem BS_.kept {w w' : World} {E TE : TypeId} {K : IntKind} {sv : Value} {rows : List KRow} {ss : List Value} {S : Nat → Prop} (h : BS_ w E TE K sv rows ss) (hk : Kept S w w') (h1 : ∀ b, sv.ownBlock = some b → ¬ S b) (h2 : ∀ u ∈ ss, ∀ b, u.ownBlock = some b → ¬ S b) : BS_ w' E TE K sv rows ss :=
  ⟨h.rs.kept hk h1, fun i r hi => by
    obtain ⟨a, c, q1, q2⟩ := h.said i r hi
    exact ⟨a, c, q1, q2.kept hk (h2 _ (List.mem_of_getElem? q1))⟩⟩
theorem BR.keptT {w w' : World} {E TE : TypeId} {K : IntKind} {v : Value} {rows : List KRow} {S : Nat → Prop} (h : BR w E TE K v rows) (hk : Kept S w w') (h1 : ∀ b, S b → b < w.heap.size → ∀ cs, w.heap[b]? ≠ some (.cells cs E (0, 0))) (h2 : ∀ b, S b → b < w.heap.size → ∀ cs, w.heap[b]? ≠ some (.cells cs TE (0, 0))) : BR w' E TE K v rows :=
  ⟨h.rv.keptT hk h2, fun i r hi => (h.row i r hi).keptT hk h1, h.apart, h.few, h.small⟩
theorem BS_.keptT {w w' : World} {E TE : TypeId} {K : IntKind} {sv : Value} {rows : List KRow} {ss : List Value} {S : Nat → Prop} (h : BS_ w E TE K sv rows ss) (hk : Kept S w w') (h1 : ∀ b, S b → b < w.heap.size → ∀ cs, w.heap[b]? ≠ some (.cells cs E (0, 0))) (h2 : ∀ b, S b → b < w.heap.size → ∀ cs, w.heap[b]? ≠ some (.cells cs TE (0, 0))) : BS_ w' E TE K sv rows ss :=
  ⟨h.rs.keptT hk h2, fun i r hi => by
    obtain ⟨a, c, q1, q2⟩ := h.said i r hi
    exact ⟨a, c, q1, q2.keptT hk h1⟩⟩
theorem BR.lt {w : World} {E TE : TypeId} {K : IntKind} {v : Value} {rows : List KRow} (h : BR w E TE K v rows) : (∀ b, v.ownBlock = some b → b < w.heap.size) ∧ ∀ r ∈ rows, ∀ b, r.val.ownBlock = some b → b < w.heap.size := by
  refine ⟨fun b e => (h.rv.lt b e).2, fun r hr b e => ?_⟩
  obtain ⟨i, hi, rfl⟩ := List.mem_iff_getElem.1 hr
  exact ((h.row i _ (List.getElem?_eq_getElem hi)).lt b e).2
theorem BS_.lt {w : World} {E TE : TypeId} {K : IntKind} {sv : Value} {rows : List KRow} {ss : List Value} (h : BS_ w E TE K sv rows ss) : (∀ b, sv.ownBlock = some b → b < w.heap.size) ∧ ∀ u ∈ ss, ∀ b, u.ownBlock = some b → b < w.heap.size := by
  refine ⟨fun b e => (h.rs.lt b e).2, fun u hu b e => ?_⟩
  obtain ⟨i, hi, rfl⟩ := List.mem_iff_getElem.1 hu
  have hl : ss.length = rows.length := by have := h.rs.1; omega
  obtain ⟨a, c, q1, q2⟩ := h.said i _ (List.getElem?_eq_getElem (show i < rows.length by omega))
  rw [List.getElem?_eq_getElem hi] at q1
  rw [Option.some.inj q1] at e
  exact (q2.lt b e).2
theorem BKx.kept {w w' : World} {T S : Nat → Prop} {bk : Nat} {rows irows : List KRow} {ss hs : List Value} {bv sv iv hv : Value} (h : BKx w T bk rows irows ss hs bv sv iv hv) (hk : Kept S w w') (hS : ∀ b, T b → b < w.heap.size → ¬ S b) : BKx w' T bk rows irows ss hs bv sv iv hv :=
  ⟨(hk.block _ (lt_of_blk h.blk) (hS _ h.tb (lt_of_blk h.blk))).trans h.blk, h.tb, h.b.kept hk (fun b e => hS b (h.bt.tv b e) (h.b.lt.1 b e)) (fun r hr b e => hS b (h.bt.trow r hr b e) (h.b.lt.2 r hr b e)),
    h.bs.kept hk (fun b e => hS b (h.bt.ts b e) (h.bs.lt.1 b e)) (fun u hu b e => hS b (h.bt.tsaid u hu b e) (h.bs.lt.2 u hu b e)), h.bt, h.by_,
    h.i.kept hk (fun b e => hS b (h.it.tv b e) (h.i.lt.1 b e)) (fun r hr b e => hS b (h.it.trow r hr b e) (h.i.lt.2 r hr b e)),
    h.is.kept hk (fun b e => hS b (h.it.ts b e) (h.is.lt.1 b e)) (fun u hu b e => hS b (h.it.tsaid u hu b e) (h.is.lt.2 u hu b e)), h.it⟩
theorem BT.mono {T T' : Nat → Prop} {v sv : Value} {rows : List KRow} {ss : List Value} {n : Nat} (h : BT T v sv rows ss) (hT : ∀ b, T b → b < n → T' b) (h1 : ∀ b, v.ownBlock = some b → b < n) (h2 : ∀ b, sv.ownBlock = some b → b < n) (h3 : ∀ r ∈ rows, ∀ b, r.val.ownBlock = some b → b < n) (h4 : ∀ u ∈ ss, ∀ b, u.ownBlock = some b → b < n) : BT T' v sv rows ss :=
  ⟨fun b e => hT b (h.tv b e) (h1 b e), fun b e => hT b (h.ts b e) (h2 b e), h.vs, fun r hr b e => hT b (h.trow r hr b e) (h3 r hr b e), fun u hu b e => hT b (h.tsaid u hu b e) (h4 u hu b e)⟩
theorem BKx.mono {w : World} {T T' : Nat → Prop} {bk : Nat} {rows irows : List KRow} {ss hs : List Value} {bv sv iv hv : Value} (h : BKx w T bk rows irows ss hs bv sv iv hv) (hT : ∀ b, T b → b < w.heap.size → T' b) : BKx w T' bk rows irows ss hs bv sv iv hv :=
  ⟨h.blk, hT _ h.tb (lt_of_blk h.blk), h.b, h.bs, h.bt.mono hT h.b.lt.1 h.bs.lt.1 h.b.lt.2 h.bs.lt.2, h.by_, h.i, h.is, h.it.mono hT h.i.lt.1 h.is.lt.1 h.i.lt.2 h.is.lt.2⟩
theorem BK.kept {w w' : World} {T S : Nat → Prop} {bk : Nat} (h : BK w T bk) (hk : Kept S w w') (hS : ∀ b, T b → b < w.heap.size → ¬ S b) : BK w' T bk := by
  obtain ⟨rows, irows, ss, hs, bv, sv, iv, hv, h⟩ := h
  exact ⟨rows, irows, ss, hs, bv, sv, iv, hv, h.kept hk hS⟩
theorem BK.below {w w' : World} {T : Nat → Prop} {bk : Nat} (h : BK w T bk) (hb : Below w.heap.size w w') : BK w' T bk := h.kept (Kept.of_below (S := fun _ => False) hb) (fun _ _ _ e => e)
theorem BK.mono {w : World} {T T' : Nat → Prop} {bk : Nat} (h : BK w T bk) (hT : ∀ b, T b → b < w.heap.size → T' b) : BK w T' bk := by
  obtain ⟨rows, irows, ss, hs, bv, sv, iv, hv, h⟩ := h
  exact ⟨rows, irows, ss, hs, bv, sv, iv, hv, h.mono hT⟩
theorem BK.new (w : World) : BK (w.alloc (.cells #[.slice none 0 0, .slice none 0 0, .slice none 0 0, .slice none 0 0, .slice none 0 0, .slice none 0 0] 41)) (fun b => w.heap.size ≤ b) w.heap.size :=
  ⟨[], [], [], [], _, _, _, _, heap_alloc_new w _, Nat.le_refl _, ⟨Own.nil _ _ _ _, by simp, by simp, by simp, by simp⟩, ⟨Own.nil _ _ _ _, by simp⟩, ⟨by simp [Value.ownBlock], by simp [Value.ownBlock], by simp [Value.ownBlock], by simp, by simp⟩, by simp,
    ⟨Own.nil _ _ _ _, by simp, by simp, by simp, by simp⟩, ⟨Own.nil _ _ _ _, by simp⟩, ⟨by simp [Value.ownBlock], by simp [Value.ownBlock], by simp [Value.ownBlock], by simp, by simp⟩⟩
theorem br_add {w w' : World} {E TE : TypeId} {K : IntKind} {v v' sv sv' : Value} {rows : List KRow} {ss : List Value} {T : Nat → Prop} {r : KRow} {a : Option Addr} {c : Nat} {S : Nat → Prop} (h : BR w E TE K v rows) (hs : BS_ w E TE K sv rows ss) (ht : BT T v sv rows ss) (hf : rows.length < 400)
    (hr : Own w 0 E 1 r.val r.xs.length (r.xs.map (.int K))) (hrT : ∀ b, r.val.ownBlock = some b → ¬ T b) (hrs : r.xs.length ≤ 100000000) (hk : Kept S w w') (hS : ∀ b, S b → b < w.heap.size → ∀ cs, w.heap[b]? ≠ some (.cells cs E (0, 0)))
    (hv' : Own w' 0 TE 1 v' (rows.length + 1) (rows.map KRow.val ++ [r.val])) (hsv' : Own w' 0 TE 1 sv' (rows.length + 1) (ss ++ [.slice a r.xs.length c])) (hsd : Own w' w.heap.size E 1 (.slice a r.xs.length c) r.xs.length (r.xs.map (.int K)))
    (hb : v'.ownBlock = v.ownBlock ∨ ∃ b, v'.ownBlock = some b ∧ w.heap.size ≤ b) (hb2 : sv'.ownBlock = sv.ownBlock ∨ ∃ b, sv'.ownBlock = some b ∧ w.heap.size ≤ b) (hvs : ∀ b, v'.ownBlock = some b → sv'.ownBlock ≠ some b) :
    BR w' E TE K v' (rows ++ [r]) ∧ BS_ w' E TE K sv' (rows ++ [r]) (ss ++ [.slice a r.xs.length c]) ∧ BT (fun b => T b ∨ r.val.ownBlock = some b ∨ w.heap.size ≤ b) v' sv' (rows ++ [r]) (ss ++ [.slice a r.xs.length c]) := by
  have hsl : ss.length = rows.length := by have := hs.rs.1; omega
  have key : ∀ {i : Nat} {x : KRow}, (rows ++ [r])[i]? = some x → rows[i]? = some x ∨ (i = rows.length ∧ x = r) := fun {i x} hi => by
    rcases Nat.lt_or_ge i rows.length with hl | hl
    · rw [List.getElem?_append_left hl] at hi; exact .inl hi
    · rw [List.getElem?_append_right hl] at hi
      have h0 := (List.getElem?_eq_some_iff.1 hi).1
      simp at h0
      have h1 : i = rows.length := by omega
      subst h1
      simp at hi
      exact .inr ⟨rfl, hi.symm⟩
  refine ⟨⟨by simpa using hv', fun i x hi => ?_, fun i j x y hij hi hj b e => ?_, by simp; omega, fun x hx => ?_⟩, ⟨by simpa using hsv', fun i x hi => ?_⟩, ⟨fun b e => ?_, fun b e => ?_, hvs, fun x hx b e => ?_, fun u hu b e => ?_⟩⟩
  · rcases key hi with h1 | ⟨_, rfl⟩
    · exact (h.row i x h1).keptT hk hS
    · exact hr.keptT hk hS
  · rcases key hj with h2 | ⟨rfl, rfl⟩
    · rcases key hi with h1 | ⟨rfl, rfl⟩
      · exact h.apart i j x y hij h1 h2 b e
      · have := (List.getElem?_eq_some_iff.1 h2).1; omega
    · rcases key hi with h1 | ⟨rfl, rfl⟩
      · exact fun e2 => hrT b e2 (ht.trow x (List.mem_of_getElem? h1) b e)
      · omega
  · rcases List.mem_append.1 hx with hx | hx
    · exact h.small x hx
    · simp at hx; subst hx; exact hrs
  · rcases key hi with h1 | ⟨rfl, rfl⟩
    · obtain ⟨a', c', q1, q2⟩ := hs.said i x h1
      exact ⟨a', c', by rw [List.getElem?_append_left (by have := (List.getElem?_eq_some_iff.1 h1).1; omega)]; exact q1, q2.keptT hk hS⟩
    · exact ⟨a, c, by rw [← hsl, List.getElem?_append_right (Nat.le_refl _)]; simp, hsd.mono (Nat.zero_le _)⟩
  · rcases hb with h1 | ⟨b', h1, h2⟩
    · exact .inl (ht.tv b (h1 ▸ e))
    · rw [h1] at e; cases e; exact .inr (.inr h2)
  · rcases hb2 with h1 | ⟨b', h1, h2⟩
    · exact .inl (ht.ts b (h1 ▸ e))
    · rw [h1] at e; cases e; exact .inr (.inr h2)
  · rcases List.mem_append.1 hx with hx | hx
    · exact .inl (ht.trow x hx b e)
    · simp at hx; subst hx; exact .inr (.inl e)
  · rcases List.mem_append.1 hu with hx | hx
    · exact .inl (ht.tsaid u hx b e)
    · simp at hx; subst hx; exact .inr (.inr (hsd.lt b e).1)
end Go.Proofs.YtmhjjhaipcgbiaaGreat


namespace Go.Proofs.YtmhjjhaipcgbiaaGreat
open Go.RowKit
set_option linter.unusedVariables false
set_option linter.unusedSimpArgs false
set_option maxRecDepth 100000
set_option maxHeartbeats 1000000
def BookP (T : Nat → Prop) (bk : Nat) (v : Value) (w : World) (e : Ending) (w' : World) : Prop := e = .returned (.tuple #[]) ∧ BK w' (fun b => T b ∨ v.ownBlock = some b ∨ w.heap.size ≤ b) bk ∧ Kept T w w'
theorem book_end {T : Nat → Prop} {bk : Nat} {a : Option Addr} {c xl : Nat} {xs : List Int} {w w6 w7 w8 : World} {rows irows : List KRow} {ss hs : List Value} {ba bc sa sc va vc ta tc ua uc iv hv} (H : BKx w T bk rows irows ss hs (.slice ba rows.length bc) (.slice sa rows.length sc) iv hv)
    (hr : Own w 0 5 1 (.slice a xl c) xl (xs.map (.int .u8))) (hrT : ∀ b, (Value.slice a xl c).ownBlock = some b → ¬ T b) (hxl : xs.length = xl) (hb : IsBytes xs) (hl : xl ≤ 100000000) (hf : rows.length < 400)
    (K6 : Kept (fun b => b = bk ∨ (Value.slice ba rows.length bc).ownBlock = some b) w w6) (hT : ∀ (E : TypeId), E ≠ 41 → E ≠ 43 → ∀ b, (b = bk ∨ (Value.slice ba rows.length bc).ownBlock = some b) → b < w.heap.size → ∀ cs, w.heap[b]? ≠ some (.cells cs E (0, 0)))
    (hv6 : Own w6 0 43 1 (.slice va (rows.length + 1) vc) (rows.length + 1) (rows.map KRow.val ++ [.slice a xl c]))
    (hvb : (Value.slice va (rows.length + 1) vc).ownBlock = (Value.slice ba rows.length bc).ownBlock ∨ ∃ b, (Value.slice va (rows.length + 1) vc).ownBlock = some b ∧ w.heap.size ≤ b)
    (hb6 : w6.heap[bk]? = some (.cells #[.slice va (rows.length + 1) vc, .slice sa rows.length sc, .slice none 0 0, .slice none 0 0, iv, hv] 41 (0, 0)))
    (hb7 : Below w6.heap.size w6 w7) (ho7 : Own w7 w6.drew.heap.size 5 1 (.slice ta xl tc) xl (xs.map (.int .u8)))
    (K8 : Kept (fun b => (Value.slice sa rows.length sc).ownBlock = some b) w7 w8)
    (hA : AppP (w7.alloc (.cells #[.slice ta xl tc] 43)) 0 43 1 (.slice sa rows.length sc) rows.length ss 1 [.slice ta xl tc] (.slice ua (rows.length + 1) uc) w8)
    (hbk9 : (w8.setCell ⟨bk, 1, none⟩ (.slice ua (rows.length + 1) uc)).heap[bk]? = some (.cells ((#[.slice va (rows.length + 1) vc, .slice sa rows.length sc, .slice none 0 0, .slice none 0 0, iv, hv] : Array Value).setIfInBounds 1 (.slice ua (rows.length + 1) uc)) 41 (0, 0))) :
    BookP T bk (.slice a xl c) w (.returned (.tuple #[])) (w8.setCell ⟨bk, 1, none⟩ (.slice ua (rows.length + 1) uc)) := by
  have hs9 : Kept (fun b => b = bk) w8 (w8.setCell ⟨bk, 1, none⟩ (.slice ua (rows.length + 1) uc)) := Kept.setCell w8 ⟨bk, 1, none⟩ _
  have K : Kept (fun b => b = bk ∨ (Value.slice ba rows.length bc).ownBlock = some b ∨ (Value.slice sa rows.length sc).ownBlock = some b) w (w8.setCell ⟨bk, 1, none⟩ (.slice ua (rows.length + 1) uc)) := by
    refine Kept.trans (S := fun b => b = bk ∨ (Value.slice ba rows.length bc).ownBlock = some b ∨ (Value.slice sa rows.length sc).ownBlock = some b) (Kept.trans (S := fun b => b = bk ∨ (Value.slice ba rows.length bc).ownBlock = some b ∨ (Value.slice sa rows.length sc).ownBlock = some b) (Kept.trans (K6.mono (fun b h _ => h.elim .inl (fun h => .inr (.inl h)))) (Kept.of_below (S := fun _ => False) hb7) (fun _ h _ => h.elim)) K8 (fun b h _ => .inr (.inr h))) hs9 (fun b h _ => .inl h)
  have hT2 : ∀ (E : TypeId), E ≠ 41 → E ≠ 43 → ∀ b, (b = bk ∨ (Value.slice ba rows.length bc).ownBlock = some b ∨ (Value.slice sa rows.length sc).ownBlock = some b) → b < w.heap.size → ∀ cs, w.heap[b]? ≠ some (.cells cs E (0, 0)) := by
    rintro E h1 h2 b (h | h | h) hb cs hc
    · exact hT E h1 h2 b (.inl h) hb cs hc
    · exact hT E h1 h2 b (.inr h) hb cs hc
    · obtain ⟨cur, hg⟩ := own_blk H.bs.rs h
      rw [hg] at hc; cases hc; exact h2 rfl
  have hbk7 := (hb7.block bk (lt_of_blk hb6)).trans hb6
  have hbk8 := (K8.block bk (lt_of_blk hbk7) (fun e => by
    have := H.bs.rs.blk_ne H.blk (by decide)
    exact this e)).trans hbk7
  have hsvlt : ∀ b, (Value.slice sa rows.length sc).ownBlock = some b → b < w.heap.size := fun b e => (H.bs.rs.lt b e).2
  have hvs : ∀ b, (Value.slice va (rows.length + 1) vc).ownBlock = some b → (Value.slice sa rows.length sc).ownBlock ≠ some b := fun b e e2 => by
    rcases hvb with h1 | ⟨b', h1, h2⟩
    · exact H.bt.vs b (h1 ▸ e) e2
    · rw [h1] at e; cases e; have := hsvlt _ e2; omega
  have hv8 : Own w8 0 43 1 (.slice va (rows.length + 1) vc) (rows.length + 1) (rows.map KRow.val ++ [.slice a xl c]) := (hv6.below hb7).kept K8 (fun b e h => hvs b e h)
  have hw7 : w.heap.size ≤ w7.heap.size := Nat.le_trans K6.size hb7.size
  have hw7a : (w7.alloc (.cells #[.slice ta xl tc] 43)).heap.size = w7.heap.size + 1 := by simp
  have hsd8 : Own w8 w.heap.size 5 1 (.slice ta xl tc) xl (xs.map (.int .u8)) := by
    refine (ho7.kept K8 (fun b e h => ?_)).mono K6.size
    obtain ⟨cur, hg⟩ := own_blk ho7 e
    obtain ⟨cur2, hg2⟩ := own_blk H.bs.rs h
    have h6 := (K6.block b (hsvlt b h) (fun e => by
      rcases e with e | e
      · subst e; exact H.bs.rs.blk_ne H.blk (by decide) h
      · exact H.bt.vs b e h)).trans hg2
    have h7 := (hb7.block b (lt_of_blk h6)).trans h6
    rw [hg] at h7; cases h7
  subst hxl
  obtain ⟨r1, r2, r3⟩ := br_add (r := ⟨a, c, xs⟩) H.b H.bs H.bt hf hr hrT hl K (hT2 _ (by decide) (by decide)) (hv8.set_other (hv8.blk_ne hbk8 (by decide)) _) (hA.own.set_other (hA.own.blk_ne hbk8 (by decide)) _) (hsd8.set_other (hsd8.blk_ne hbk8 (by decide)) _) hvb
    (hA.blk.imp id (fun ⟨b, e, h⟩ => ⟨b, e, by omega⟩)) (fun b e e2 => by
      rcases hA.blk with h1 | ⟨b', h1, h2⟩
      · exact hvs b e (h1 ▸ e2)
      · rw [h1] at e2; cases e2
        rcases hvb with h3 | ⟨b'', h3, h4⟩
        · have := (H.b.rv.lt _ (h3 ▸ e)).2; omega
        · have := (hv6.lt _ e).2; have := hb7.size; omega)
  have r3' : BT (fun b => T b ∨ (Value.slice a xs.length c).ownBlock = some b ∨ w.heap.size ≤ b) (.slice va (rows.length + 1) vc) (.slice ua (rows.length + 1) uc) (rows ++ [⟨a, c, xs⟩]) (ss ++ [.slice ta xs.length tc]) := r3
  refine ⟨rfl, ⟨rows ++ [⟨a, c, xs⟩], irows, ss ++ [.slice ta xs.length tc], hs, _, _, iv, hv, by simpa using hbk9, .inl H.tb, r1, r2, r3', ?_, H.i.keptT K (hT2 _ (by decide) (by decide)) (hT2 _ (by decide) (by decide)), H.is.keptT K (hT2 _ (by decide) (by decide)) (hT2 _ (by decide) (by decide)), ?_⟩, K.mono (fun b h _ => ?_)⟩
  · intro r hr
    rcases List.mem_append.1 hr with h | h
    · exact H.by_ r h
    · simp at h; subst h; exact hb
  · exact ⟨fun b e => .inl (H.it.tv b e), fun b e => .inl (H.it.ts b e), H.it.vs, fun r hr b e => .inl (H.it.trow r hr b e), fun u hu b e => .inl (H.it.tsaid u hu b e)⟩
  · rcases h with h | h | h
    · exact h ▸ H.tb
    · exact H.bt.tv b h
    · exact H.bt.ts b h
theorem book_bytes (T : Nat → Prop) (bk : Nat) (a : Option Addr) (c : Nat) (xs : List Int) (hb : IsBytes xs) (hl : xs.length ≤ 100000000) (w : World) (h : BK w T bk) (hr : Own w 0 5 1 (.slice a xs.length c) xs.length (xs.map (.int .u8))) (hrT : ∀ b, (Value.slice a xs.length c).ownBlock = some b → ¬ T b) :
    Calls Tryz.prog 42 #[.pointer (some ⟨bk, 0, none⟩), .slice a xs.length c] w (BookP T bk (.slice a xs.length c) w) := by
  obtain ⟨rows, irows, ss, hs, bv, sv, iv, hv, h⟩ := h
  obtain ⟨ba, bc, rfl⟩ := h.b.rv.form
  obtain ⟨sa, sc, rfl⟩ := h.bs.rs.form
  obtain ⟨ia, ic, rfl⟩ := h.i.rv.form
  obtain ⟨ha, hc, rfl⟩ := h.is.rs.form
  obtain ⟨c0, c1, c2, c3, c4, c5⟩ := box6b h.blk
  have hbl := lt_of_blk h.blk
  have hf0 := fun k => frozen_blk (k := k) h.blk
  have hfew := h.b.few
  have H := Aside.mk h
  have HR := Aside.mk hr
  have HRT := Aside.mk hrT
  have HB := Aside.mk hb
  have HTW := Aside.mk (fun (w2 : World) (h2 : Rd w2 1 (.slice a xs.length c) xs.length (xs.map (.int .u8))) => twin_bytes xs ⟨a, c⟩ hl w2 h2)
  dsimp only at HTW
  clear h hr hrT hb
  generalize hxl : xs.length = xl at *
  have HXL := Aside.mk hxl
  clear hxl
  by_cases hf : rows.length < 400
  · go_enter Tryz.func42, Tryz.ntmps42
    go_wp2_with (at_builtin; refine wpList_app2 _ rfl _ _ 37 37 rfl 0 43 (.slice none 0 0) 1 24 Tryz.underlying37 bytesinfo rfl _ rows.length (rows.map KRow.val) rfl (H.out.b.rv.alloc _) _ 1 [.slice a xl c] rfl (src_one Tryz.underlying37 _ _ _ rfl rfl) (by unfold maxLen; omega) (by omega) (Nat.zero_le _) ?_)
    intro v' w5 hA
    obtain ⟨va, vc, rfl⟩ := hA.own.form
    have K5 := Aside.mk (show Kept (fun b => (Value.slice ba rows.length bc).ownBlock = some b) w w5 from (Kept.of_below (below_new w _)).trans ((Kept.of_grown hA.grown).mono (fun b e _ => e.symm)) (fun _ e _ => e))
    have hb5 := (K5.out.block bk hbl (fun e => H.out.b.rv.blk_ne H.out.blk (by decide) e)).trans H.out.blk
    have HA := Aside.mk hA
    clear c0 c1 c2 c3 c4 c5 hf0 hA
    obtain ⟨c0, c1, c2, c3, c4, c5⟩ := box6b hb5
    have hf0 := fun k => frozen_blk (k := k) hb5
    have hbl5 := lt_of_blk hb5
    have hb6 := heap_setCell_at (k := 0) hb5 (.slice va (rows.length + 1) vc)
    simp at hb6
    have HB6 := Aside.mk hb6
    clear hb5 hb6
    go_wp2_with fail
    have K6 := Aside.mk (show Kept (fun b => b = bk ∨ (Value.slice ba rows.length bc).ownBlock = some b) w (w5.setCell ⟨bk, 0, none⟩ (.slice va (rows.length + 1) vc)) from (K5.out.mono (fun b e _ => .inr e)).trans (Kept.setCell _ _ _) (fun b e _ => .inl e))
    have HV6 := Aside.mk (show Own (w5.setCell ⟨bk, 0, none⟩ (.slice va (rows.length + 1) vc)) 0 43 1 (.slice va (rows.length + 1) vc) (rows.length + 1) (rows.map KRow.val ++ [.slice a xl c]) from HA.out.own.set_other (HA.out.own.blk_ne (by
      have := (K5.out.block bk hbl (fun e => H.out.b.rv.blk_ne H.out.blk (by decide) e)).trans H.out.blk
      exact this) (by decide)) _)
    have HVB := Aside.mk (show (Value.slice va (rows.length + 1) vc).ownBlock = (Value.slice ba rows.length bc).ownBlock ∨ ∃ b, (Value.slice va (rows.length + 1) vc).ownBlock = some b ∧ w.heap.size ≤ b from HA.out.blk.imp id (fun ⟨b, e, h⟩ => ⟨b, e, Nat.le_trans (by simp) h⟩))
    clear c0 c1 c2 c3 c4 c5 hf0 hbl5
    generalize w5.setCell ⟨bk, 0, none⟩ (.slice va (rows.length + 1) vc) = w6 at *
    clear HA K5
    obtain ⟨c0, c1, c2, c3, c4, c5⟩ := box6b HB6.out
    have hf0 := fun k => frozen_blk (k := k) HB6.out
    have hT6 : ∀ (E : TypeId), E ≠ 41 → E ≠ 43 → ∀ b, (b = bk ∨ (Value.slice ba rows.length bc).ownBlock = some b) → b < w.heap.size → ∀ cs, w.heap[b]? ≠ some (.cells cs E (0, 0)) := by
      rintro E h1 h2 b (rfl | e) _ cs hc
      · rw [H.out.blk] at hc; cases hc; exact h1 rfl
      · obtain ⟨cur, hg⟩ := own_blk H.out.b.rv e
        rw [hg] at hc; cases hc; exact h2 rfl
    have HR6 := Aside.mk (HR.out.keptT K6.out (hT6 _ (by decide) (by decide)))
    have HS6 := Aside.mk (show Own w6 0 43 1 (.slice sa rows.length sc) rows.length ss from H.out.bs.rs.kept K6.out (fun b e h => by
      rcases h with h | h
      · subst h; exact H.out.bs.rs.blk_ne H.out.blk (by decide) e
      · exact H.out.bt.vs b h e))
    have HT6 := Aside.mk hT6
    clear hT6
    have HTW6 := Aside.mk (HTW.out w6.drew (HR6.out.rd.below (below_drewN w6 _ 1)))
    clear HTW
    go_region_law (first
      | (refine step_call (P := Tryz.prog) w6.drew (by rfl) 80 [.tmp 25] _ (by rfl) [.slice a xl c] (by rfl) (fun _ _ => rfl) HTW6.out ?_; rintro e w7 ⟨ta, tc, rfl, ho, hb7⟩; have HO7 := Aside.mk ho; have HB7 := Aside.mk (undrew hb7); have hblk7 := (HB7.out.block bk (lt_of_blk HB6.out)).trans HB6.out; clear c0 c1 c2 c3 c4 c5 hf0; obtain ⟨c0, c1, c2, c3, c4, c5⟩ := box6b hblk7; have hf0 := fun k => frozen_blk (k := k) hblk7; have HBK7 := Aside.mk hblk7; have hbl7 := lt_of_blk hblk7; clear ho hb7 hblk7; refine ⟨_, rfl, ?_⟩)
      | (refine step_app2 (P := Tryz.prog) (w7.alloc (.cells #[.slice ta xl tc] 43)) (.tmp 24) (.tmp 27) 37 37 (by rfl) (by rfl) 0 43 (.slice none 0 0) 1 24 Tryz.underlying37 bytesinfo (by rfl) (.slice sa rows.length sc) rows.length ss (by rfl) ((HS6.out.below HB7.out).alloc _) (.slice (some ⟨w7.heap.size, 0, none⟩) 1 1) 1 [.slice ta xl tc] (by rfl) (src_one Tryz.underlying37 _ _ _ rfl rfl) (by unfold maxLen; omega) (by omega) (Nat.zero_le _) ?_; intro v8 w8 hA; obtain ⟨ua, uc, rfl⟩ := hA.own.form; have K8 := Aside.mk (show Kept (fun b => (Value.slice sa rows.length sc).ownBlock = some b) w7 w8 from (Kept.of_below (below_new w7 _)).trans ((Kept.of_grown hA.grown).mono (fun b e _ => e.symm)) (fun _ e _ => e)); have hblk8 := (K8.out.block bk hbl7 (fun e => HS6.out.blk_ne HB6.out (by decide) e)).trans HBK7.out; clear c0 c1 c2 c3 c4 c5 hf0; obtain ⟨c0, c1, c2, c3, c4, c5⟩ := box6b hblk8; have hf0 := fun k => frozen_blk (k := k) hblk8; have HBK8 := Aside.mk hblk8; have HA2 := Aside.mk hA; clear hA hblk8))
    all_goals
      have HBK9 := Aside.mk (heap_setCell_at (k := 1) HBK8.out (.slice ua (rows.length + 1) uc))
      go_wp2_with fail
      refine bodyPost_ret (v := .tuple #[]) (by simp [results, Tryz.results42, go_sem]) rfl ?_
      have h9 := book_end H.out HR.out HRT.out HXL.out HB.out hl hf K6.out HT6.out HV6.out HVB.out HB6.out HB7.out HO7.out K8.out HA2.out HBK9.out
      exact h9
  · have hf2 : rows.length = 400 := by omega
    go_enter Tryz.func42, Tryz.ntmps42
    go_wp2_with fail
    refine bodyPost_ret (v := .tuple #[]) (by simp [results, Tryz.results42, go_sem]) rfl ⟨rfl, ?_, Kept.refl _ _⟩
    exact ⟨rows, irows, ss, hs, _, _, _, _, H.out.mono (fun b hb _ => .inl hb)⟩
end Go.Proofs.YtmhjjhaipcgbiaaGreat


namespace Go.Proofs.YtmhjjhaipcgbiaaGreat
open Go.RowKit
set_option linter.unusedVariables false
set_option linter.unusedSimpArgs false
set_option maxRecDepth 100000
set_option maxHeartbeats 1000000
theorem intsinfo : (Tryz.prog.info? 61).map (fun i => (i.zero, i.size, i.bytes)) = some (some (.slice none 0 0), 1, 24) := by kernel_rfl
theorem intinfo3 : (Tryz.prog.info? 3).map (fun i => (i.zero, i.size, i.bytes)) = some (some (.int .i64 0), 1, 8) := by kernel_rfl
theorem ibook_end {T : Nat → Prop} {bk : Nat} {a : Option Addr} {c xl : Nat} {xs : List Int} {w w6 w7 w8 : World} {rows irows : List KRow} {ss hs : List Value} {ba bc sa sc va vc ta tc ua uc iv hv} (H : BKx w T bk irows rows hs ss iv hv (.slice ba rows.length bc) (.slice sa rows.length sc))
    (hr : Own w 0 3 1 (.slice a xl c) xl (xs.map (.int .i64))) (hrT : ∀ b, (Value.slice a xl c).ownBlock = some b → ¬ T b) (hxl : xs.length = xl) (hl : xl ≤ 100000000) (hf : rows.length < 400)
    (K6 : Kept (fun b => b = bk ∨ (Value.slice ba rows.length bc).ownBlock = some b) w w6) (hT : ∀ (E : TypeId), E ≠ 41 → E ≠ 61 → ∀ b, (b = bk ∨ (Value.slice ba rows.length bc).ownBlock = some b) → b < w.heap.size → ∀ cs, w.heap[b]? ≠ some (.cells cs E (0, 0)))
    (hv6 : Own w6 0 61 1 (.slice va (rows.length + 1) vc) (rows.length + 1) (rows.map KRow.val ++ [.slice a xl c]))
    (hvb : (Value.slice va (rows.length + 1) vc).ownBlock = (Value.slice ba rows.length bc).ownBlock ∨ ∃ b, (Value.slice va (rows.length + 1) vc).ownBlock = some b ∧ w.heap.size ≤ b)
    (hb6 : w6.heap[bk]? = some (.cells #[iv, hv, .slice none 0 0, .slice none 0 0, .slice va (rows.length + 1) vc, .slice sa rows.length sc] 41 (0, 0)))
    (hb7 : Below w6.heap.size w6 w7) (ho7 : Own w7 w6.drew.heap.size 3 1 (.slice ta xl tc) xl (xs.map (.int .i64)))
    (K8 : Kept (fun b => (Value.slice sa rows.length sc).ownBlock = some b) w7 w8)
    (hA : AppP (w7.alloc (.cells #[.slice ta xl tc] 61)) 0 61 1 (.slice sa rows.length sc) rows.length ss 1 [.slice ta xl tc] (.slice ua (rows.length + 1) uc) w8)
    (hbk9 : (w8.setCell ⟨bk, 5, none⟩ (.slice ua (rows.length + 1) uc)).heap[bk]? = some (.cells ((#[iv, hv, .slice none 0 0, .slice none 0 0, .slice va (rows.length + 1) vc, .slice sa rows.length sc] : Array Value).setIfInBounds 5 (.slice ua (rows.length + 1) uc)) 41 (0, 0))) :
    BookP T bk (.slice a xl c) w (.returned (.tuple #[])) (w8.setCell ⟨bk, 5, none⟩ (.slice ua (rows.length + 1) uc)) := by
  have hs9 : Kept (fun b => b = bk) w8 (w8.setCell ⟨bk, 5, none⟩ (.slice ua (rows.length + 1) uc)) := Kept.setCell w8 ⟨bk, 5, none⟩ _
  have K : Kept (fun b => b = bk ∨ (Value.slice ba rows.length bc).ownBlock = some b ∨ (Value.slice sa rows.length sc).ownBlock = some b) w (w8.setCell ⟨bk, 5, none⟩ (.slice ua (rows.length + 1) uc)) := by
    refine Kept.trans (S := fun b => b = bk ∨ (Value.slice ba rows.length bc).ownBlock = some b ∨ (Value.slice sa rows.length sc).ownBlock = some b) (Kept.trans (S := fun b => b = bk ∨ (Value.slice ba rows.length bc).ownBlock = some b ∨ (Value.slice sa rows.length sc).ownBlock = some b) (Kept.trans (K6.mono (fun b h _ => h.elim .inl (fun h => .inr (.inl h)))) (Kept.of_below (S := fun _ => False) hb7) (fun _ h _ => h.elim)) K8 (fun b h _ => .inr (.inr h))) hs9 (fun b h _ => .inl h)
  have hT2 : ∀ (E : TypeId), E ≠ 41 → E ≠ 61 → ∀ b, (b = bk ∨ (Value.slice ba rows.length bc).ownBlock = some b ∨ (Value.slice sa rows.length sc).ownBlock = some b) → b < w.heap.size → ∀ cs, w.heap[b]? ≠ some (.cells cs E (0, 0)) := by
    rintro E h1 h2 b (h | h | h) hb cs hc
    · exact hT E h1 h2 b (.inl h) hb cs hc
    · exact hT E h1 h2 b (.inr h) hb cs hc
    · obtain ⟨cur, hg⟩ := own_blk H.is.rs h
      rw [hg] at hc; cases hc; exact h2 rfl
  have hbk7 := (hb7.block bk (lt_of_blk hb6)).trans hb6
  have hbk8 := (K8.block bk (lt_of_blk hbk7) (fun e => by
    have := H.is.rs.blk_ne H.blk (by decide)
    exact this e)).trans hbk7
  have hsvlt : ∀ b, (Value.slice sa rows.length sc).ownBlock = some b → b < w.heap.size := fun b e => (H.is.rs.lt b e).2
  have hvs : ∀ b, (Value.slice va (rows.length + 1) vc).ownBlock = some b → (Value.slice sa rows.length sc).ownBlock ≠ some b := fun b e e2 => by
    rcases hvb with h1 | ⟨b', h1, h2⟩
    · exact H.it.vs b (h1 ▸ e) e2
    · rw [h1] at e; cases e; have := hsvlt _ e2; omega
  have hv8 : Own w8 0 61 1 (.slice va (rows.length + 1) vc) (rows.length + 1) (rows.map KRow.val ++ [.slice a xl c]) := (hv6.below hb7).kept K8 (fun b e h => hvs b e h)
  have hw7 : w.heap.size ≤ w7.heap.size := Nat.le_trans K6.size hb7.size
  have hw7a : (w7.alloc (.cells #[.slice ta xl tc] 61)).heap.size = w7.heap.size + 1 := by simp
  have hsd8 : Own w8 w.heap.size 3 1 (.slice ta xl tc) xl (xs.map (.int .i64)) := by
    refine (ho7.kept K8 (fun b e h => ?_)).mono K6.size
    obtain ⟨cur, hg⟩ := own_blk ho7 e
    obtain ⟨cur2, hg2⟩ := own_blk H.is.rs h
    have h6 := (K6.block b (hsvlt b h) (fun e => by
      rcases e with e | e
      · subst e; exact H.is.rs.blk_ne H.blk (by decide) h
      · exact H.it.vs b e h)).trans hg2
    have h7 := (hb7.block b (lt_of_blk h6)).trans h6
    rw [hg] at h7; cases h7
  subst hxl
  obtain ⟨r1, r2, r3⟩ := br_add (r := ⟨a, c, xs⟩) H.i H.is H.it hf hr hrT hl K (hT2 _ (by decide) (by decide)) (hv8.set_other (hv8.blk_ne hbk8 (by decide)) _) (hA.own.set_other (hA.own.blk_ne hbk8 (by decide)) _) (hsd8.set_other (hsd8.blk_ne hbk8 (by decide)) _) hvb
    (hA.blk.imp id (fun ⟨b, e, h⟩ => ⟨b, e, by omega⟩)) (fun b e e2 => by
      rcases hA.blk with h1 | ⟨b', h1, h2⟩
      · exact hvs b e (h1 ▸ e2)
      · rw [h1] at e2; cases e2
        rcases hvb with h3 | ⟨b'', h3, h4⟩
        · have := (H.i.rv.lt _ (h3 ▸ e)).2; omega
        · have := (hv6.lt _ e).2; have := hb7.size; omega)
  have r3' : BT (fun b => T b ∨ (Value.slice a xs.length c).ownBlock = some b ∨ w.heap.size ≤ b) (.slice va (rows.length + 1) vc) (.slice ua (rows.length + 1) uc) (rows ++ [⟨a, c, xs⟩]) (ss ++ [.slice ta xs.length tc]) := r3
  refine ⟨rfl, ⟨irows, rows ++ [⟨a, c, xs⟩], hs, ss ++ [.slice ta xs.length tc], iv, hv, _, _, by simpa using hbk9, .inl H.tb, H.b.keptT K (hT2 _ (by decide) (by decide)) (hT2 _ (by decide) (by decide)), H.bs.keptT K (hT2 _ (by decide) (by decide)) (hT2 _ (by decide) (by decide)), ?_, H.by_, r1, r2, r3'⟩, K.mono (fun b h _ => ?_)⟩
  · exact ⟨fun b e => .inl (H.bt.tv b e), fun b e => .inl (H.bt.ts b e), H.bt.vs, fun r hr b e => .inl (H.bt.trow r hr b e), fun u hu b e => .inl (H.bt.tsaid u hu b e)⟩
  · rcases h with h | h | h
    · exact h ▸ H.tb
    · exact H.it.tv b h
    · exact H.it.ts b h
theorem book_ints (T : Nat → Prop) (bk : Nat) (a : Option Addr) (c : Nat) (xs : List Int) (hl : xs.length ≤ 100000000) (w : World) (h : BK w T bk) (hr : Own w 0 3 1 (.slice a xs.length c) xs.length (xs.map (.int .i64))) (hrT : ∀ b, (Value.slice a xs.length c).ownBlock = some b → ¬ T b) :
    Calls Tryz.prog 94 #[.pointer (some ⟨bk, 0, none⟩), .slice a xs.length c] w (BookP T bk (.slice a xs.length c) w) := by
  obtain ⟨irows, rows, hs, ss, iv, hv, bv, sv, h⟩ := h
  obtain ⟨ba, bc, rfl⟩ := h.i.rv.form
  obtain ⟨sa, sc, rfl⟩ := h.is.rs.form
  obtain ⟨ia, ic, rfl⟩ := h.b.rv.form
  obtain ⟨ha, hc, rfl⟩ := h.bs.rs.form
  obtain ⟨c0, c1, c2, c3, c4, c5⟩ := box6b h.blk
  have hbl := lt_of_blk h.blk
  have hf0 := fun k => frozen_blk (k := k) h.blk
  have hfew := h.i.few
  have H := Aside.mk h
  have HR := Aside.mk hr
  have HRT := Aside.mk hrT
  clear h hr hrT
  generalize hxl : xs.length = xl at *
  have HXL := Aside.mk hxl
  clear hxl
  by_cases hf : rows.length < 400
  · go_enter Tryz.func94, Tryz.ntmps94
    go_wp2_with (at_builtin; refine wpList_app2 _ rfl _ _ 39 39 rfl 0 61 (.slice none 0 0) 1 24 Tryz.underlying39 intsinfo rfl _ rows.length (rows.map KRow.val) rfl (H.out.i.rv.alloc _) _ 1 [.slice a xl c] rfl (src_one Tryz.underlying39 _ _ _ rfl rfl) (by unfold maxLen; omega) (by omega) (Nat.zero_le _) ?_)
    intro v' w5 hA
    obtain ⟨va, vc, rfl⟩ := hA.own.form
    have K5 := Aside.mk (show Kept (fun b => (Value.slice ba rows.length bc).ownBlock = some b) w w5 from (Kept.of_below (below_new w _)).trans ((Kept.of_grown hA.grown).mono (fun b e _ => e.symm)) (fun _ e _ => e))
    have hb5 := (K5.out.block bk hbl (fun e => H.out.i.rv.blk_ne H.out.blk (by decide) e)).trans H.out.blk
    have HA := Aside.mk hA
    clear c0 c1 c2 c3 c4 c5 hf0 hA
    obtain ⟨c0, c1, c2, c3, c4, c5⟩ := box6b hb5
    have hf0 := fun k => frozen_blk (k := k) hb5
    have hbl5 := lt_of_blk hb5
    have hb6 := heap_setCell_at (k := 4) hb5 (.slice va (rows.length + 1) vc)
    simp at hb6
    have HB6 := Aside.mk hb6
    clear hb5 hb6
    go_wp2_with fail
    have K6 := Aside.mk (show Kept (fun b => b = bk ∨ (Value.slice ba rows.length bc).ownBlock = some b) w (w5.setCell ⟨bk, 4, none⟩ (.slice va (rows.length + 1) vc)) from (K5.out.mono (fun b e _ => .inr e)).trans (Kept.setCell _ _ _) (fun b e _ => .inl e))
    have HV6 := Aside.mk (show Own (w5.setCell ⟨bk, 4, none⟩ (.slice va (rows.length + 1) vc)) 0 61 1 (.slice va (rows.length + 1) vc) (rows.length + 1) (rows.map KRow.val ++ [.slice a xl c]) from HA.out.own.set_other (HA.out.own.blk_ne (by
      have := (K5.out.block bk hbl (fun e => H.out.i.rv.blk_ne H.out.blk (by decide) e)).trans H.out.blk
      exact this) (by decide)) _)
    have HVB := Aside.mk (show (Value.slice va (rows.length + 1) vc).ownBlock = (Value.slice ba rows.length bc).ownBlock ∨ ∃ b, (Value.slice va (rows.length + 1) vc).ownBlock = some b ∧ w.heap.size ≤ b from HA.out.blk.imp id (fun ⟨b, e, h⟩ => ⟨b, e, Nat.le_trans (by simp) h⟩))
    clear c0 c1 c2 c3 c4 c5 hf0 hbl5
    generalize w5.setCell ⟨bk, 4, none⟩ (.slice va (rows.length + 1) vc) = w6 at *
    clear HA K5
    obtain ⟨c0, c1, c2, c3, c4, c5⟩ := box6b HB6.out
    have hf0 := fun k => frozen_blk (k := k) HB6.out
    have hT6 : ∀ (E : TypeId), E ≠ 41 → E ≠ 61 → ∀ b, (b = bk ∨ (Value.slice ba rows.length bc).ownBlock = some b) → b < w.heap.size → ∀ cs, w.heap[b]? ≠ some (.cells cs E (0, 0)) := by
      rintro E h1 h2 b (rfl | e) _ cs hc
      · rw [H.out.blk] at hc; cases hc; exact h1 rfl
      · obtain ⟨cur, hg⟩ := own_blk H.out.i.rv e
        rw [hg] at hc; cases hc; exact h2 rfl
    have HR6 := Aside.mk (HR.out.keptT K6.out (hT6 _ (by decide) (by decide)))
    have HS6 := Aside.mk (show Own w6 0 61 1 (.slice sa rows.length sc) rows.length ss from H.out.is.rs.kept K6.out (fun b e h => by
      rcases h with h | h
      · subst h; exact H.out.is.rs.blk_ne H.out.blk (by decide) e
      · exact H.out.it.vs b h e))
    have HT6 := Aside.mk hT6
    clear hT6
    have HSR := Aside.mk ((HR6.out.rd.below (below_drewN w6 _ 1)).src (P := Tryz.prog) Tryz.underlying61 (one_map (fun x : Int => Value.int .i64 x) (fun _ => rfl) xs))
    go_region_law (first
      | (refine step_app2 (P := Tryz.prog) w6.drew (.tmp 26) (.tmp 27) 61 61 (by rfl) (by rfl) w6.drew.heap.size 3 (.int .i64 0) 1 8 Tryz.underlying61 intinfo3 (by rfl) (.slice none 0 0) 0 [] (by rfl) (Own.nil _ _ _ _) (.slice a xl c) xl (xs.map (.int .i64)) (by rfl) HSR.out (by unfold maxLen; omega) (by omega) (Nat.le_refl _) ?_; intro v7 w7 hA; obtain ⟨ta, tc, rfl⟩ := hA.own.form; have HO7 := Aside.mk (show Own w7 w6.drew.heap.size 3 1 (.slice ta xl tc) xl (xs.map (.int .i64)) from by simpa using hA.own); have HB7 := Aside.mk (undrew (below_of_grown hA.grown (Nat.le_refl _) (fun k e => by cases e))); simp only [Nat.zero_add]; have hblk7 := (HB7.out.block bk (lt_of_blk HB6.out)).trans HB6.out; clear c0 c1 c2 c3 c4 c5 hf0 hA; obtain ⟨c0, c1, c2, c3, c4, c5⟩ := box6b hblk7; have hf0 := fun k => frozen_blk (k := k) hblk7; have HBK7 := Aside.mk hblk7; have hbl7 := lt_of_blk hblk7; clear hblk7)
      | (refine step_app2 (P := Tryz.prog) (w7.alloc (.cells #[.slice ta xl tc] 61)) (.tmp 25) (.tmp 29) 39 39 (by rfl) (by rfl) 0 61 (.slice none 0 0) 1 24 Tryz.underlying39 intsinfo (by rfl) (.slice sa rows.length sc) rows.length ss (by rfl) ((HS6.out.below HB7.out).alloc _) (.slice (some ⟨w7.heap.size, 0, none⟩) 1 1) 1 [.slice ta xl tc] (by rfl) (src_one Tryz.underlying39 _ _ _ rfl rfl) (by unfold maxLen; omega) (by omega) (Nat.zero_le _) ?_; intro v8 w8 hA; obtain ⟨ua, uc, rfl⟩ := hA.own.form; have K8 := Aside.mk (show Kept (fun b => (Value.slice sa rows.length sc).ownBlock = some b) w7 w8 from (Kept.of_below (below_new w7 _)).trans ((Kept.of_grown hA.grown).mono (fun b e _ => e.symm)) (fun _ e _ => e)); have hblk8 := (K8.out.block bk hbl7 (fun e => HS6.out.blk_ne HB6.out (by decide) e)).trans HBK7.out; clear c0 c1 c2 c3 c4 c5 hf0; obtain ⟨c0, c1, c2, c3, c4, c5⟩ := box6b hblk8; have hf0 := fun k => frozen_blk (k := k) hblk8; have HBK8 := Aside.mk hblk8; have HA2 := Aside.mk hA; clear hA hblk8))
    all_goals
      have HBK9 := Aside.mk (heap_setCell_at (k := 5) HBK8.out (.slice ua (rows.length + 1) uc))
      go_wp2_with fail
      refine bodyPost_ret (v := .tuple #[]) (by simp [results, Tryz.results94, go_sem]) rfl ?_
      have h9 := ibook_end H.out HR.out HRT.out HXL.out hl hf K6.out HT6.out HV6.out HVB.out HB6.out HB7.out HO7.out K8.out HA2.out HBK9.out
      exact h9
  · have hf2 : rows.length = 400 := by omega
    go_enter Tryz.func94, Tryz.ntmps94
    go_wp2_with fail
    refine bodyPost_ret (v := .tuple #[]) (by simp [results, Tryz.results94, go_sem]) rfl ⟨rfl, ?_, Kept.refl _ _⟩
    exact ⟨irows, rows, hs, ss, _, _, _, _, H.out.mono (fun b hb _ => .inl hb)⟩
end Go.Proofs.YtmhjjhaipcgbiaaGreat
