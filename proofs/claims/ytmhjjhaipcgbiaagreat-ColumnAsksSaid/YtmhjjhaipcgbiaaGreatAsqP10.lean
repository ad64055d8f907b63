/- Texts of this claim, one behind the other: Spoil. -/
import Derived.Test.YtmhjjhaipcgbiaaGreatAsqP9

namespace Go.Proofs.YtmhjjhaipcgbiaaGreat
open Go.RowKit
set_option linter.unusedVariables false
set_option linter.unusedSimpArgs false
set_option maxRecDepth 100000
set_option maxHeartbeats 4000000
theorem xorI_eq {y : Int} (h0 : 0 ≤ y) (h1 : y < 256) (z : Int) : bits .xor .u8 y (z % 256) = xorI y (byteI z) := by
  obtain ⟨a, rfl⟩ := Int.eq_ofNat_of_zero_le h0
  obtain ⟨b, hb⟩ := Int.eq_ofNat_of_zero_le (show 0 ≤ z % 256 by omega)
  unfold byteI
  rw [hb, u8_xor_nat a b (by omega) (by omega)]
  unfold xorI
  simp
theorem colbp_drew {c : Col} {w W : World} {e : Ending} (h : ColBP c w e W) : ColBP c w e W.drew := by
  obtain ⟨B, D, E, X, vals, h1, h2, h3⟩ := h
  exact ⟨B, D, E, X, vals, h1, h2.below (below_drewN W _ 1), h3.trans (below_drewN W _ 1)⟩
theorem withinI_le (n : Int) {m : Int} (h : 0 < m) : 0 ≤ withinI n 0 (m - 1) ∧ withinI n 0 (m - 1) < m := by
  have h1 := Int.emod_nonneg n (show m - 1 - 0 + 1 ≠ 0 by omega)
  have h2 := Int.emod_lt_of_pos n (show 0 < m - 1 - 0 + 1 by omega)
  unfold withinI
  omega
theorem spoilt_any (c : Col) (hc : COK c) (hsz : c.bits.length ≤ 1000000 ∧ c.data.length ≤ 1000000 ∧ c.ends.length ≤ 1000000) (wh wat wby : Int) (h1 : IsI64 wh) (h2 : IsI64 wat) (h3 : IsI64 wby) (B D E X : SL) (vals : List Value) (w : World) (h : RdC w c B D E X vals) :
    Calls Tryz.prog 48 #[colV c B D E X, .agg #[.int .i64 wh, .int .i64 wat, .int .i64 wby]] w (ColBP (spoilC c wh wat wby) w) := by
  have HT := Aside.mk (fun W (hb : Below w.heap.size w W) => twin18 c B D E X vals hc.ld hc.lb hc.le hc.lw (fun t ht => (hc.words t ht).2) W (h.below hb))
  clear h
  dsimp only [colV] at HT ⊢
  go_enter Tryz.func48, Tryz.ntmps48
  go_wp2_with fail
  have hg : ∀ W', (((w.alloc (.cells #[.int .i64 c.k, .int .i64 c.s, .int .i64 c.n, .int .i64 c.m, .slice B.a c.bits.length B.c, .slice D.a c.data.length D.c, .slice E.a c.ends.length E.c, .slice X.a c.words.length X.c] 63)).alloc (.cells #[.int .i64 wh, .int .i64 wat, .int .i64 wby] 93)).alloc (.cells #[.int .i64 0, .int .i64 0, .int .i64 0, .int .i64 0, .slice none 0 0, .slice none 0 0, .slice none 0 0, .slice none 0 0] 63)) = W' → Below w.heap.size w W' ∧ W'.heap.size = w.heap.size + 3 ∧ W'.heap[w.heap.size]? = some (.cells #[.int .i64 c.k, .int .i64 c.s, .int .i64 c.n, .int .i64 c.m, .slice B.a c.bits.length B.c, .slice D.a c.data.length D.c, .slice E.a c.ends.length E.c, .slice X.a c.words.length X.c] 63 (0, 0)) ∧ W'.heap[w.heap.size + 1]? = some (.cells #[.int .i64 wh, .int .i64 wat, .int .i64 wby] 93 (0, 0)) ∧ W'.heap[w.heap.size + 1 + 1]? = some (.cells #[.int .i64 0, .int .i64 0, .int .i64 0, .int .i64 0, .slice none 0 0, .slice none 0 0, .slice none 0 0, .slice none 0 0] 63 (0, 0)) := fun W' e => by rw [← e]; exact below_three w _ _ _
  generalize (((w.alloc (.cells #[.int .i64 c.k, .int .i64 c.s, .int .i64 c.n, .int .i64 c.m, .slice B.a c.bits.length B.c, .slice D.a c.data.length D.c, .slice E.a c.ends.length E.c, .slice X.a c.words.length X.c] 63)).alloc (.cells #[.int .i64 wh, .int .i64 wat, .int .i64 wby] 93)).alloc (.cells #[.int .i64 0, .int .i64 0, .int .i64 0, .int .i64 0, .slice none 0 0, .slice none 0 0, .slice none 0 0, .slice none 0 0] 63)) = w3 at *
  obtain ⟨t1, t2, t3, t4, t5⟩ := hg w3 rfl
  clear hg
  refine (HT.out w3 t1).mono ?_
  rintro e w4 ⟨B', D', E', X', vals', rfl, hoc, hb4⟩
  have HS4 := Aside.mk (Nat.le_trans (Nat.le_of_eq t2.symm) hb4.size)
  have B4 := Aside.mk (below_chain t1 hb4)
  replace t3 := (hb4.block _ (lt_of_blk t3)).trans t3
  replace t4 := (hb4.block _ (lt_of_blk t4)).trans t4
  replace t5 := (hb4.block _ (lt_of_blk t5)).trans t5
  have HX := Aside.mk t3
  have HS3 := Aside.mk t2
  have HP := Aside.mk t4
  have HZ := Aside.mk t5
  have HOC := Aside.mk hoc
  have hlt := lt_of_blk t3
  have f0 := frozen_blk (k := 0) t3
  have f1 := frozen_blk (k := 1) t3
  have f2 := frozen_blk (k := 2) t3
  have f3 := frozen_blk (k := 3) t3
  have f4 := frozen_blk (k := 4) t3
  have f5 := frozen_blk (k := 5) t3
  have f6 := frozen_blk (k := 6) t3
  have f7 := frozen_blk (k := 7) t3
  obtain ⟨c0, c1, c2, c3, c4, c5, c6, c7⟩ := box8 t3
  have s0 : w4.cell? ⟨w.heap.size + 1, 0, none⟩ = some (.int .i64 wh) := by rw [cell_blk t4]; rfl
  have s1 : w4.cell? ⟨w.heap.size + 1, 1, none⟩ = some (.int .i64 wat) := by rw [cell_blk t4]; rfl
  have s2 : w4.cell? ⟨w.heap.size + 1, 2, none⟩ = some (.int .i64 wby) := by rw [cell_blk t4]; rfl
  clear HT hb4 t1 t2 t3 t4 t5 hoc
  dsimp only [colV]
  go_wp2_with fail
  have HSX := Aside.mk (sx_start B4.out HX.out HP.out HZ.out (HOC.out.mono (Nat.le_of_eq HS3.out.symm)))
  generalize ((((((((w4.setCell ⟨w.heap.size, 0, none⟩ (.int .i64 c.k)).setCell ⟨w.heap.size, 1, none⟩ (.int .i64 c.s)).setCell ⟨w.heap.size, 2, none⟩ (.int .i64 c.n)).setCell ⟨w.heap.size, 3, none⟩ (.int .i64 c.m)).setCell ⟨w.heap.size, 4, none⟩ (.slice B'.a c.bits.length B'.c)).setCell ⟨w.heap.size, 5, none⟩ (.slice D'.a c.data.length D'.c)).setCell ⟨w.heap.size, 6, none⟩ (.slice E'.a c.ends.length E'.c)).setCell ⟨w.heap.size, 7, none⟩ (.slice X'.a c.words.length X'.c)) = w5 at *
  clear c0 c1 c2 c3 c4 c5 c6 c7 s0 s1 s2 f0 f1 f2 f3 f4 f5 f6 f7 hlt HX HP HZ HOC HS4 B4
  refine (within_any wh 0 9 (by decide) (by decide) (by decide) w5).mono ?_
  rintro e w6 ⟨rfl, rfl⟩
  have hk : 0 ≤ withinI wh 0 9 ∧ withinI wh 0 9 ≤ 9 := by unfold withinI; omega
  obtain ⟨k, ek⟩ : ∃ k, withinI wh 0 9 = k := ⟨_, rfl⟩
  have EK := Aside.mk ek
  rw [ek] at hk ⊢
  clear ek
  have HRET : Aside (∀ c', spoilC c wh wat wby = c' → ∀ e W, ColBP c' w e W → ColBP (spoilC c wh wat wby) w e W) := ⟨fun c' h e W hp => by rw [h]; exact hp⟩
  generalize hsp : spoilC c wh wat wby = sc at *
  have HSP := Aside.mk hsp
  clear hsp
  obtain ⟨c0, c1, c2, c3, c4, c5, c6, c7⟩ := box8 HSX.out.box
  have f0 := fun k => frozen_blk (k := k) HSX.out.box
  obtain ⟨z0, z1, z2, z3, z4, z5, z6, z7⟩ := box8 HSX.out.zc
  have g0 := fun k => frozen_blk (k := k) HSX.out.zc
  have s0 : w5.cell? ⟨w.heap.size + 1, 0, none⟩ = some (.int .i64 wh) := by rw [cell_blk HSX.out.sp]; rfl
  have s1 : w5.cell? ⟨w.heap.size + 1, 1, none⟩ = some (.int .i64 wat) := by rw [cell_blk HSX.out.sp]; rfl
  have s2 : w5.cell? ⟨w.heap.size + 1, 2, none⟩ = some (.int .i64 wby) := by rw [cell_blk HSX.out.sp]; rfl
  obtain ⟨k1, k2⟩ := hk
  obtain rfl | rfl | rfl | rfl | rfl | rfl | rfl | rfl | rfl | rfl : k = 0 ∨ k = 1 ∨ k = 2 ∨ k = 3 ∨ k = 4 ∨ k = 5 ∨ k = 6 ∨ k = 7 ∨ k = 8 ∨ k = 9 := by omega
  · go_wp2_with fail
    refine bodyPost_ret (v := .agg #[.int .i64 c.k, .int .i64 c.s, .int .i64 c.n, .int .i64 c.m, .slice B'.a c.bits.length B'.c, .slice D'.a c.data.length D'.c, .slice E'.a c.ends.length E'.c, .slice X'.a c.words.length X'.c]) (by simp [results, Tryz.results48, go_sem, z0, z1, z2, z3, z4, z5, z6, z7]) rfl ?_
    exact HRET.out ⟨c.k, c.s, c.n, c.m, c.bits, c.data, c.ends, c.words⟩ (by rw [← HSP.out]; unfold spoilC; rw [EK.out]; rfl) _ _ (sx_end (c' := ⟨c.k, c.s, c.n, c.m, c.bits, c.data, c.ends, c.words⟩) HSX.out.bel HSX.out.own)
  · go_wp2_with fail
    refine bodyPost_ret (v := .agg #[.int .i64 c.k, .int .i64 c.s, .int .i64 (wrap64 (c.n + wby)), .int .i64 c.m, .slice B'.a c.bits.length B'.c, .slice D'.a c.data.length D'.c, .slice E'.a c.ends.length E'.c, .slice X'.a c.words.length X'.c]) (by simp [results, Tryz.results48, go_sem, z0, z1, z2, z3, z4, z5, z6, z7]) rfl ?_
    exact HRET.out ⟨c.k, c.s, (wrap64 (c.n + wby)), c.m, c.bits, c.data, c.ends, c.words⟩ (by rw [← HSP.out]; unfold spoilC; rw [EK.out]; rfl) _ _ (sx_end (c' := ⟨c.k, c.s, (wrap64 (c.n + wby)), c.m, c.bits, c.data, c.ends, c.words⟩) (sx_set HSX.out 2 (.int .i64 (wrap64 (c.n + wby)))).1 ((sx_set HSX.out 2 (.int .i64 (wrap64 (c.n + wby)))).2.head (c.k) (c.s) ((wrap64 (c.n + wby))) (c.m)))
  · go_wp2_with fail
    refine bodyPost_ret (v := .agg #[.int .i64 c.k, .int .i64 c.s, .int .i64 c.n, .int .i64 (wrap64 (c.m + wby)), .slice B'.a c.bits.length B'.c, .slice D'.a c.data.length D'.c, .slice E'.a c.ends.length E'.c, .slice X'.a c.words.length X'.c]) (by simp [results, Tryz.results48, go_sem, z0, z1, z2, z3, z4, z5, z6, z7]) rfl ?_
    exact HRET.out ⟨c.k, c.s, c.n, (wrap64 (c.m + wby)), c.bits, c.data, c.ends, c.words⟩ (by rw [← HSP.out]; unfold spoilC; rw [EK.out]; rfl) _ _ (sx_end (c' := ⟨c.k, c.s, c.n, (wrap64 (c.m + wby)), c.bits, c.data, c.ends, c.words⟩) (sx_set HSX.out 3 (.int .i64 (wrap64 (c.m + wby)))).1 ((sx_set HSX.out 3 (.int .i64 (wrap64 (c.m + wby)))).2.head (c.k) (c.s) (c.n) ((wrap64 (c.m + wby)))))
  · have hlb := hsz.1
    generalize hnb : c.bits.length = nb at c4 hlb ⊢
    have HNB := Aside.mk hnb
    clear hnb
    rcases Nat.eq_zero_or_pos nb with rfl | hpos
    · go_wp2_with fail
      refine bodyPost_ret (v := .agg #[.int .i64 c.k, .int .i64 c.s, .int .i64 c.n, .int .i64 c.m, .slice B'.a 0 B'.c, .slice D'.a c.data.length D'.c, .slice E'.a c.ends.length E'.c, .slice X'.a c.words.length X'.c]) (by simp [results, Tryz.results48, go_sem, z0, z1, z2, z3, z4, z5, z6, z7]) rfl ?_
      have hh := sx_end (c' := c) HSX.out.bel HSX.out.own
      rw [HNB.out] at hh
      exact HRET.out c (by rw [← HSP.out]; unfold spoilC; rw [EK.out]; show (⟨c.k, c.s, c.n, c.m, setL c.bits wat _, c.data, c.ends, c.words⟩ : Col) = c; rw [setL, if_pos HNB.out]) _ _ hh
    · obtain ⟨g, off, cap, es, hgb, hgl, hnc, hcm, hcells, hfz⟩ := HSX.out.own.bits.some_ (by rw [HNB.out]; exact hpos)
      obtain ⟨j, hj⟩ : ∃ j : Nat, withinI wat 0 ((c.bits.length : Int) - 1) = (j : Int) := ⟨(withinI wat 0 ((c.bits.length : Int) - 1)).toNat, by rw [HNB.out]; have := withinI_le wat (m := (nb : Int)) (by omega); omega⟩
      have hjl : j < nb := by rw [HNB.out] at hj; have := withinI_le wat (m := (nb : Int)) (by omega); omega
      have hjl2 : j < c.bits.length := by rw [HNB.out]; exact hjl
      have hcj := hcells j (.int .u8 (c.bits.getD j 0)) (by rw [List.getElem?_map, List.getElem?_eq_getElem hjl2, List.getD_eq_getElem?_getD, List.getElem?_eq_getElem hjl2]; rfl)
      have hfj := hfz (off + j)
      have HEND := Aside.mk (sx_bits HSX.out es hj hjl2 (by rw [HNB.out]; omega) EK.out)
      rw [HSP.out] at HEND
      have HWI := Aside.mk (fun w' => within_any wat 0 ((nb : Int) - 1) (by decide) (by omega) (by omega) w')
      rw [HNB.out] at hj hnc es
      rw [hj] at HWI
      have hy := getD_byte hc.bits j
      simp only [Value.slice.injEq, true_and] at es
      have hwr := HSX.out.bel.size
      have hgn : g ≠ w.heap.size + 1 + 1 := by omega
      have hgn0 : g ≠ w.heap.size := by omega
      rw [es.1, es.2] at c4
      rcases B' with ⟨qa, qc⟩
      dsimp only at es
      obtain ⟨rfl, rfl⟩ := es
      clear hcells hfz hj hjl2 HRET HSP EK
      generalize c.bits.getD j 0 = y at *
      have hxr := xorI_eq hy.1 hy.2 wby
      have hlm : IntKind.i64.wrap ((nb : Int) - 1) = (nb : Int) - 1 := (IntWalk.i64_left _).trans (IntWalk.wrap64_in _ (by omega))
      go_upto_region 9 with fail
      refine wp_regionE (fun w' => w'.cell? ⟨w.heap.size, 4, none⟩ = some (.slice (some ⟨g, off, none⟩) nb qc) ∧ w'.cell? ⟨w.heap.size + 1, 1, none⟩ = some (.int .i64 wat) ∧ w'.cell? ⟨w.heap.size + 1, 2, none⟩ = some (.int .i64 wby) ∧ w'.cell? ⟨g, off + j, none⟩ = some (.int .u8 y)) 18 19 (by kernel_rfl) rfl ?_
      have hS : (fun w' => w'.cell? ⟨w.heap.size, 4, none⟩ = some (.slice (some ⟨g, off, none⟩) nb qc) ∧ w'.cell? ⟨w.heap.size + 1, 1, none⟩ = some (.int .i64 wat) ∧ w'.cell? ⟨w.heap.size + 1, 2, none⟩ = some (.int .i64 wby) ∧ w'.cell? ⟨g, off + j, none⟩ = some (.int .u8 y)) w5.drew := ⟨c4, s1, s2, hcj⟩
      refine wpE_take (k := 0) (o := ⟨some 35, _, _, _, _, _⟩) (v := ?_) rfl (by kernel_rfl) (by kernel_rfl) (by kernel_rfl) (by kernel_rfl) (fun _ _ _ h => h) (Or.inl ⟨by rfl, ?_⟩) (by assumption) ?_
      rotate_left
      · (intro w hSw; (try dsimp only at hSw); go_simp; (try with_reducible rfl))
      (try simp only [Act.put, List.setIfInBounds_toArray, List.set_cons_zero, List.set_cons_succ])
      refine wpE_take (k := 1) (o := ⟨some 36, _, _, _, _, _⟩) (v := ?_) rfl (by kernel_rfl) (by kernel_rfl) (by kernel_rfl) (by kernel_rfl) (fun _ _ _ h => h) (Or.inl ⟨by rfl, ?_⟩) (by assumption) ?_
      rotate_left
      · (intro w hSw; (try dsimp only at hSw); go_simp; (try with_reducible rfl))
      (try simp only [Act.put, List.setIfInBounds_toArray, List.set_cons_zero, List.set_cons_succ])
      refine wpE_take (k := 2) (o := ⟨some 37, _, _, _, _, _⟩) (v := ?_) rfl (by kernel_rfl) (by kernel_rfl) (by kernel_rfl) (by kernel_rfl) (fun _ _ _ h => h) (Or.inl ⟨by rfl, ?_⟩) (by assumption) ?_
      rotate_left
      · (intro w hSw; (try dsimp only at hSw); go_simp; (try with_reducible rfl))
      (try simp only [Act.put, List.setIfInBounds_toArray, List.set_cons_zero, List.set_cons_succ])
      refine wpE_take (k := 3) (o := ⟨some 38, _, _, _, _, _⟩) (v := ?_) rfl (by kernel_rfl) (by kernel_rfl) (by kernel_rfl) (by kernel_rfl) (fun _ _ _ h => h) (Or.inl ⟨by rfl, ?_⟩) (by assumption) ?_
      rotate_left
      · (intro w hSw; (try dsimp only at hSw); go_simp; (try with_reducible rfl))
      (try simp only [Act.put, List.setIfInBounds_toArray, List.set_cons_zero, List.set_cons_succ])
      refine wpE_take (k := 4) (o := ⟨some 39, _, _, _, _, _⟩) (v := ?_) rfl (by kernel_rfl) (by kernel_rfl) (by kernel_rfl) (by kernel_rfl) (fun _ _ _ h => h) (Or.inl ⟨by rfl, ?_⟩) (by assumption) ?_
      rotate_left
      · (intro w hSw; (try dsimp only at hSw); go_simp; (try with_reducible rfl))
      (try simp only [Act.put, List.setIfInBounds_toArray, List.set_cons_zero, List.set_cons_succ])
      refine wpE_take (k := 5) (o := ⟨some 40, _, _, _, _, _⟩) (v := ?_) rfl (by kernel_rfl) (by kernel_rfl) (by kernel_rfl) (by kernel_rfl) (fun _ _ _ h => h) (Or.inl ⟨by rfl, ?_⟩) (by assumption) ?_
      rotate_left
      · (intro w hSw; (try dsimp only at hSw); go_simp; (try with_reducible rfl))
      (try simp only [Act.put, List.setIfInBounds_toArray, List.set_cons_zero, List.set_cons_succ])
      refine wpE_take (k := 6) (o := ⟨some 41, _, _, _, _, _⟩) (v := ?_) rfl (by kernel_rfl) (by kernel_rfl) (by kernel_rfl) (by kernel_rfl) (fun _ _ _ h => h) (Or.inl ⟨by rfl, ?_⟩) (by assumption) ?_
      rotate_left
      · (intro w hSw; (try dsimp only at hSw); go_simp; (try with_reducible rfl))
      (try simp only [Act.put, List.setIfInBounds_toArray, List.set_cons_zero, List.set_cons_succ])
      refine wpE_take (k := 7) (o := ⟨some 42, _, _, _, _, _⟩) (v := ?_) rfl (by kernel_rfl) (by kernel_rfl) (by kernel_rfl) (by kernel_rfl) (fun _ _ _ h => h) (Or.inl ⟨by rfl, ?_⟩) (by assumption) ?_
      rotate_left
      · (intro w hSw; (try dsimp only at hSw); go_simp; (try with_reducible rfl))
      (try simp only [Act.put, List.setIfInBounds_toArray, List.set_cons_zero, List.set_cons_succ])
      refine wpE_take (k := 8) (o := ⟨some 43, _, _, _, _, _⟩) (v := ?_) rfl (by kernel_rfl) (by kernel_rfl) (by kernel_rfl) (by kernel_rfl) (fun _ _ _ h => h) (Or.inl ⟨by rfl, ?_⟩) (by assumption) ?_
      rotate_left
      · (intro w hSw; (try dsimp only at hSw); go_simp; (try with_reducible rfl))
      (try simp only [Act.put, List.setIfInBounds_toArray, List.set_cons_zero, List.set_cons_succ])
      refine wpE_take (k := 9) (o := ⟨some 44, _, _, _, _, _⟩) (v := ?_) rfl (by kernel_rfl) (by kernel_rfl) (by kernel_rfl) (by kernel_rfl) (fun _ _ _ h => h) (Or.inl ⟨by rfl, ?_⟩) (by assumption) ?_
      rotate_left
      · (intro w hSw; (try dsimp only at hSw); go_simp; (try with_reducible rfl))
      (try simp only [Act.put, List.setIfInBounds_toArray, List.set_cons_zero, List.set_cons_succ])
      refine wpE_take (k := 13) (o := ⟨some 48, _, _, _, _, _⟩) (v := ?_) rfl (by kernel_rfl) (by kernel_rfl) (by kernel_rfl) (by kernel_rfl) (fun _ _ _ h => h) (Or.inl ⟨by rfl, ?_⟩) (by assumption) ?_
      rotate_left
      · (intro w hSw; (try dsimp only at hSw); go_simp; (try with_reducible rfl))
      (try simp only [Act.put, List.setIfInBounds_toArray, List.set_cons_zero, List.set_cons_succ])
      refine wpE_take (k := 14) (o := ⟨some 49, _, _, _, _, _⟩) (v := ?_) rfl (by kernel_rfl) (by kernel_rfl) (by kernel_rfl) (by kernel_rfl) (fun _ _ _ h => h) (Or.inl ⟨by rfl, ?_⟩) (by assumption) ?_
      rotate_left
      · (intro w hSw; (try dsimp only at hSw); go_simp; (try with_reducible rfl))
      (try simp only [Act.put, List.setIfInBounds_toArray, List.set_cons_zero, List.set_cons_succ])
      refine wpE_take (k := 15) (o := ⟨some 50, _, _, _, _, _⟩) (v := ?_) rfl (by kernel_rfl) (by kernel_rfl) (by kernel_rfl) (by kernel_rfl) (fun _ _ _ h => h) (Or.inl ⟨by rfl, ?_⟩) (by assumption) ?_
      rotate_left
      · (intro w hSw; (try dsimp only at hSw); go_simp; (try with_reducible rfl))
      (try simp only [Act.put, List.setIfInBounds_toArray, List.set_cons_zero, List.set_cons_succ])
      refine wpE_one (k := 10) (o := ⟨some 45, _, _, _, _, _⟩) rfl (by kernel_rfl) (fun K hK => ?_)
      (refine step_call (P := Tryz.prog) w5.drew (by rfl) 15 [.tmp 39, .const (.int .i64 0), .tmp 44] _ (by rfl) [.int .i64 wat, .int .i64 0, .int .i64 ((nb : Int) - 1)] (by rfl) (fun _ _ => rfl) (HWI.out w5.drew) ?_; rintro e wc ⟨rfl, rfl⟩; refine ⟨_, rfl, ?_⟩)
      refine hK.out _ _ (⟨c4, s1, s2, hcj⟩) (fun hS => ?_)
      clear hK K
      try simp only [Act.put, List.setIfInBounds_toArray, List.set_cons_zero, List.set_cons_succ]
      refine wpE_take (k := 11) (o := ⟨some 46, _, _, _, _, _⟩) (v := ?_) rfl (by kernel_rfl) (by kernel_rfl) (by kernel_rfl) (by kernel_rfl) (fun _ _ _ h => h) (Or.inl ⟨by rfl, ?_⟩) (by assumption) ?_
      rotate_left
      · (intro w hSw; (try dsimp only at hSw); go_simp; (try with_reducible rfl))
      (try simp only [Act.put, List.setIfInBounds_toArray, List.set_cons_zero, List.set_cons_succ])
      refine wpE_take (k := 12) (o := ⟨some 47, _, _, _, _, _⟩) (v := ?_) rfl (by kernel_rfl) (by kernel_rfl) (by kernel_rfl) (by kernel_rfl) (fun _ _ _ h => h) (Or.inl ⟨by rfl, ?_⟩) (by assumption) ?_
      rotate_left
      · (intro w hSw; (try dsimp only at hSw); go_simp; (try with_reducible rfl))
      (try simp only [Act.put, List.setIfInBounds_toArray, List.set_cons_zero, List.set_cons_succ])
      refine wpE_take (k := 16) (o := ⟨some 51, _, _, _, _, _⟩) (v := ?_) rfl (by kernel_rfl) (by kernel_rfl) (by kernel_rfl) (by kernel_rfl) (fun _ _ _ h => h) (Or.inl ⟨by rfl, ?_⟩) (by assumption) ?_
      rotate_left
      · (intro w hSw; (try dsimp only at hSw); go_simp; (try with_reducible rfl))
      (try simp only [Act.put, List.setIfInBounds_toArray, List.set_cons_zero, List.set_cons_succ])
      refine wpE_take (k := 17) (o := ⟨some 52, _, _, _, _, _⟩) (v := ?_) rfl (by kernel_rfl) (by kernel_rfl) (by kernel_rfl) (by kernel_rfl) (fun _ _ _ h => h) (Or.inl ⟨by rfl, ?_⟩) (by assumption) ?_
      rotate_left
      · (intro w hSw; (try dsimp only at hSw); go_simp; (try with_reducible rfl))
      (try simp only [Act.put, List.setIfInBounds_toArray, List.set_cons_zero, List.set_cons_succ])
      refine wpE_last (k := 18) (o := ⟨none, _, _, _, _, _⟩) rfl (by kernel_rfl) (by kernel_rfl) rfl (fun K hK => ?_)
      go_simp
      refine hK.out _ _ ?_
      clear hK K
      go_wp2_with fail
      refine bodyPost_ret (v := .agg #[.int .i64 c.k, .int .i64 c.s, .int .i64 c.n, .int .i64 c.m, .slice (some ⟨g, off, none⟩) nb qc, .slice D'.a c.data.length D'.c, .slice E'.a c.ends.length E'.c, .slice X'.a c.words.length X'.c]) (by simp [results, Tryz.results48, go_sem, z0, z1, z2, z3, z4, z5, z6, z7]) rfl ?_
      have hh := sx_end HEND.out.2.bel HEND.out.2.own
      dsimp only at hh
      rw [List.length_set, HNB.out] at hh
      rw [HEND.out.1]
      exact colbp_drew hh
  · have hlb := hsz.2.1
    generalize hnb : c.data.length = nb at c5 hlb ⊢
    have HNB := Aside.mk hnb
    clear hnb
    rcases Nat.eq_zero_or_pos nb with rfl | hpos
    · go_wp2_with fail
      refine bodyPost_ret (v := .agg #[.int .i64 c.k, .int .i64 c.s, .int .i64 c.n, .int .i64 c.m, .slice B'.a c.bits.length B'.c, .slice D'.a 0 D'.c, .slice E'.a c.ends.length E'.c, .slice X'.a c.words.length X'.c]) (by simp [results, Tryz.results48, go_sem, z0, z1, z2, z3, z4, z5, z6, z7]) rfl ?_
      have hh := sx_end (c' := c) HSX.out.bel HSX.out.own
      rw [HNB.out] at hh
      exact HRET.out c (by rw [← HSP.out]; unfold spoilC; rw [EK.out]; show (⟨c.k, c.s, c.n, c.m, c.bits, setL c.data wat _, c.ends, c.words⟩ : Col) = c; rw [setL, if_pos HNB.out]) _ _ hh
    · obtain ⟨g, off, cap, es, hgb, hgl, hnc, hcm, hcells, hfz⟩ := HSX.out.own.data.some_ (by rw [HNB.out]; exact hpos)
      obtain ⟨j, hj⟩ : ∃ j : Nat, withinI wat 0 ((c.data.length : Int) - 1) = (j : Int) := ⟨(withinI wat 0 ((c.data.length : Int) - 1)).toNat, by rw [HNB.out]; have := withinI_le wat (m := (nb : Int)) (by omega); omega⟩
      have hjl : j < nb := by rw [HNB.out] at hj; have := withinI_le wat (m := (nb : Int)) (by omega); omega
      have hjl2 : j < c.data.length := by rw [HNB.out]; exact hjl
      have hcj := hcells j (.int .u8 (c.data.getD j 0)) (by rw [List.getElem?_map, List.getElem?_eq_getElem hjl2, List.getD_eq_getElem?_getD, List.getElem?_eq_getElem hjl2]; rfl)
      have hfj := hfz (off + j)
      have HEND := Aside.mk (sx_data HSX.out es hj hjl2 (by rw [HNB.out]; omega) EK.out)
      rw [HSP.out] at HEND
      have HWI := Aside.mk (fun w' => within_any wat 0 ((nb : Int) - 1) (by decide) (by omega) (by omega) w')
      rw [HNB.out] at hj hnc es
      rw [hj] at HWI
      have hy := getD_byte hc.data j
      simp only [Value.slice.injEq, true_and] at es
      have hwr := HSX.out.bel.size
      have hgn : g ≠ w.heap.size + 1 + 1 := by omega
      have hgn0 : g ≠ w.heap.size := by omega
      rw [es.1, es.2] at c5
      rcases D' with ⟨qa, qc⟩
      dsimp only at es
      obtain ⟨rfl, rfl⟩ := es
      clear hcells hfz hj hjl2 HRET HSP EK
      generalize c.data.getD j 0 = y at *
      have hxr := xorI_eq hy.1 hy.2 wby
      have hlm : IntKind.i64.wrap ((nb : Int) - 1) = (nb : Int) - 1 := (IntWalk.i64_left _).trans (IntWalk.wrap64_in _ (by omega))
      go_upto_region 12 with fail
      refine wp_regionE (fun w' => w'.cell? ⟨w.heap.size, 5, none⟩ = some (.slice (some ⟨g, off, none⟩) nb qc) ∧ w'.cell? ⟨w.heap.size + 1, 1, none⟩ = some (.int .i64 wat) ∧ w'.cell? ⟨w.heap.size + 1, 2, none⟩ = some (.int .i64 wby) ∧ w'.cell? ⟨g, off + j, none⟩ = some (.int .u8 y)) 16 17 (by kernel_rfl) rfl ?_
      have hS : (fun w' => w'.cell? ⟨w.heap.size, 5, none⟩ = some (.slice (some ⟨g, off, none⟩) nb qc) ∧ w'.cell? ⟨w.heap.size + 1, 1, none⟩ = some (.int .i64 wat) ∧ w'.cell? ⟨w.heap.size + 1, 2, none⟩ = some (.int .i64 wby) ∧ w'.cell? ⟨g, off + j, none⟩ = some (.int .u8 y)) w5.drew := ⟨c5, s1, s2, hcj⟩
      refine wpE_take (k := 0) (o := ⟨some 59, _, _, _, _, _⟩) (v := ?_) rfl (by kernel_rfl) (by kernel_rfl) (by kernel_rfl) (by kernel_rfl) (fun _ _ _ h => h) (Or.inl ⟨by rfl, ?_⟩) (by assumption) ?_
      rotate_left
      · (intro w hSw; (try dsimp only at hSw); go_simp; (try with_reducible rfl))
      (try simp only [Act.put, List.setIfInBounds_toArray, List.set_cons_zero, List.set_cons_succ])
      refine wpE_take (k := 1) (o := ⟨some 60, _, _, _, _, _⟩) (v := ?_) rfl (by kernel_rfl) (by kernel_rfl) (by kernel_rfl) (by kernel_rfl) (fun _ _ _ h => h) (Or.inl ⟨by rfl, ?_⟩) (by assumption) ?_
      rotate_left
      · (intro w hSw; (try dsimp only at hSw); go_simp; (try with_reducible rfl))
      (try simp only [Act.put, List.setIfInBounds_toArray, List.set_cons_zero, List.set_cons_succ])
      refine wpE_take (k := 2) (o := ⟨some 61, _, _, _, _, _⟩) (v := ?_) rfl (by kernel_rfl) (by kernel_rfl) (by kernel_rfl) (by kernel_rfl) (fun _ _ _ h => h) (Or.inl ⟨by rfl, ?_⟩) (by assumption) ?_
      rotate_left
      · (intro w hSw; (try dsimp only at hSw); go_simp; (try with_reducible rfl))
      (try simp only [Act.put, List.setIfInBounds_toArray, List.set_cons_zero, List.set_cons_succ])
      refine wpE_take (k := 3) (o := ⟨some 62, _, _, _, _, _⟩) (v := ?_) rfl (by kernel_rfl) (by kernel_rfl) (by kernel_rfl) (by kernel_rfl) (fun _ _ _ h => h) (Or.inl ⟨by rfl, ?_⟩) (by assumption) ?_
      rotate_left
      · (intro w hSw; (try dsimp only at hSw); go_simp; (try with_reducible rfl))
      (try simp only [Act.put, List.setIfInBounds_toArray, List.set_cons_zero, List.set_cons_succ])
      refine wpE_take (k := 4) (o := ⟨some 63, _, _, _, _, _⟩) (v := ?_) rfl (by kernel_rfl) (by kernel_rfl) (by kernel_rfl) (by kernel_rfl) (fun _ _ _ h => h) (Or.inl ⟨by rfl, ?_⟩) (by assumption) ?_
      rotate_left
      · (intro w hSw; (try dsimp only at hSw); go_simp; (try with_reducible rfl))
      (try simp only [Act.put, List.setIfInBounds_toArray, List.set_cons_zero, List.set_cons_succ])
      refine wpE_take (k := 5) (o := ⟨some 64, _, _, _, _, _⟩) (v := ?_) rfl (by kernel_rfl) (by kernel_rfl) (by kernel_rfl) (by kernel_rfl) (fun _ _ _ h => h) (Or.inl ⟨by rfl, ?_⟩) (by assumption) ?_
      rotate_left
      · (intro w hSw; (try dsimp only at hSw); go_simp; (try with_reducible rfl))
      (try simp only [Act.put, List.setIfInBounds_toArray, List.set_cons_zero, List.set_cons_succ])
      refine wpE_take (k := 6) (o := ⟨some 65, _, _, _, _, _⟩) (v := ?_) rfl (by kernel_rfl) (by kernel_rfl) (by kernel_rfl) (by kernel_rfl) (fun _ _ _ h => h) (Or.inl ⟨by rfl, ?_⟩) (by assumption) ?_
      rotate_left
      · (intro w hSw; (try dsimp only at hSw); go_simp; (try with_reducible rfl))
      (try simp only [Act.put, List.setIfInBounds_toArray, List.set_cons_zero, List.set_cons_succ])
      refine wpE_take (k := 7) (o := ⟨some 66, _, _, _, _, _⟩) (v := ?_) rfl (by kernel_rfl) (by kernel_rfl) (by kernel_rfl) (by kernel_rfl) (fun _ _ _ h => h) (Or.inl ⟨by rfl, ?_⟩) (by assumption) ?_
      rotate_left
      · (intro w hSw; (try dsimp only at hSw); go_simp; (try with_reducible rfl))
      (try simp only [Act.put, List.setIfInBounds_toArray, List.set_cons_zero, List.set_cons_succ])
      refine wpE_take (k := 11) (o := ⟨some 70, _, _, _, _, _⟩) (v := ?_) rfl (by kernel_rfl) (by kernel_rfl) (by kernel_rfl) (by kernel_rfl) (fun _ _ _ h => h) (Or.inl ⟨by rfl, ?_⟩) (by assumption) ?_
      rotate_left
      · (intro w hSw; (try dsimp only at hSw); go_simp; (try with_reducible rfl))
      (try simp only [Act.put, List.setIfInBounds_toArray, List.set_cons_zero, List.set_cons_succ])
      refine wpE_take (k := 12) (o := ⟨some 71, _, _, _, _, _⟩) (v := ?_) rfl (by kernel_rfl) (by kernel_rfl) (by kernel_rfl) (by kernel_rfl) (fun _ _ _ h => h) (Or.inl ⟨by rfl, ?_⟩) (by assumption) ?_
      rotate_left
      · (intro w hSw; (try dsimp only at hSw); go_simp; (try with_reducible rfl))
      (try simp only [Act.put, List.setIfInBounds_toArray, List.set_cons_zero, List.set_cons_succ])
      refine wpE_take (k := 13) (o := ⟨some 72, _, _, _, _, _⟩) (v := ?_) rfl (by kernel_rfl) (by kernel_rfl) (by kernel_rfl) (by kernel_rfl) (fun _ _ _ h => h) (Or.inl ⟨by rfl, ?_⟩) (by assumption) ?_
      rotate_left
      · (intro w hSw; (try dsimp only at hSw); go_simp; (try with_reducible rfl))
      (try simp only [Act.put, List.setIfInBounds_toArray, List.set_cons_zero, List.set_cons_succ])
      refine wpE_one (k := 8) (o := ⟨some 67, _, _, _, _, _⟩) rfl (by kernel_rfl) (fun K hK => ?_)
      (refine step_call (P := Tryz.prog) w5.drew (by rfl) 15 [.tmp 62, .const (.int .i64 0), .tmp 66] _ (by rfl) [.int .i64 wat, .int .i64 0, .int .i64 ((nb : Int) - 1)] (by rfl) (fun _ _ => rfl) (HWI.out w5.drew) ?_; rintro e wc ⟨rfl, rfl⟩; refine ⟨_, rfl, ?_⟩)
      refine hK.out _ _ (⟨c5, s1, s2, hcj⟩) (fun hS => ?_)
      clear hK K
      try simp only [Act.put, List.setIfInBounds_toArray, List.set_cons_zero, List.set_cons_succ]
      refine wpE_take (k := 9) (o := ⟨some 68, _, _, _, _, _⟩) (v := ?_) rfl (by kernel_rfl) (by kernel_rfl) (by kernel_rfl) (by kernel_rfl) (fun _ _ _ h => h) (Or.inl ⟨by rfl, ?_⟩) (by assumption) ?_
      rotate_left
      · (intro w hSw; (try dsimp only at hSw); go_simp; (try with_reducible rfl))
      (try simp only [Act.put, List.setIfInBounds_toArray, List.set_cons_zero, List.set_cons_succ])
      refine wpE_take (k := 10) (o := ⟨some 69, _, _, _, _, _⟩) (v := ?_) rfl (by kernel_rfl) (by kernel_rfl) (by kernel_rfl) (by kernel_rfl) (fun _ _ _ h => h) (Or.inl ⟨by rfl, ?_⟩) (by assumption) ?_
      rotate_left
      · (intro w hSw; (try dsimp only at hSw); go_simp; (try with_reducible rfl))
      (try simp only [Act.put, List.setIfInBounds_toArray, List.set_cons_zero, List.set_cons_succ])
      refine wpE_take (k := 14) (o := ⟨some 73, _, _, _, _, _⟩) (v := ?_) rfl (by kernel_rfl) (by kernel_rfl) (by kernel_rfl) (by kernel_rfl) (fun _ _ _ h => h) (Or.inl ⟨by rfl, ?_⟩) (by assumption) ?_
      rotate_left
      · (intro w hSw; (try dsimp only at hSw); go_simp; (try with_reducible rfl))
      (try simp only [Act.put, List.setIfInBounds_toArray, List.set_cons_zero, List.set_cons_succ])
      refine wpE_take (k := 15) (o := ⟨some 74, _, _, _, _, _⟩) (v := ?_) rfl (by kernel_rfl) (by kernel_rfl) (by kernel_rfl) (by kernel_rfl) (fun _ _ _ h => h) (Or.inl ⟨by rfl, ?_⟩) (by assumption) ?_
      rotate_left
      · (intro w hSw; (try dsimp only at hSw); go_simp; (try with_reducible rfl))
      (try simp only [Act.put, List.setIfInBounds_toArray, List.set_cons_zero, List.set_cons_succ])
      refine wpE_last (k := 16) (o := ⟨none, _, _, _, _, _⟩) rfl (by kernel_rfl) (by kernel_rfl) rfl (fun K hK => ?_)
      go_simp
      refine hK.out _ _ ?_
      clear hK K
      go_wp2_with fail
      refine bodyPost_ret (v := .agg #[.int .i64 c.k, .int .i64 c.s, .int .i64 c.n, .int .i64 c.m, .slice B'.a c.bits.length B'.c, .slice (some ⟨g, off, none⟩) nb qc, .slice E'.a c.ends.length E'.c, .slice X'.a c.words.length X'.c]) (by simp [results, Tryz.results48, go_sem, z0, z1, z2, z3, z4, z5, z6, z7]) rfl ?_
      have hh := sx_end HEND.out.2.bel HEND.out.2.own
      dsimp only at hh
      rw [List.length_set, HNB.out] at hh
      rw [HEND.out.1]
      exact colbp_drew hh
  · have hlb := hc.ld
    have hbel := HSX.out.bel.size
    have hlz := lt_of_blk HSX.out.zc
    go_wp2_with (at_builtin; refine wpList_app2 _ rfl _ _ 43 43 rfl (w.heap.size + 3) 5 (.int .u8 0) 1 1 Tryz.underlying43 byteinfoR rfl _ c.data.length (c.data.map (.int .u8)) rfl (HSX.out.own.data.alloc _) _ 1 [.int .u8 (wby % 256)] rfl (src_one Tryz.underlying43 _ _ _ rfl (by simp)) (by unfold maxLen; omega) (by omega) (by simp; omega) ?_)
    intro v6 w6 hA
    obtain ⟨da, dc, rfl, hb1, hb2, HE⟩ := sx_app5 HSX.out hA
    have HEE := Aside.mk HE
    clear c0 c1 c2 c3 c4 c5 c6 c7 z0 z1 z2 z3 z4 z5 z6 z7 f0 g0 s0 s1 s2 HE hA hlz
    obtain ⟨c0, c1, c2, c3, c4, c5, c6, c7⟩ := box8 hb1
    obtain ⟨z0, z1, z2, z3, z4, z5, z6, z7⟩ := box8 hb2
    have f0 := fun k => frozen_blk (k := k) hb1
    have g0 := fun k => frozen_blk (k := k) hb2
    have hl1 := lt_of_blk hb1
    have hl2 := lt_of_blk hb2
    clear hb1 hb2
    go_wp2_with fail
    refine bodyPost_ret (v := .agg #[.int .i64 c.k, .int .i64 c.s, .int .i64 c.n, .int .i64 c.m, .slice B'.a c.bits.length B'.c, .slice da (c.data.length + 1) dc, .slice E'.a c.ends.length E'.c, .slice X'.a c.words.length X'.c]) (by simp [results, Tryz.results48, go_sem, z0, z1, z2, z3, z4, z5, z6, z7]) rfl ?_
    have hh := sx_end (HEE.out (.slice da (c.data.length + 1) dc)).bel (HEE.out (.slice da (c.data.length + 1) dc)).own
    dsimp only at hh
    rw [List.length_append, List.length_singleton] at hh
    exact HRET.out _ (by rw [← HSP.out]; unfold spoilC; rw [EK.out]; rfl) _ _ hh
  · have hlb := hsz.2.2
    generalize hnb : c.ends.length = nb at c6 hlb ⊢
    have HNB := Aside.mk hnb
    clear hnb
    rcases Nat.eq_zero_or_pos nb with rfl | hpos
    · go_wp2_with fail
      refine bodyPost_ret (v := .agg #[.int .i64 c.k, .int .i64 c.s, .int .i64 c.n, .int .i64 c.m, .slice B'.a c.bits.length B'.c, .slice D'.a c.data.length D'.c, .slice E'.a 0 E'.c, .slice X'.a c.words.length X'.c]) (by simp [results, Tryz.results48, go_sem, z0, z1, z2, z3, z4, z5, z6, z7]) rfl ?_
      have hh := sx_end (c' := c) HSX.out.bel HSX.out.own
      rw [HNB.out] at hh
      exact HRET.out c (by rw [← HSP.out]; unfold spoilC; rw [EK.out]; show (⟨c.k, c.s, c.n, c.m, c.bits, c.data, setL c.ends wat _, c.words⟩ : Col) = c; rw [setL, if_pos HNB.out]) _ _ hh
    · obtain ⟨g, off, cap, es, hgb, hgl, hnc, hcm, hcells, hfz⟩ := HSX.out.own.ends.some_ (by rw [HNB.out]; exact hpos)
      obtain ⟨j, hj⟩ : ∃ j : Nat, withinI wat 0 ((c.ends.length : Int) - 1) = (j : Int) := ⟨(withinI wat 0 ((c.ends.length : Int) - 1)).toNat, by rw [HNB.out]; have := withinI_le wat (m := (nb : Int)) (by omega); omega⟩
      have hjl : j < nb := by rw [HNB.out] at hj; have := withinI_le wat (m := (nb : Int)) (by omega); omega
      have hjl2 : j < c.ends.length := by rw [HNB.out]; exact hjl
      have hcj := hcells j (.int .i64 (c.ends.getD j 0)) (by rw [List.getElem?_map, List.getElem?_eq_getElem hjl2, List.getD_eq_getElem?_getD, List.getElem?_eq_getElem hjl2]; rfl)
      have hfj := hfz (off + j)
      have HEND := Aside.mk (sx_ends HSX.out es hj hjl2 (by rw [HNB.out]; omega) EK.out)
      rw [HSP.out] at HEND
      have HWI := Aside.mk (fun w' => within_any wat 0 ((nb : Int) - 1) (by decide) (by omega) (by omega) w')
      rw [HNB.out] at hj hnc es
      rw [hj] at HWI
      have hy : IsI64 (c.ends.getD j 0) := by rw [List.getD_eq_getElem?_getD, List.getElem?_eq_getElem hjl2]; exact hc.ends _ (List.getElem_mem hjl2)
      unfold IsI64 at hy
      simp only [Value.slice.injEq, true_and] at es
      have hwr := HSX.out.bel.size
      have hgn : g ≠ w.heap.size + 1 + 1 := by omega
      have hgn0 : g ≠ w.heap.size := by omega
      rw [es.1, es.2] at c6
      rcases E' with ⟨qa, qc⟩
      dsimp only at es
      obtain ⟨rfl, rfl⟩ := es
      clear hcells hfz hj hjl2 HRET HSP EK
      generalize c.ends.getD j 0 = y at *
      have hxr : IntKind.i64.wrap (y + wby) = wrap64 (y + wby) := IntWalk.i64_left _
      have hlm : IntKind.i64.wrap ((nb : Int) - 1) = (nb : Int) - 1 := (IntWalk.i64_left _).trans (IntWalk.wrap64_in _ (by omega))
      go_upto_region 17 with fail
      refine wp_regionE (fun w' => w'.cell? ⟨w.heap.size, 6, none⟩ = some (.slice (some ⟨g, off, none⟩) nb qc) ∧ w'.cell? ⟨w.heap.size + 1, 1, none⟩ = some (.int .i64 wat) ∧ w'.cell? ⟨w.heap.size + 1, 2, none⟩ = some (.int .i64 wby) ∧ w'.cell? ⟨g, off + j, none⟩ = some (.int .i64 y)) 15 16 (by kernel_rfl) rfl ?_
      have hS : (fun w' => w'.cell? ⟨w.heap.size, 6, none⟩ = some (.slice (some ⟨g, off, none⟩) nb qc) ∧ w'.cell? ⟨w.heap.size + 1, 1, none⟩ = some (.int .i64 wat) ∧ w'.cell? ⟨w.heap.size + 1, 2, none⟩ = some (.int .i64 wby) ∧ w'.cell? ⟨g, off + j, none⟩ = some (.int .i64 y)) w5.drew := ⟨c6, s1, s2, hcj⟩
      refine wpE_take (k := 0) (o := ⟨some 91, _, _, _, _, _⟩) (v := ?_) rfl (by kernel_rfl) (by kernel_rfl) (by kernel_rfl) (by kernel_rfl) (fun _ _ _ h => h) (Or.inl ⟨by rfl, ?_⟩) (by assumption) ?_
      rotate_left
      · (intro w hSw; (try dsimp only at hSw); go_simp; (try with_reducible rfl))
      (try simp only [Act.put, List.setIfInBounds_toArray, List.set_cons_zero, List.set_cons_succ])
      refine wpE_take (k := 1) (o := ⟨some 92, _, _, _, _, _⟩) (v := ?_) rfl (by kernel_rfl) (by kernel_rfl) (by kernel_rfl) (by kernel_rfl) (fun _ _ _ h => h) (Or.inl ⟨by rfl, ?_⟩) (by assumption) ?_
      rotate_left
      · (intro w hSw; (try dsimp only at hSw); go_simp; (try with_reducible rfl))
      (try simp only [Act.put, List.setIfInBounds_toArray, List.set_cons_zero, List.set_cons_succ])
      refine wpE_take (k := 2) (o := ⟨some 93, _, _, _, _, _⟩) (v := ?_) rfl (by kernel_rfl) (by kernel_rfl) (by kernel_rfl) (by kernel_rfl) (fun _ _ _ h => h) (Or.inl ⟨by rfl, ?_⟩) (by assumption) ?_
      rotate_left
      · (intro w hSw; (try dsimp only at hSw); go_simp; (try with_reducible rfl))
      (try simp only [Act.put, List.setIfInBounds_toArray, List.set_cons_zero, List.set_cons_succ])
      refine wpE_take (k := 3) (o := ⟨some 94, _, _, _, _, _⟩) (v := ?_) rfl (by kernel_rfl) (by kernel_rfl) (by kernel_rfl) (by kernel_rfl) (fun _ _ _ h => h) (Or.inl ⟨by rfl, ?_⟩) (by assumption) ?_
      rotate_left
      · (intro w hSw; (try dsimp only at hSw); go_simp; (try with_reducible rfl))
      (try simp only [Act.put, List.setIfInBounds_toArray, List.set_cons_zero, List.set_cons_succ])
      refine wpE_take (k := 4) (o := ⟨some 95, _, _, _, _, _⟩) (v := ?_) rfl (by kernel_rfl) (by kernel_rfl) (by kernel_rfl) (by kernel_rfl) (fun _ _ _ h => h) (Or.inl ⟨by rfl, ?_⟩) (by assumption) ?_
      rotate_left
      · (intro w hSw; (try dsimp only at hSw); go_simp; (try with_reducible rfl))
      (try simp only [Act.put, List.setIfInBounds_toArray, List.set_cons_zero, List.set_cons_succ])
      refine wpE_take (k := 5) (o := ⟨some 96, _, _, _, _, _⟩) (v := ?_) rfl (by kernel_rfl) (by kernel_rfl) (by kernel_rfl) (by kernel_rfl) (fun _ _ _ h => h) (Or.inl ⟨by rfl, ?_⟩) (by assumption) ?_
      rotate_left
      · (intro w hSw; (try dsimp only at hSw); go_simp; (try with_reducible rfl))
      (try simp only [Act.put, List.setIfInBounds_toArray, List.set_cons_zero, List.set_cons_succ])
      refine wpE_take (k := 6) (o := ⟨some 97, _, _, _, _, _⟩) (v := ?_) rfl (by kernel_rfl) (by kernel_rfl) (by kernel_rfl) (by kernel_rfl) (fun _ _ _ h => h) (Or.inl ⟨by rfl, ?_⟩) (by assumption) ?_
      rotate_left
      · (intro w hSw; (try dsimp only at hSw); go_simp; (try with_reducible rfl))
      (try simp only [Act.put, List.setIfInBounds_toArray, List.set_cons_zero, List.set_cons_succ])
      refine wpE_take (k := 7) (o := ⟨some 98, _, _, _, _, _⟩) (v := ?_) rfl (by kernel_rfl) (by kernel_rfl) (by kernel_rfl) (by kernel_rfl) (fun _ _ _ h => h) (Or.inl ⟨by rfl, ?_⟩) (by assumption) ?_
      rotate_left
      · (intro w hSw; (try dsimp only at hSw); go_simp; (try with_reducible rfl))
      (try simp only [Act.put, List.setIfInBounds_toArray, List.set_cons_zero, List.set_cons_succ])
      refine wpE_take (k := 11) (o := ⟨some 102, _, _, _, _, _⟩) (v := ?_) rfl (by kernel_rfl) (by kernel_rfl) (by kernel_rfl) (by kernel_rfl) (fun _ _ _ h => h) (Or.inl ⟨by rfl, ?_⟩) (by assumption) ?_
      rotate_left
      · (intro w hSw; (try dsimp only at hSw); go_simp; (try with_reducible rfl))
      (try simp only [Act.put, List.setIfInBounds_toArray, List.set_cons_zero, List.set_cons_succ])
      refine wpE_take (k := 12) (o := ⟨some 103, _, _, _, _, _⟩) (v := ?_) rfl (by kernel_rfl) (by kernel_rfl) (by kernel_rfl) (by kernel_rfl) (fun _ _ _ h => h) (Or.inl ⟨by rfl, ?_⟩) (by assumption) ?_
      rotate_left
      · (intro w hSw; (try dsimp only at hSw); go_simp; (try with_reducible rfl))
      (try simp only [Act.put, List.setIfInBounds_toArray, List.set_cons_zero, List.set_cons_succ])
      refine wpE_one (k := 8) (o := ⟨some 99, _, _, _, _, _⟩) rfl (by kernel_rfl) (fun K hK => ?_)
      (refine step_call (P := Tryz.prog) w5.drew (by rfl) 15 [.tmp 94, .const (.int .i64 0), .tmp 98] _ (by rfl) [.int .i64 wat, .int .i64 0, .int .i64 ((nb : Int) - 1)] (by rfl) (fun _ _ => rfl) (HWI.out w5.drew) ?_; rintro e wc ⟨rfl, rfl⟩; refine ⟨_, rfl, ?_⟩)
      refine hK.out _ _ (⟨c6, s1, s2, hcj⟩) (fun hS => ?_)
      clear hK K
      try simp only [Act.put, List.setIfInBounds_toArray, List.set_cons_zero, List.set_cons_succ]
      refine wpE_take (k := 9) (o := ⟨some 100, _, _, _, _, _⟩) (v := ?_) rfl (by kernel_rfl) (by kernel_rfl) (by kernel_rfl) (by kernel_rfl) (fun _ _ _ h => h) (Or.inl ⟨by rfl, ?_⟩) (by assumption) ?_
      rotate_left
      · (intro w hSw; (try dsimp only at hSw); go_simp; (try with_reducible rfl))
      (try simp only [Act.put, List.setIfInBounds_toArray, List.set_cons_zero, List.set_cons_succ])
      refine wpE_take (k := 10) (o := ⟨some 101, _, _, _, _, _⟩) (v := ?_) rfl (by kernel_rfl) (by kernel_rfl) (by kernel_rfl) (by kernel_rfl) (fun _ _ _ h => h) (Or.inl ⟨by rfl, ?_⟩) (by assumption) ?_
      rotate_left
      · (intro w hSw; (try dsimp only at hSw); go_simp; (try with_reducible rfl))
      (try simp only [Act.put, List.setIfInBounds_toArray, List.set_cons_zero, List.set_cons_succ])
      refine wpE_take (k := 13) (o := ⟨some 104, _, _, _, _, _⟩) (v := ?_) rfl (by kernel_rfl) (by kernel_rfl) (by kernel_rfl) (by kernel_rfl) (fun _ _ _ h => h) (Or.inl ⟨by rfl, ?_⟩) (by assumption) ?_
      rotate_left
      · (intro w hSw; (try dsimp only at hSw); go_simp; (try with_reducible rfl))
      (try simp only [Act.put, List.setIfInBounds_toArray, List.set_cons_zero, List.set_cons_succ])
      refine wpE_take (k := 14) (o := ⟨some 105, _, _, _, _, _⟩) (v := ?_) rfl (by kernel_rfl) (by kernel_rfl) (by kernel_rfl) (by kernel_rfl) (fun _ _ _ h => h) (Or.inl ⟨by rfl, ?_⟩) (by assumption) ?_
      rotate_left
      · (intro w hSw; (try dsimp only at hSw); go_simp; (try with_reducible rfl))
      (try simp only [Act.put, List.setIfInBounds_toArray, List.set_cons_zero, List.set_cons_succ])
      refine wpE_last (k := 15) (o := ⟨none, _, _, _, _, _⟩) rfl (by kernel_rfl) (by kernel_rfl) rfl (fun K hK => ?_)
      go_simp
      refine hK.out _ _ ?_
      clear hK K
      go_wp2_with fail
      refine bodyPost_ret (v := .agg #[.int .i64 c.k, .int .i64 c.s, .int .i64 c.n, .int .i64 c.m, .slice B'.a c.bits.length B'.c, .slice D'.a c.data.length D'.c, .slice (some ⟨g, off, none⟩) nb qc, .slice X'.a c.words.length X'.c]) (by simp [results, Tryz.results48, go_sem, z0, z1, z2, z3, z4, z5, z6, z7]) rfl ?_
      have hh := sx_end HEND.out.2.bel HEND.out.2.own
      dsimp only at hh
      rw [List.length_set, HNB.out] at hh
      rw [HEND.out.1]
      exact colbp_drew hh
  · have hlb := hc.lw
    have hbel := HSX.out.bel.size
    have hlz := lt_of_blk HSX.out.zc
    go_wp2_with (at_builtin; refine wpList_app2 _ rfl _ _ 37 37 rfl (w.heap.size + 3) 43 (.slice none 0 0) 1 24 Tryz.underlying37 bytesinfo rfl _ c.words.length vals' rfl ((HSX.out.own.words.alloc _).alloc _) _ 1 [.slice (some ⟨w5.heap.size, 0, none⟩) 1 1] rfl (src_one Tryz.underlying37 _ _ _ rfl (by simp)) (by unfold maxLen; omega) (by omega) (by simp; omega) ?_)
    intro v6 w6 hA
    obtain ⟨da, dc, rfl, hb1, hb2, HE⟩ := sx_app7 HSX.out hA
    have HEE := Aside.mk HE
    clear c0 c1 c2 c3 c4 c5 c6 c7 z0 z1 z2 z3 z4 z5 z6 z7 f0 g0 s0 s1 s2 HE hA hlz
    obtain ⟨c0, c1, c2, c3, c4, c5, c6, c7⟩ := box8 hb1
    obtain ⟨z0, z1, z2, z3, z4, z5, z6, z7⟩ := box8 hb2
    have f0 := fun k => frozen_blk (k := k) hb1
    have g0 := fun k => frozen_blk (k := k) hb2
    have hl1 := lt_of_blk hb1
    have hl2 := lt_of_blk hb2
    clear hb1 hb2
    go_wp2_with fail
    refine bodyPost_ret (v := .agg #[.int .i64 c.k, .int .i64 c.s, .int .i64 c.n, .int .i64 c.m, .slice B'.a c.bits.length B'.c, .slice D'.a c.data.length D'.c, .slice E'.a c.ends.length E'.c, .slice da (c.words.length + 1) dc]) (by simp [results, Tryz.results48, go_sem, z0, z1, z2, z3, z4, z5, z6, z7]) rfl ?_
    have hh := sx_end (HEE.out (.slice da (c.words.length + 1) dc)).bel (HEE.out (.slice da (c.words.length + 1) dc)).own
    dsimp only at hh
    rw [List.length_append, List.length_singleton] at hh
    exact HRET.out _ (by rw [← HSP.out]; unfold spoilC; rw [EK.out]; rfl) _ _ hh
  · go_wp2_with fail
    refine bodyPost_ret (v := .agg #[.int .i64 c.k, .int .i64 wby, .int .i64 c.n, .int .i64 c.m, .slice B'.a c.bits.length B'.c, .slice D'.a c.data.length D'.c, .slice E'.a c.ends.length E'.c, .slice X'.a c.words.length X'.c]) (by simp [results, Tryz.results48, go_sem, z0, z1, z2, z3, z4, z5, z6, z7]) rfl ?_
    exact HRET.out ⟨c.k, wby, c.n, c.m, c.bits, c.data, c.ends, c.words⟩ (by rw [← HSP.out]; unfold spoilC; rw [EK.out]; rfl) _ _ (sx_end (c' := ⟨c.k, wby, c.n, c.m, c.bits, c.data, c.ends, c.words⟩) (sx_set HSX.out 1 (.int .i64 (wby))).1 ((sx_set HSX.out 1 (.int .i64 (wby))).2.head (c.k) (wby) (c.n) (c.m)))
  · go_wp2_with fail
    refine bodyPost_ret (v := .agg #[.int .i64 wby, .int .i64 c.s, .int .i64 c.n, .int .i64 c.m, .slice B'.a c.bits.length B'.c, .slice D'.a c.data.length D'.c, .slice E'.a c.ends.length E'.c, .slice X'.a c.words.length X'.c]) (by simp [results, Tryz.results48, go_sem, z0, z1, z2, z3, z4, z5, z6, z7]) rfl ?_
    exact HRET.out ⟨wby, c.s, c.n, c.m, c.bits, c.data, c.ends, c.words⟩ (by rw [← HSP.out]; unfold spoilC; rw [EK.out]; rfl) _ _ (sx_end (c' := ⟨wby, c.s, c.n, c.m, c.bits, c.data, c.ends, c.words⟩) (sx_set HSX.out 0 (.int .i64 (wby))).1 ((sx_set HSX.out 0 (.int .i64 (wby))).2.head (wby) (c.s) (c.n) (c.m)))
end Go.Proofs.YtmhjjhaipcgbiaaGreat
