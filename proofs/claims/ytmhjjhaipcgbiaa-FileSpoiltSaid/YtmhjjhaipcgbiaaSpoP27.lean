/- Texts of this claim, one behind the other: Lay1. -/
import Derived.Test.YtmhjjhaipcgbiaaSpoP2
import Derived.Test.YtmhjjhaipcgbiaaSpoP7
import Derived.BigQuiet
import Derived.Test.YtmhjjhaipcgbiaaSpoP21

namespace Go.Proofs.Ytmhjjhaipcgbiaa
open Go.RowKit
set_option linter.unusedVariables false
set_option linter.unusedSimpArgs false
set_option maxRecDepth 100000
set_option maxHeartbeats 1000000
structure Of16I (l : List Bool) (i : Nat) (w wr : World) (v : Value) : Prop where
  b1 : wr.heap[w.heap.size + 1]? = some (.cells #[.int .i64 (l.length : Int), v] 39 (0, 0))
  b0 : wr.heap[w.heap.size]? = some (.cells #[.int .i64 0, .slice none 0 0] 39 (0, 0))
  own : Own wr w.heap.size 5 1 v (mof (l.take i)).length ((mof (l.take i)).map (.int .u8))
  bel : Below w.heap.size w wr
theorem mof_take (l : List Bool) {i : Nat} (hi : i < l.length) : mof (l.take (i + 1)) = mput (mof (l.take i)) i l[i] := by
  rw [List.take_succ_eq_append_getElem hi, mof_snoc, List.length_take, Nat.min_eq_left (by omega)]
theorem mof_take_len (l : List Bool) {i : Nat} (hi : i ≤ l.length) : (mof (l.take i)).length = (i + 7) / 8 := by rw [mof_len, List.length_take, Nat.min_eq_left hi]
structure Of16M (l : List Bool) (i : Nat) (w wr : World) (v : Value) : Prop where
  b1 : wr.heap[w.heap.size + 1]? = some (.cells #[.int .i64 (l.length : Int), v] 39 (0, 0))
  b0 : wr.heap[w.heap.size]? = some (.cells #[.int .i64 0, .slice none 0 0] 39 (0, 0))
  own : Own wr w.heap.size 5 1 v (i / 8 + 1) ((mrow (mof (l.take i)) i).map (.int .u8))
  bel : Below w.heap.size w wr
theorem of16_same {l : List Bool} {i : Nat} {w wr : World} {v : Value} (h : Of16I l i w wr v) (hi : i < l.length) (h8 : i % 8 ≠ 0) : Of16M l i w wr v := by
  have e : mrow (mof (l.take i)) i = mof (l.take i) := by rw [mrow, if_neg h8]
  refine ⟨h.b1, h.b0, ?_, h.bel⟩
  have := h.own
  rw [mof_take_len l (by omega)] at this
  rw [e, show i / 8 + 1 = (i + 7) / 8 by omega]; exact this
theorem of16_more {l : List Bool} {i : Nat} {w wr w5 : World} {va v5 : Value} {o : Obj} (h : Of16I l i w wr va) (hi : i < l.length) (h8 : i % 8 = 0) (hA : AppP (wr.alloc o) w.heap.size 5 1 va ((i + 7) / 8) ((mof (l.take i)).map (.int .u8)) 1 [.int .u8 0] v5 w5) : Of16M l i w (w5.setCell ⟨w.heap.size + 1, 1, none⟩ v5) v5 := by
  have e : mrow (mof (l.take i)) i = mof (l.take i) ++ [0] := by rw [mrow, if_pos h8]
  have n1 : va.ownBlock ≠ some (w.heap.size + 1) := h.own.blk_ne h.b1 (by decide)
  have n0 : va.ownBlock ≠ some w.heap.size := h.own.blk_ne h.b0 (by decide)
  have K : Kept (fun b => va.ownBlock = some b) wr w5 := (Kept.of_below (below_new wr o)).trans ((Kept.of_grown hA.grown).mono (fun b e _ => e.symm)) (fun _ e _ => e)
  have g1 := (K.block _ (lt_of_blk h.b1) n1).trans h.b1
  have g0 := (K.block _ (lt_of_blk h.b0) n0).trans h.b0
  refine ⟨by simpa using heap_setCell_at (k := 1) g1 v5, by rw [Below.heap_setCell _ _ _ _ (by simp)]; exact g0, ?_, (h.bel.trans (K.to_below h.bel.size (fun b e => (h.own.lt b e).1))).setCell (by simp) _⟩
  have := hA.own.set_other (a := ⟨w.heap.size + 1, 1, none⟩) (hA.own.blk_ne g1 (by decide)) v5
  rw [e, List.map_append, show i / 8 + 1 = (i + 7) / 8 + 1 by omega]
  exact this
theorem of16_no {l : List Bool} {i : Nat} {w wr : World} {v : Value} (h : Of16M l i w wr v) (hi : i < l.length) (hb : l[i] = false) : Of16I l (i + 1) w wr v := by
  refine ⟨h.b1, h.b0, ?_, h.bel⟩
  have e : mof (l.take (i + 1)) = mrow (mof (l.take i)) i := by rw [mof_take l hi, hb]; rfl
  rw [e, mrow_len _ _ (mof_take_len l (by omega))]
  exact h.own
theorem of16_yes {l : List Bool} {i g off cap : Nat} {w wr : World} (h : Of16M l i w wr (.slice (some ⟨g, off, none⟩) (i / 8 + 1) cap)) (hi : i < l.length) (hb : l[i] = true) :
    Of16I l (i + 1) w (wr.setCell ⟨g, off + i / 8, none⟩ (.int .u8 (morb ((mrow (mof (l.take i)) i).getD (i / 8) 0) (i % 8)))) (.slice (some ⟨g, off, none⟩) (i / 8 + 1) cap) := by
  have hg1 : w.heap.size ≤ g := (h.own.lt g rfl).1
  have n1 : g ≠ w.heap.size + 1 := fun e => h.own.blk_ne h.b1 (by decide) (by rw [← e]; rfl)
  have n0 : g ≠ w.heap.size := fun e => h.own.blk_ne h.b0 (by decide) (by rw [← e]; rfl)
  refine ⟨by rw [Below.heap_setCell _ _ _ _ (by simpa using fun e => n1 e.symm)]; exact h.b1, by rw [Below.heap_setCell _ _ _ _ (by simpa using fun e => n0 e.symm)]; exact h.b0, ?_, h.bel.setCell hg1 _⟩
  have e : mof (l.take (i + 1)) = (mrow (mof (l.take i)) i).set (i / 8) (morb ((mrow (mof (l.take i)) i).getD (i / 8) 0) (i % 8)) := by rw [mof_take l hi, hb]; rfl
  rw [e, List.length_set, mrow_len _ _ (mof_take_len l (by omega)), List.map_set]
  exact h.own.stored (i / 8) _
theorem Of16I.drew {l : List Bool} {i : Nat} {w wr : World} {v : Value} (h : Of16I l i w wr v) : Of16I l i w wr.drew v := ⟨h.b1, h.b0, h.own.drewN 1, h.bel.trans (below_drewN _ _ 1)⟩
theorem of16_any (l : List Bool) (v : Value) (w : World) (hl : l.length ≤ 100000000) (h : Rd w 1 v l.length (l.map .bool)) : Calls Try.prog 110 #[v] w (MofP l w) := by
  obtain ⟨a, cap, rfl⟩ := h.form
  have HR := Aside.mk h
  clear h
  generalize hn : l.length = n at *
  have HN := Aside.mk hn
  clear hn
  go_enter Try.func110, Try.ntmps110
  go_wp2
  go_loopw [4] (fun iv wr => ∃ i : Nat, i ≤ n ∧ iv = .int .i64 (i : Int) ∧ Aside (∃ v, Of16I l i w wr v)) (fun iv _ => n - (intOf iv).toNat)
  case atStart =>
    refine ⟨0, by omega, rfl, ⟨.slice none 0 0, ?_, ?_, Own.nil _ _ _ _, ((Below.refl _ _).alloc (Nat.le_refl _) _).alloc (by simp) _⟩⟩
    · have := heap_alloc_new (w.alloc (.cells #[.int .i64 0, .slice none 0 0] 39)) (.cells #[.int .i64 (n : Int), .slice none 0 0] 39)
      rw [HN.out]
      simpa using this
    · rw [Below.heap_alloc _ _ _ (by simp)]; exact heap_alloc_new _ _
  case round =>
    obtain ⟨i, hi, rfl, hp⟩ := hrel
    obtain ⟨v', hI⟩ := hp.out
    clear hp
    obtain ⟨va, vc, rfl⟩ := hI.own.form
    have c10 := cell_blk (k := 0) hI.b1
    have c11 := cell_blk (k := 1) hI.b1
    have f11 := fun k => frozen_blk (k := k) hI.b1
    have hlt1 := lt_of_blk hI.b1
    simp at c10 c11
    have HI := Aside.mk hI
    clear hI
    by_cases hlt : i < n
    · have hil : i < l.length := by have := HN.out; omega
      have hml := mof_take_len l (i := i) (by omega)
      rw [hml] at c11 HI
      obtain ⟨g, off, cp, e, h1, h2, hcc⟩ := HR.out.some_ (by rw [List.length_map]; omega)
      simp only [Value.slice.injEq, true_and] at e
      obtain ⟨rfl, rfl⟩ := e
      have hcb : w.cell? ⟨g, off + i, none⟩ = some (.bool l[i]) := hcc i _ (by rw [List.getElem?_map, List.getElem?_eq_getElem hil]; rfl)
      have hbit := (HI.out.bel.cell (p := ⟨g, off + i, none⟩) (World.block_lt_of_cell? _ _ hcb)).trans hcb
      have HMT := Aside.mk (mof_take l hil)
      have hglt : g < w.heap.size := World.block_lt_of_cell? _ _ hcb
      have HX := Aside.mk (And.intro hml hglt)
      clear hcc hcb hml
      obtain ⟨bit, hbv⟩ : ∃ b, b = l[i] := ⟨_, rfl⟩
      rw [← hbv] at hbit
      have HBV := Aside.mk hbv.symm
      clear hbv
      have hs1 := HI.out.bel.size
      have hor : bits .or .u8 ((mrow (mof (l.take i)) i).getD (i / 8) 0) (2 ^ (i % 8) % 256) = morb ((mrow (mof (l.take i)) i).getD (i / 8) 0) (i % 8) := rfl
      by_cases h8 : i % 8 = 0
      · have e8 : ((i : Int) % 8 == 0) = true := by simp; omega
        have HO := Aside.mk (show Own wr w.heap.size 5 1 (.slice va ((i + 7) / 8) vc) ((i + 7) / 8) ((mof (l.take i)).map (.int .u8)) from by
          have := HI.out.own; rw [HX.out.1] at this; exact this)
        have HE8 := Aside.mk h8
        clear h8
        go_upto_region 7 with (at_builtin; refine wpList_app2 _ rfl _ _ 37 37 rfl w.heap.size 5 (.int .u8 0) 1 1 Try.underlying37 u8info rfl _ ((i + 7) / 8) ((mof (l.take i)).map (.int .u8)) rfl (HO.out.alloc _) _ 1 [.int .u8 0] rfl (src_one Try.underlying37 _ _ _ rfl rfl) (by unfold maxLen; omega) (by omega) (Nat.le_trans hs1 (by simp)) ?_)
        intro v5 w5 hA
        obtain ⟨a5, c5, rfl⟩ := hA.own.form
        have K5 := Aside.mk (show Kept (fun b => (Value.slice va ((i + 7) / 8) vc).ownBlock = some b) wr w5 from (Kept.of_below (below_new wr _)).trans ((Kept.of_grown hA.grown).mono (fun b e _ => e.symm)) (fun _ e _ => e))
        have hn5 := HO.out.blk_ne HI.out.b1 (by decide)
        have g1 := (K5.out.block _ hlt1 hn5).trans HI.out.b1
        have hbit5 := K5.out.cell hbit (fun e => by have h3 : w.heap.size ≤ g := (HO.out.lt _ e).1; omega)
        have HM := Aside.mk (of16_more HI.out hil HE8.out hA)
        clear c10 c11 f11 hbit hA hn5
        have c10 := cell_blk (k := 0) g1
        have c11 := cell_blk (k := 1) g1
        have f11 := fun k => frozen_blk (k := k) g1
        have hlt5 := lt_of_blk g1
        simp at c10 c11
        clear g1
        have hge : i / 8 + 1 = (i + 7) / 8 + 1 := by have := HE8.out; omega
        have hgne : g ≠ w.heap.size + 1 := by omega
        cases bit with
        | false =>
          have HD := Aside.mk (of16_no HM.out hil HBV.out)
          go_wp2_with fail
          exact ⟨⟨i + 1, by omega, by simp, ⟨_, HD.out⟩⟩, by simp [intOf]; omega⟩
        | true =>
          go_wp2_with fail
          clear c10 c11 f11 hbit5
          generalize w5.setCell ⟨w.heap.size + 1, 1, none⟩ (.slice a5 ((i + 7) / 8 + 1) c5) = w6 at *
          obtain ⟨g8, o8, p8, ev8, hg8, hlt8, hcp8, hcp9, hcells, hfz⟩ := HM.out.own.some_ (by omega)
          have hnl : i / 8 < (mrow (mof (l.take i)) i).length := by rw [mrow_len _ _ (mof_take_len l (by omega))]; omega
          have hx := hcells (i / 8) (.int .u8 ((mrow (mof (l.take i)) i).getD (i / 8) 0)) (by simp [List.getElem?_eq_getElem hnl])
          have hfx := hfz (o8 + i / 8)
          have HY := Aside.mk (of16_yes (by have := HM.out; rw [ev8] at this; exact this) hil HBV.out)
          have c10 := cell_blk (k := 0) HM.out.b1
          have c11 := cell_blk (k := 1) HM.out.b1
          have f11 := fun k => frozen_blk (k := k) HM.out.b1
          simp at c10 c11
          rw [ev8] at c11
          clear hcells hfz
          generalize (mrow (mof (l.take i)) i).getD (i / 8) 0 = x at *
          have hn1 : g8 ≠ w.heap.size + 1 := fun e => HM.out.own.blk_ne HM.out.b1 (by decide) (by rw [ev8, ← e]; rfl)
          go_region
          go_wp2_with fail
          exact ⟨⟨i + 1, by omega, by simp, ⟨_, HY.out.drew⟩⟩, by simp [intOf]; omega⟩
      · have e8 : ((i : Int) % 8 == 0) = false := by simp; omega
        have HM := Aside.mk (of16_same HI.out hil h8)
        cases bit with
        | false =>
          have HD := Aside.mk (of16_no HM.out hil HBV.out)
          go_wp2_with fail
          exact ⟨⟨i + 1, by omega, by simp, ⟨_, HD.out⟩⟩, by simp [intOf]; omega⟩
        | true =>
          obtain ⟨g8, o8, p8, ev8, hg8, hlt8, hcp8, hcp9, hcells, hfz⟩ := HM.out.own.some_ (by omega)
          have hnl : i / 8 < (mrow (mof (l.take i)) i).length := by rw [mrow_len _ _ (mof_take_len l (by omega))]; omega
          have hx := hcells (i / 8) (.int .u8 ((mrow (mof (l.take i)) i).getD (i / 8) 0)) (by simp [List.getElem?_eq_getElem hnl])
          have hfx := hfz (o8 + i / 8)
          have HY := Aside.mk (of16_yes (by have := HM.out; rw [ev8] at this; exact this) hil HBV.out)
          rw [ev8] at c11
          clear hcells hfz
          generalize (mrow (mof (l.take i)) i).getD (i / 8) 0 = x at *
          have hn1 : g8 ≠ w.heap.size + 1 := fun e => HM.out.own.blk_ne HM.out.b1 (by decide) (by rw [ev8, ← e]; rfl)
          go_wp2_with fail
          go_region
          go_wp2_with fail
          exact ⟨⟨i + 1, by omega, by simp, ⟨_, HY.out.drew⟩⟩, by simp [intOf]; omega⟩
    · obtain rfl : i = n := by omega
      have c00 := cell_blk (k := 0) HI.out.b0
      have c01 := cell_blk (k := 1) HI.out.b0
      have f00 := fun k => frozen_blk (k := k) HI.out.b0
      simp at c00 c01
      have e1 : l.take i = l := by rw [← HN.out]; simp
      have HI2 := HI.out
      rw [e1] at c11 HI2
      have HI3 := Aside.mk HI2
      have HN2 := HN.out
      rw [HN2] at c10
      clear HI HI2 e1 HN2
      go_wp2_with fail
      refine bodyPost_ret (v := .agg #[.int .i64 (i : Int), .slice va (mof l).length vc]) (by simp [results, Try.results110, go_sem, c00, c01]) rfl ?_
      refine ⟨_, by rw [HN.out], ?_, ?_⟩
      · have h9 := HI3.out.own
        rw [show l.take i = l by rw [← HN.out]; simp] at h9
        have h0 := h9.blk_ne HI3.out.b0 (by decide)
        exact (h9.set_other (a := ⟨w.heap.size, 0, none⟩) h0 (.int .i64 (i : Int))).set_other (a := ⟨w.heap.size, 1, none⟩) h0 (.slice va (mof l).length vc)
      · exact (HI3.out.bel.setCell (Nat.le_refl _) _).setCell (Nat.le_refl _) _
end Go.Proofs.Ytmhjjhaipcgbiaa
