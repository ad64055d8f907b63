/- Texts of this claim, one behind the other: ValR0, Get0, Get. -/
import Derived.Test.YtmhjjhaipcgbiaaGreatZemP16

namespace Go.Proofs.YtmhjjhaipcgbiaaGreat
open Go.RowKit
set_option linter.unusedVariables false
set_option linter.unusedSimpArgs false
set_option maxRecDepth 100000
set_option maxHeartbeats 1500000
theorem value_r0 (c : Col) (hc : COK c) (B D E X : SL) (vals : List Value) (i : Nat) (hi : i < c.ends.length) (hf : aheadI c.ends i = 0) (ht : c.ends.getD i 0 = 0) (hD : D.a = none) (w : World) (h : RdC w c B D E X vals) :
    Calls Tryz.prog 219 #[.agg #[], colV c B D E X, .int .i64 (i : Int)] w (ValP 0 [] w) := by
  obtain ⟨ea, ec⟩ := E
  obtain ⟨da, dc⟩ := D
  obtain rfl : da = none := hD
  have HR := Aside.mk h
  have HC := Aside.mk hc
  have hah := Aside.mk (fun (w2 : World) (hb : Below w.heap.size w w2) => show Calls Tryz.prog 87 _ w2 (IntP 0 w2) from hf ▸ cahead_any c B ⟨none, dc⟩ ⟨ea, ec⟩ X i (by omega) HC.out.le w2 (HR.out.ends.below hb))
  have hle := HC.out.le
  have hld := HC.out.ld
  clear h hc
  dsimp only [colV] at hah ⊢
  obtain ⟨eb, eo, ecap, hs, hel, hecap, hcE⟩ := rd_get HR.out.ends i hi
  simp only [Value.slice.injEq, true_and] at hs
  obtain ⟨rfl, rfl⟩ := hs
  rw [ht] at hcE
  have HCE := Aside.mk hcE
  obtain ⟨_, da', dcap', hds, hdl, hdc, h0, _⟩ := HR.out.data
  simp only [Value.slice.injEq, true_and] at hds
  obtain ⟨rfl, rfl⟩ := hds
  obtain ⟨e0, rfl⟩ := h0 rfl
  have HCL := Aside.mk (fun (w2 : World) (hb : Below w.heap.size w w2) => clone_bytes (.slice none 0 0) 0 [] w2 (by omega) (Rd.nil w2 1) (fun u hu => by cases hu))
  have E0 := Aside.mk e0
  clear hf ht hcE hdl hdc h0 e0
  have heb : eb < w.heap.size := World.block_lt_of_cell? _ _ HCE.out
  have hne : eb ≠ w.heap.size + 1 + 1 := by omega
  go_enter Tryz.func219, Tryz.ntmps219
  go_wp2_with fail
  obtain ⟨b3, hf3, hx3, hr3, hs3⟩ := three_new w #[] #[.int .i64 c.k, .int .i64 c.s, .int .i64 c.n, .int .i64 c.m, .slice B.a c.bits.length B.c, .slice none c.data.length 0, .slice (some ⟨eb, eo, none⟩) c.ends.length ec, .slice X.a c.words.length X.c] #[.int .u64 0, .slice none 0 0, .bool false] 162 63 145
  have B3 := Aside.mk b3
  have HX3 := Aside.mk hx3
  have HR3 := Aside.mk hr3
  have HS3 := Aside.mk hs3
  have HE3 := Aside.mk ((b3.cell (p := ⟨eb, eo + i, none⟩) (World.block_lt_of_cell? _ _ HCE.out)).trans HCE.out)
  clear b3 hf3 hx3 hr3 hs3
  generalize (((w.alloc (.cells #[] 162)).alloc (.cells #[.int .i64 c.k, .int .i64 c.s, .int .i64 c.n, .int .i64 c.m, .slice B.a c.bits.length B.c, .slice none c.data.length 0, .slice (some ⟨eb, eo, none⟩) c.ends.length ec, .slice X.a c.words.length X.c] 63)).alloc (.cells #[.int .u64 0, .slice none 0 0, .bool false] 145)) = w3 at *
  obtain ⟨p0, p1, p2, p3, p4, p5, p6, p7⟩ := box8 HX3.out
  have pe := HE3.out
  go_region_law (first
    | (refine step_call (P := Tryz.prog) w3.drew (by rfl) 87 [.tmp 9, .tmp 10] _ (by rfl) [.agg #[.int .i64 c.k, .int .i64 c.s, .int .i64 c.n, .int .i64 c.m, .slice B.a c.bits.length B.c, .slice none c.data.length 0, .slice (some ⟨eb, eo, none⟩) c.ends.length ec, .slice X.a c.words.length X.c], .int .i64 (i : Int)] (by rfl) (fun _ _ => rfl) (hah.out w3.drew (B3.out.trans (below_drewN _ _ 1))) ?_; rintro e wK ⟨rfl, hbK⟩; replace hbK := undrew hbK; have hcK : Below w3.heap.size w3 wK := hbK; obtain ⟨k0, k1, k2, k3, k4, k5, k6, k7⟩ := box8 ((hcK.block _ (lt_of_blk HX3.out)).trans HX3.out); have ke := (hcK.cell (p := ⟨eb, eo + i, none⟩) (World.block_lt_of_cell? _ _ HE3.out)).trans HE3.out; have HBK := Aside.mk hbK; clear hcK hbK; refine ⟨_, rfl, ?_⟩)
    | (refine step_call (P := Tryz.prog) wK (by rfl) 91 [.tmp 17] _ (by rfl) [.slice none 0 0] (by rfl) (fun _ _ => rfl) (HCL.out wK (B3.out.trans (HBK.out.mono B3.out.size))) ?_; rintro e wL ⟨v', rfl, ho, hbL⟩; obtain ⟨va, vc, rfl⟩ := ho.form; have HO := Aside.mk ho; clear ho; have B4 := Aside.mk (HBK.out.trans (hbL.mono HBK.out.size)); have hr4 := (B4.out.block _ (lt_of_blk HR3.out)).trans HR3.out; have q0 := cell_blk (k := 0) hr4; have q1 := cell_blk (k := 1) hr4; have q2 := cell_blk (k := 2) hr4; have z0 := frozen_blk (k := 0) hr4; have z1 := frozen_blk (k := 1) hr4; have z2 := frozen_blk (k := 2) hr4; simp at q0 q1 q2; clear hr4 hbL; refine ⟨_, rfl, ?_⟩))
  all_goals
    go_wp2
    all_goals refine bodyPost_ret (v := .agg #[.int .u64 0, .slice va 0 vc, .bool false]) (by simp [results, Tryz.results219, go_sem, q0, q1, q2]) rfl ?_
    all_goals exact ⟨va, vc, rfl, val_own HS3.out (HO.out.mono HBK.out.size), val_below B3.out B4.out⟩
end Go.Proofs.YtmhjjhaipcgbiaaGreat


namespace Go.Proofs.YtmhjjhaipcgbiaaGreat
open Go.RowKit
set_option linter.unusedVariables false
set_option linter.unusedSimpArgs false
set_option maxRecDepth 100000
set_option maxHeartbeats 2000000
def GetP (b : Nat) (tx : List Int) (w : World) (e : Ending) (w' : World) : Prop :=
  ∃ a cap, e = .returned (.tuple #[.int .u64 (b : Int), .slice a tx.length cap, .bool false, .int .i64 0]) ∧ Own w' w.heap.size 5 1 (.slice a tx.length cap) tx.length (tx.map (.int .u8)) ∧ Below w.heap.size w w'
def GetNP (null : Bool) (r : Int) (w : World) (e : Ending) (w' : World) : Prop :=
  e = .returned (.tuple #[.int .u64 0, .slice none 0 0, .bool null, .int .i64 r]) ∧ Below w.heap.size w w'
theorem get_null (c : Col) (hc : COK c) (B D E X : SL) (vals : List Value) (i : Nat) (hr : checkC c = 0) (hi : (i : Int) < c.n) (hnl : nullB c.bits i = true) (w : World) (h : RdC w c B D E X vals) : Calls Tryz.prog 61 #[colV c B D E X, .int .i64 (i : Int)] w (GetNP true 0 w) := by
  have HBW := Aside.mk (below_new w (.cells #[.int .i64 c.k, .int .i64 c.s, .int .i64 c.n, .int .i64 c.m, .slice B.a c.bits.length B.c, .slice D.a c.data.length D.c, .slice E.a c.ends.length E.c, .slice X.a c.words.length X.c] 63))
  have hck := Aside.mk (check_any c hc B D E X vals (w.alloc (.cells #[.int .i64 c.k, .int .i64 c.s, .int .i64 c.n, .int .i64 c.m, .slice B.a c.bits.length B.c, .slice D.a c.data.length D.c, .slice E.a c.ends.length E.c, .slice X.a c.words.length X.c] 63)) (h.below HBW.out))
  have HX := Aside.mk (heap_alloc_new w (.cells #[.int .i64 c.k, .int .i64 c.s, .int .i64 c.n, .int .i64 c.m, .slice B.a c.bits.length B.c, .slice D.a c.data.length D.c, .slice E.a c.ends.length E.c, .slice X.a c.words.length X.c] 63))
  have hnull := Aside.mk (fun (w2 : World) (hb : Below w.heap.size w w2) => null_any c B D E X i (check_bits hr hi) hc.bits hc.lb w2 (h.bits.below hb))
  rw [hr] at hck
  rw [hnl] at hnull
  clear h hr hnl
  dsimp only [colV] at hck hnull ⊢
  go_enter Tryz.func61, Tryz.ntmps61
  go_wp2_with (first | (go_at_call 82; refine hck.out.mono ?_; rintro e w2 ⟨rfl, hb2⟩; replace HX := Aside.mk ((hb2.block _ (lt_of_blk HX.out)).trans HX.out); obtain ⟨c0, c1, c2, c3, c4, c5, c6, c7⟩ := box8 HX.out; have B2 := Aside.mk (HBW.out.trans (hb2.mono HBW.out.size)); clear hb2) | (go_at_call 129; refine (hnull.out _ B2.out).mono ?_; rintro e w3 ⟨rfl, hb3⟩; replace B2 := Aside.mk (B2.out.trans (hb3.mono B2.out.size)); clear hb3))
  refine bodyPost_ret (v := .tuple #[.int .u64 0, .slice none 0 0, .bool true, .int .i64 0]) (by simp [results, Tryz.results61, go_sem]) rfl ⟨rfl, B2.out⟩
end Go.Proofs.YtmhjjhaipcgbiaaGreat


namespace Go.Proofs.YtmhjjhaipcgbiaaGreat
open Go.RowKit
set_option linter.unusedVariables false
set_option linter.unusedSimpArgs false
set_option maxRecDepth 100000
set_option maxHeartbeats 8000000
theorem meth_f (v : Value) (w : World) : (method 400 165 v "mintage/column.value").run Tryz.prog w = .ok (221, v) w := by kernel_rfl
theorem meth_c (v : Value) (w : World) : (method 400 167 v "mintage/column.value").run Tryz.prog w = .ok (224, v) w := by kernel_rfl
theorem meth_r (v : Value) (w : World) : (method 400 162 v "mintage/column.value").run Tryz.prog w = .ok (219, v) w := by kernel_rfl
theorem get_end {w w3 wL : World} {zb n : Nat} {cs : Array Value} {v : Value} {xs : List Value} {x1 x2 x3 : Value} (b2 : Below w.heap.size w w3) (hcl : Below w3.heap.size w3 wL) (hzb : w3.heap.size ≤ zb) (hz : wL.heap[zb]? = some (.cells cs 145 (0, 0))) (ho : Own wL w3.heap.size 5 1 v n xs) (m : Nat) :
    Own ((((wL.setCell ⟨zb, 0, none⟩ x1).setCell ⟨zb, 1, none⟩ x2).setCell ⟨zb, 2, none⟩ x3).drewN m) w.heap.size 5 1 v n xs ∧ Below w.heap.size w ((((wL.setCell ⟨zb, 0, none⟩ x1).setCell ⟨zb, 1, none⟩ x2).setCell ⟨zb, 2, none⟩ x3).drewN m) := by
  have hne : v.ownBlock ≠ some zb := ho.blk_ne hz (by decide)
  have hs := b2.size
  refine ⟨((((ho.set_other (a := ⟨zb, 0, none⟩) hne _).set_other (a := ⟨zb, 1, none⟩) hne _).set_other (a := ⟨zb, 2, none⟩) hne _).mono b2.size).drewN m, ?_⟩
  exact ((((b2.trans (hcl.mono b2.size)).setCell (by simp; omega) _).setCell (by simp; omega) _).setCell (by simp; omega) _).trans (below_drewN _ _ _)
theorem get_endA {w w3 wL : World} {n : Nat} {v : Value} {xs : List Value} (b2 : Below w.heap.size w w3) (hcl : Below w3.heap.size w3 wL) (ho : Own wL w3.heap.size 5 1 v n xs) (o : Obj) (m : Nat) :
    Own ((wL.alloc o).drewN m) w.heap.size 5 1 v n xs ∧ Below w.heap.size w ((wL.alloc o).drewN m) :=
  ⟨((ho.mono b2.size).alloc o).drewN m, ((b2.trans (hcl.mono b2.size)).alloc (Nat.le_trans b2.size hcl.size) o).trans (below_drewN _ _ _)⟩
theorem cell_drew {W : World} {a : Addr} {v : Value} (h : W.cell? a = some v) : W.drew.cell? a = some v := h
theorem lt_drew {W : World} {n : Nat} (h : n < W.heap.size) : n < W.drew.heap.size := h
theorem cell_alloc {W : World} {o : Obj} {g n : Nat} {v : Value} (hlt : g < W.heap.size) (h : W.cell? ⟨g, n, none⟩ = some v) : (W.alloc o).cell? ⟨g, n, none⟩ = some v :=
  (World.cell?_of_block (w := W) (Below.heap_alloc W o g hlt)).trans h
theorem get_f (c : Col) (h1 : c.k ≠ 15) (h2 : c.k ≠ 16) {W : Nat} (hW : widthOf c.k = (W : Int)) (hc : COK c) (B D E X : SL) (vals : List Value) (i : Nat) (hr : checkC c = 0) (hi : (i : Int) < c.n) (hnl : nullB c.bits i = false) (b : Nat) (tx : List Int) (w : World) (h : RdC w c B D E X vals) (hv : ∀ w2, Below w.heap.size w w2 → Calls Tryz.prog 221 #[(.agg #[.int .i64 (W : Int)]), colV c B D E X, .int .i64 (i : Int)] w2 (ValP b tx w2)) : Calls Tryz.prog 61 #[colV c B D E X, .int .i64 (i : Int)] w (GetP b tx w) := by
  have HBW := Aside.mk (below_new w (.cells #[.int .i64 c.k, .int .i64 c.s, .int .i64 c.n, .int .i64 c.m, .slice B.a c.bits.length B.c, .slice D.a c.data.length D.c, .slice E.a c.ends.length E.c, .slice X.a c.words.length X.c] 63))
  have hck := Aside.mk (fun (w2 : World) (hb : Below w.heap.size w w2) => check_any c hc B D E X vals w2 (h.below hb))
  have hnull := Aside.mk (fun (w2 : World) (hb : Below w.heap.size w w2) => null_any c B D E X i (check_bits hr hi) hc.bits hc.lb w2 (h.bits.below hb))
  have hval := Aside.mk hv
  rw [hr] at hck
  rw [hnl] at hnull
  clear h hr hnl hv
  have H1 := Aside.mk h1
  have H2 := Aside.mk h2
  have HWW := Aside.mk hW
  clear h1 h2 hW
  dsimp only [colV] at hck hnull hval ⊢
  have HX := Aside.mk (heap_alloc_new w (.cells #[.int .i64 c.k, .int .i64 c.s, .int .i64 c.n, .int .i64 c.m, .slice B.a c.bits.length B.c, .slice D.a c.data.length D.c, .slice E.a c.ends.length E.c, .slice X.a c.words.length X.c] 63))
  go_enter Tryz.func61, Tryz.ntmps61
  go_wp2_with (first | (go_at_call 82; refine (hck.out _ HBW.out).mono ?_; rintro e w2 ⟨rfl, hb2⟩; replace HX := Aside.mk ((hb2.block _ (lt_of_blk HX.out)).trans HX.out); obtain ⟨c0, c1, c2, c3, c4, c5, c6, c7⟩ := box8 HX.out; have B2 := Aside.mk (HBW.out.trans (hb2.mono HBW.out.size)); clear hb2) | (go_at_call 129; refine (hnull.out _ B2.out).mono ?_; rintro e w3 ⟨rfl, hb3⟩; replace HX := Aside.mk ((hb3.block _ (lt_of_blk HX.out)).trans HX.out); replace B2 := Aside.mk (B2.out.trans (hb3.mono B2.out.size)); clear hb3 c0 c1 c2 c3 c4 c5 c6 c7))
  obtain ⟨p0, p1, p2, p3, p4, p5, p6, p7⟩ := box8 HX.out
  have hlt := lt_of_blk HX.out
  have hmeth := meth_f
  go_region_held3 (fun w' => w'.cell? ⟨w.heap.size, 0, none⟩ = some (.int .i64 c.k) ∧ w'.cell? ⟨w.heap.size, 1, none⟩ = some (.int .i64 c.s) ∧ w'.cell? ⟨w.heap.size, 2, none⟩ = some (.int .i64 c.n) ∧ w'.cell? ⟨w.heap.size, 3, none⟩ = some (.int .i64 c.m) ∧ w'.cell? ⟨w.heap.size, 4, none⟩ = some (.slice B.a c.bits.length B.c) ∧ w'.cell? ⟨w.heap.size, 5, none⟩ = some (.slice D.a c.data.length D.c) ∧ w'.cell? ⟨w.heap.size, 6, none⟩ = some (.slice E.a c.ends.length E.c) ∧ w'.cell? ⟨w.heap.size, 7, none⟩ = some (.slice X.a c.words.length X.c))
    (first | (refine ⟨?_, ?_, ?_, ?_, ?_, ?_, ?_, ?_⟩ <;> with_reducible assumption) | (refine ⟨?_, ?_, ?_, ?_, ?_, ?_, ?_, ?_⟩ <;> with_reducible exact cell_drew (by assumption)) | (refine ⟨?_, ?_, ?_, ?_, ?_, ?_, ?_, ?_⟩ <;> with_reducible exact cell_alloc (by first | assumption | exact lt_drew (by assumption)) (by first | assumption | exact cell_drew (by assumption))) | (refine ⟨?_, ?_, ?_, ?_, ?_, ?_, ?_, ?_⟩ <;> with_reducible exact cell_set3 (by omega) (by first | assumption | exact cell_alloc (by assumption) (by assumption))) | (refine ⟨?_, ?_, ?_, ?_, ?_, ?_, ?_, ?_⟩ <;> exact cell_alloc (by assumption) (by assumption)))
    (first
      | (go_at_call 86; refine (of_f c.k c.s H1.out H2.out HWW.out _).mono ?_; rintro e wK ⟨rfl, hbK⟩; (first | (guard_hyp hbK : Below w3.drew.heap.size w3.drew wK; have hcK : Below w3.heap.size w3 wK := undrew hbK) | (have hcK : Below w3.heap.size w3 wK := below_chain ((below_drew1 w3).alloc (Nat.le_refl _) _) hbK; have hz : wK.heap[w3.heap.size]? = some (.cells #[.int .u64 0, .slice none 0 0, .bool false] 145 (0, 0)) := (hbK.block _ (lt_of_blk (heap_alloc_new w3.drew (.cells #[.int .u64 0, .slice none 0 0, .bool false] 145)))).trans (heap_alloc_new w3.drew (.cells #[.int .u64 0, .slice none 0 0, .bool false] 145)))); obtain ⟨k0, k1, k2, k3, k4, k5, k6, k7⟩ := box8 ((hcK.block _ hlt).trans HX.out); have hltK := Nat.lt_of_lt_of_le hlt hcK.size)
      | (go_at_call 221; refine (hval.out _ (B2.out.trans (Below.mono (by first | (with_reducible exact hcK) | exact hcK.alloc hcK.size _) B2.out.size))).mono ?_; rintro e wL ⟨va, vc, rfl, ho, hbL⟩; (first | (guard_hyp hbL : Below wK.heap.size wK wL; have hcL : Below w3.heap.size w3 wL := below_chain hcK hbL; have hoK : w3.heap.size ≤ wK.heap.size := hcK.size; have HO := Aside.mk (ho.mono hoK); (first | (replace hz := (hbL.block _ (lt_of_blk hz)).trans hz) | skip)) | (have hcL : Below w3.heap.size w3 wL := below_chain (hcK.alloc hcK.size _) hbL; have HO := Aside.mk (ho.mono (base' := w3.heap.size) (by have := hcK.size; simp; omega)); have hz := (hbL.block _ (lt_of_blk (heap_alloc_new wK (.cells #[.int .u64 0, .slice none 0 0, .bool false] 145)))).trans (heap_alloc_new wK (.cells #[.int .u64 0, .slice none 0 0, .bool false] 145)))); obtain ⟨l0, l1, l2, l3, l4, l5, l6, l7⟩ := box8 ((hcL.block _ hlt).trans HX.out); have hltL := Nat.lt_of_lt_of_le hlt hcL.size; clear ho; have HCL := Aside.mk hcL; (first | (have z0 := cell_blk (k := 0) hz; have z1 := cell_blk (k := 1) hz; have z2 := cell_blk (k := 2) hz; have y0 := frozen_blk (k := 0) hz; have y1 := frozen_blk (k := 1) hz; have y2 := frozen_blk (k := 2) hz; simp at z0 z1 z2; have HZ := Aside.mk hz; clear hz) | skip)))
  all_goals
    go_wp2
    go_quiet (fail)
    go_wp2
    refine bodyPost_ret (v := .tuple #[.int .u64 (b : Int), .slice va tx.length vc, .bool false, .int .i64 0]) (by simp [results, Tryz.results61, go_sem]) rfl ?_
    refine ⟨va, vc, rfl, ?_⟩
    first
      | exact get_end B2.out HCL.out (Nat.le_refl _) HZ.out HO.out _
      | exact get_end B2.out HCL.out hcK.size HZ.out HO.out _
      | exact get_endA B2.out HCL.out HO.out _ _
theorem get_c (c : Col) (hk : c.k = 16) (hc : COK c) (B D E X : SL) (vals : List Value) (i : Nat) (hr : checkC c = 0) (hi : (i : Int) < c.n) (hnl : nullB c.bits i = false) (b : Nat) (tx : List Int) (w : World) (h : RdC w c B D E X vals) (hv : ∀ w2, Below w.heap.size w w2 → Calls Tryz.prog 224 #[(.agg #[.int .i64 4]), colV c B D E X, .int .i64 (i : Int)] w2 (ValP b tx w2)) : Calls Tryz.prog 61 #[colV c B D E X, .int .i64 (i : Int)] w (GetP b tx w) := by
  have HBW := Aside.mk (below_new w (.cells #[.int .i64 16, .int .i64 c.s, .int .i64 c.n, .int .i64 c.m, .slice B.a c.bits.length B.c, .slice D.a c.data.length D.c, .slice E.a c.ends.length E.c, .slice X.a c.words.length X.c] 63))
  have hck := Aside.mk (fun (w2 : World) (hb : Below w.heap.size w w2) => check_any c hc B D E X vals w2 (h.below hb))
  have hnull := Aside.mk (fun (w2 : World) (hb : Below w.heap.size w w2) => null_any c B D E X i (check_bits hr hi) hc.bits hc.lb w2 (h.bits.below hb))
  have hval := Aside.mk hv
  rw [hr] at hck
  rw [hnl] at hnull
  clear h hr hnl hv
  have HCV := (show colV c B D E X = .agg #[.int .i64 16, .int .i64 c.s, .int .i64 c.n, .int .i64 c.m, .slice B.a c.bits.length B.c, .slice D.a c.data.length D.c, .slice E.a c.ends.length E.c, .slice X.a c.words.length X.c] by rw [colV, hk])
  rw [HCV] at hck hnull hval ⊢
  clear hk HCV
  have HX := Aside.mk (heap_alloc_new w (.cells #[.int .i64 16, .int .i64 c.s, .int .i64 c.n, .int .i64 c.m, .slice B.a c.bits.length B.c, .slice D.a c.data.length D.c, .slice E.a c.ends.length E.c, .slice X.a c.words.length X.c] 63))
  go_enter Tryz.func61, Tryz.ntmps61
  go_wp2_with (first | (go_at_call 82; refine (hck.out _ HBW.out).mono ?_; rintro e w2 ⟨rfl, hb2⟩; replace HX := Aside.mk ((hb2.block _ (lt_of_blk HX.out)).trans HX.out); obtain ⟨c0, c1, c2, c3, c4, c5, c6, c7⟩ := box8 HX.out; have B2 := Aside.mk (HBW.out.trans (hb2.mono HBW.out.size)); clear hb2) | (go_at_call 129; refine (hnull.out _ B2.out).mono ?_; rintro e w3 ⟨rfl, hb3⟩; replace HX := Aside.mk ((hb3.block _ (lt_of_blk HX.out)).trans HX.out); replace B2 := Aside.mk (B2.out.trans (hb3.mono B2.out.size)); clear hb3 c0 c1 c2 c3 c4 c5 c6 c7))
  obtain ⟨p0, p1, p2, p3, p4, p5, p6, p7⟩ := box8 HX.out
  have hlt := lt_of_blk HX.out
  have hmeth := meth_c
  go_region_held3 (fun w' => w'.cell? ⟨w.heap.size, 0, none⟩ = some (.int .i64 16) ∧ w'.cell? ⟨w.heap.size, 1, none⟩ = some (.int .i64 c.s) ∧ w'.cell? ⟨w.heap.size, 2, none⟩ = some (.int .i64 c.n) ∧ w'.cell? ⟨w.heap.size, 3, none⟩ = some (.int .i64 c.m) ∧ w'.cell? ⟨w.heap.size, 4, none⟩ = some (.slice B.a c.bits.length B.c) ∧ w'.cell? ⟨w.heap.size, 5, none⟩ = some (.slice D.a c.data.length D.c) ∧ w'.cell? ⟨w.heap.size, 6, none⟩ = some (.slice E.a c.ends.length E.c) ∧ w'.cell? ⟨w.heap.size, 7, none⟩ = some (.slice X.a c.words.length X.c))
    (first | (refine ⟨?_, ?_, ?_, ?_, ?_, ?_, ?_, ?_⟩ <;> with_reducible assumption) | (refine ⟨?_, ?_, ?_, ?_, ?_, ?_, ?_, ?_⟩ <;> with_reducible exact cell_drew (by assumption)) | (refine ⟨?_, ?_, ?_, ?_, ?_, ?_, ?_, ?_⟩ <;> with_reducible exact cell_alloc (by first | assumption | exact lt_drew (by assumption)) (by first | assumption | exact cell_drew (by assumption))) | (refine ⟨?_, ?_, ?_, ?_, ?_, ?_, ?_, ?_⟩ <;> with_reducible exact cell_set3 (by omega) (by first | assumption | exact cell_alloc (by assumption) (by assumption))) | (refine ⟨?_, ?_, ?_, ?_, ?_, ?_, ?_, ?_⟩ <;> exact cell_alloc (by assumption) (by assumption)))
    (first
      | (go_at_call 86; refine (of_c c.s _).mono ?_; rintro e wK ⟨rfl, hbK⟩; (first | (guard_hyp hbK : Below w3.drew.heap.size w3.drew wK; have hcK : Below w3.heap.size w3 wK := undrew hbK) | (have hcK : Below w3.heap.size w3 wK := below_chain ((below_drew1 w3).alloc (Nat.le_refl _) _) hbK; have hz : wK.heap[w3.heap.size]? = some (.cells #[.int .u64 0, .slice none 0 0, .bool false] 145 (0, 0)) := (hbK.block _ (lt_of_blk (heap_alloc_new w3.drew (.cells #[.int .u64 0, .slice none 0 0, .bool false] 145)))).trans (heap_alloc_new w3.drew (.cells #[.int .u64 0, .slice none 0 0, .bool false] 145)))); obtain ⟨k0, k1, k2, k3, k4, k5, k6, k7⟩ := box8 ((hcK.block _ hlt).trans HX.out); have hltK := Nat.lt_of_lt_of_le hlt hcK.size)
      | (go_at_call 224; refine (hval.out _ (B2.out.trans (Below.mono (by first | (with_reducible exact hcK) | exact hcK.alloc hcK.size _) B2.out.size))).mono ?_; rintro e wL ⟨va, vc, rfl, ho, hbL⟩; (first | (guard_hyp hbL : Below wK.heap.size wK wL; have hcL : Below w3.heap.size w3 wL := below_chain hcK hbL; have hoK : w3.heap.size ≤ wK.heap.size := hcK.size; have HO := Aside.mk (ho.mono hoK); (first | (replace hz := (hbL.block _ (lt_of_blk hz)).trans hz) | skip)) | (have hcL : Below w3.heap.size w3 wL := below_chain (hcK.alloc hcK.size _) hbL; have HO := Aside.mk (ho.mono (base' := w3.heap.size) (by have := hcK.size; simp; omega)); have hz := (hbL.block _ (lt_of_blk (heap_alloc_new wK (.cells #[.int .u64 0, .slice none 0 0, .bool false] 145)))).trans (heap_alloc_new wK (.cells #[.int .u64 0, .slice none 0 0, .bool false] 145)))); obtain ⟨l0, l1, l2, l3, l4, l5, l6, l7⟩ := box8 ((hcL.block _ hlt).trans HX.out); have hltL := Nat.lt_of_lt_of_le hlt hcL.size; clear ho; have HCL := Aside.mk hcL; (first | (have z0 := cell_blk (k := 0) hz; have z1 := cell_blk (k := 1) hz; have z2 := cell_blk (k := 2) hz; have y0 := frozen_blk (k := 0) hz; have y1 := frozen_blk (k := 1) hz; have y2 := frozen_blk (k := 2) hz; simp at z0 z1 z2; have HZ := Aside.mk hz; clear hz) | skip)))
  all_goals
    go_wp2
    go_quiet (fail)
    go_wp2
    refine bodyPost_ret (v := .tuple #[.int .u64 (b : Int), .slice va tx.length vc, .bool false, .int .i64 0]) (by simp [results, Tryz.results61, go_sem]) rfl ?_
    refine ⟨va, vc, rfl, ?_⟩
    first
      | exact get_end B2.out HCL.out (Nat.le_refl _) HZ.out HO.out _
      | exact get_end B2.out HCL.out hcK.size HZ.out HO.out _
      | exact get_endA B2.out HCL.out HO.out _ _
theorem get_r (c : Col) (hk : c.k = 15) (hc : COK c) (B D E X : SL) (vals : List Value) (i : Nat) (hr : checkC c = 0) (hi : (i : Int) < c.n) (hnl : nullB c.bits i = false) (b : Nat) (tx : List Int) (w : World) (h : RdC w c B D E X vals) (hv : ∀ w2, Below w.heap.size w w2 → Calls Tryz.prog 219 #[(.agg #[]), colV c B D E X, .int .i64 (i : Int)] w2 (ValP b tx w2)) : Calls Tryz.prog 61 #[colV c B D E X, .int .i64 (i : Int)] w (GetP b tx w) := by
  have HBW := Aside.mk (below_new w (.cells #[.int .i64 15, .int .i64 c.s, .int .i64 c.n, .int .i64 c.m, .slice B.a c.bits.length B.c, .slice D.a c.data.length D.c, .slice E.a c.ends.length E.c, .slice X.a c.words.length X.c] 63))
  have hck := Aside.mk (fun (w2 : World) (hb : Below w.heap.size w w2) => check_any c hc B D E X vals w2 (h.below hb))
  have hnull := Aside.mk (fun (w2 : World) (hb : Below w.heap.size w w2) => null_any c B D E X i (check_bits hr hi) hc.bits hc.lb w2 (h.bits.below hb))
  have hval := Aside.mk hv
  rw [hr] at hck
  rw [hnl] at hnull
  clear h hr hnl hv
  have HCV := (show colV c B D E X = .agg #[.int .i64 15, .int .i64 c.s, .int .i64 c.n, .int .i64 c.m, .slice B.a c.bits.length B.c, .slice D.a c.data.length D.c, .slice E.a c.ends.length E.c, .slice X.a c.words.length X.c] by rw [colV, hk])
  rw [HCV] at hck hnull hval ⊢
  clear hk HCV
  have HX := Aside.mk (heap_alloc_new w (.cells #[.int .i64 15, .int .i64 c.s, .int .i64 c.n, .int .i64 c.m, .slice B.a c.bits.length B.c, .slice D.a c.data.length D.c, .slice E.a c.ends.length E.c, .slice X.a c.words.length X.c] 63))
  go_enter Tryz.func61, Tryz.ntmps61
  go_wp2_with (first | (go_at_call 82; refine (hck.out _ HBW.out).mono ?_; rintro e w2 ⟨rfl, hb2⟩; replace HX := Aside.mk ((hb2.block _ (lt_of_blk HX.out)).trans HX.out); obtain ⟨c0, c1, c2, c3, c4, c5, c6, c7⟩ := box8 HX.out; have B2 := Aside.mk (HBW.out.trans (hb2.mono HBW.out.size)); clear hb2) | (go_at_call 129; refine (hnull.out _ B2.out).mono ?_; rintro e w3 ⟨rfl, hb3⟩; replace HX := Aside.mk ((hb3.block _ (lt_of_blk HX.out)).trans HX.out); replace B2 := Aside.mk (B2.out.trans (hb3.mono B2.out.size)); clear hb3 c0 c1 c2 c3 c4 c5 c6 c7))
  obtain ⟨p0, p1, p2, p3, p4, p5, p6, p7⟩ := box8 HX.out
  have hlt := lt_of_blk HX.out
  have hmeth := meth_r
  go_region_held3 (fun w' => w'.cell? ⟨w.heap.size, 0, none⟩ = some (.int .i64 15) ∧ w'.cell? ⟨w.heap.size, 1, none⟩ = some (.int .i64 c.s) ∧ w'.cell? ⟨w.heap.size, 2, none⟩ = some (.int .i64 c.n) ∧ w'.cell? ⟨w.heap.size, 3, none⟩ = some (.int .i64 c.m) ∧ w'.cell? ⟨w.heap.size, 4, none⟩ = some (.slice B.a c.bits.length B.c) ∧ w'.cell? ⟨w.heap.size, 5, none⟩ = some (.slice D.a c.data.length D.c) ∧ w'.cell? ⟨w.heap.size, 6, none⟩ = some (.slice E.a c.ends.length E.c) ∧ w'.cell? ⟨w.heap.size, 7, none⟩ = some (.slice X.a c.words.length X.c))
    (first | (refine ⟨?_, ?_, ?_, ?_, ?_, ?_, ?_, ?_⟩ <;> with_reducible assumption) | (refine ⟨?_, ?_, ?_, ?_, ?_, ?_, ?_, ?_⟩ <;> with_reducible exact cell_drew (by assumption)) | (refine ⟨?_, ?_, ?_, ?_, ?_, ?_, ?_, ?_⟩ <;> with_reducible exact cell_alloc (by first | assumption | exact lt_drew (by assumption)) (by first | assumption | exact cell_drew (by assumption))) | (refine ⟨?_, ?_, ?_, ?_, ?_, ?_, ?_, ?_⟩ <;> with_reducible exact cell_set3 (by omega) (by first | assumption | exact cell_alloc (by assumption) (by assumption))) | (refine ⟨?_, ?_, ?_, ?_, ?_, ?_, ?_, ?_⟩ <;> exact cell_alloc (by assumption) (by assumption)))
    (first
      | (go_at_call 86; refine (of_r c.s _).mono ?_; rintro e wK ⟨rfl, hbK⟩; (first | (guard_hyp hbK : Below w3.drew.heap.size w3.drew wK; have hcK : Below w3.heap.size w3 wK := undrew hbK) | (have hcK : Below w3.heap.size w3 wK := below_chain ((below_drew1 w3).alloc (Nat.le_refl _) _) hbK; have hz : wK.heap[w3.heap.size]? = some (.cells #[.int .u64 0, .slice none 0 0, .bool false] 145 (0, 0)) := (hbK.block _ (lt_of_blk (heap_alloc_new w3.drew (.cells #[.int .u64 0, .slice none 0 0, .bool false] 145)))).trans (heap_alloc_new w3.drew (.cells #[.int .u64 0, .slice none 0 0, .bool false] 145)))); obtain ⟨k0, k1, k2, k3, k4, k5, k6, k7⟩ := box8 ((hcK.block _ hlt).trans HX.out); have hltK := Nat.lt_of_lt_of_le hlt hcK.size)
      | (go_at_call 219; refine (hval.out _ (B2.out.trans (Below.mono (by first | (with_reducible exact hcK) | exact hcK.alloc hcK.size _) B2.out.size))).mono ?_; rintro e wL ⟨va, vc, rfl, ho, hbL⟩; (first | (guard_hyp hbL : Below wK.heap.size wK wL; have hcL : Below w3.heap.size w3 wL := below_chain hcK hbL; have hoK : w3.heap.size ≤ wK.heap.size := hcK.size; have HO := Aside.mk (ho.mono hoK); (first | (replace hz := (hbL.block _ (lt_of_blk hz)).trans hz) | skip)) | (have hcL : Below w3.heap.size w3 wL := below_chain (hcK.alloc hcK.size _) hbL; have HO := Aside.mk (ho.mono (base' := w3.heap.size) (by have := hcK.size; simp; omega)); have hz := (hbL.block _ (lt_of_blk (heap_alloc_new wK (.cells #[.int .u64 0, .slice none 0 0, .bool false] 145)))).trans (heap_alloc_new wK (.cells #[.int .u64 0, .slice none 0 0, .bool false] 145)))); obtain ⟨l0, l1, l2, l3, l4, l5, l6, l7⟩ := box8 ((hcL.block _ hlt).trans HX.out); have hltL := Nat.lt_of_lt_of_le hlt hcL.size; clear ho; have HCL := Aside.mk hcL; (first | (have z0 := cell_blk (k := 0) hz; have z1 := cell_blk (k := 1) hz; have z2 := cell_blk (k := 2) hz; have y0 := frozen_blk (k := 0) hz; have y1 := frozen_blk (k := 1) hz; have y2 := frozen_blk (k := 2) hz; simp at z0 z1 z2; have HZ := Aside.mk hz; clear hz) | skip)))
  all_goals
    go_wp2
    go_quiet (fail)
    go_wp2
    refine bodyPost_ret (v := .tuple #[.int .u64 (b : Int), .slice va tx.length vc, .bool false, .int .i64 0]) (by simp [results, Tryz.results61, go_sem]) rfl ?_
    refine ⟨va, vc, rfl, ?_⟩
    first
      | exact get_end B2.out HCL.out (Nat.le_refl _) HZ.out HO.out _
      | exact get_end B2.out HCL.out hcK.size HZ.out HO.out _
      | exact get_endA B2.out HCL.out HO.out _ _
end Go.Proofs.YtmhjjhaipcgbiaaGreat
