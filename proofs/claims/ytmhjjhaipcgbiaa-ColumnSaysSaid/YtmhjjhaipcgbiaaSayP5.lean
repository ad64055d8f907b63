/- Texts of this claim, one behind the other: Get0, Get, GetA, Same, Kind, Kind2, Says, Args, SaysRow. -/
import Derived.Test.YtmhjjhaipcgbiaaSayP4
import Derived.Test.YtmhjjhaipcgbiaaSayP2
import Derived.Test.YtmhjjhaipcgbiaaSayP3
import Derived.Test.YtmhjjhaipcgbiaaSayP1
import Derived.ProofKit
import Derived.OpenShut
import Derived.ShutString
import Derived.ChangeOld
import Derived.Deep.Slices
import Derived.SizedLaws

/- column.Get where there is nothing to tell. (Printed by genget.py.) -/
namespace Go.Proofs.Ytmhjjhaipcgbiaa
open Go.RowKit
set_option linter.unusedVariables false
set_option linter.unusedSimpArgs false
set_option maxRecDepth 100000
set_option maxHeartbeats 2000000

def GetP (b : Nat) (tx : List Int) (w : World) (e : Ending) (w' : World) : Prop :=
  ∃ a cap, e = .returned (.tuple #[.int .u64 (b : Int), .slice a tx.length cap, .bool false, .int .i64 0]) ∧ Own w' w.heap.size 5 1 (.slice a tx.length cap) tx.length (tx.map (.int .u8)) ∧ Below w.heap.size w w'
def GetNP (null : Bool) (r : Int) (w : World) (e : Ending) (w' : World) : Prop :=
  e = .returned (.tuple #[.int .u64 0, .slice none 0 0, .bool null, .int .i64 r]) ∧ Below w.heap.size w w'

theorem get_err (c : Col) (hc : COK c) (B D E X : SL) (vals : List Value) (i : Int) (hr : checkC c ≠ 0) (w : World) (h : RdC w c B D E X vals) : Calls Try.prog 19 #[colV c B D E X, .int .i64 i] w (GetNP false (checkC c) w) := by
  have HBW := Aside.mk (below_new w (.cells #[.int .i64 c.k, .int .i64 c.s, .int .i64 c.n, .int .i64 c.m, .slice B.a c.bits.length B.c, .slice D.a c.data.length D.c, .slice E.a c.ends.length E.c, .slice X.a c.words.length X.c] 43))
  have hck := Aside.mk (check_any c hc B D E X vals (w.alloc (.cells #[.int .i64 c.k, .int .i64 c.s, .int .i64 c.n, .int .i64 c.m, .slice B.a c.bits.length B.c, .slice D.a c.data.length D.c, .slice E.a c.ends.length E.c, .slice X.a c.words.length X.c] 43)) (h.below HBW.out))
  have hne : (checkC c == 0) = false := by simpa using hr
  clear h hr
  dsimp only [colV] at hck ⊢
  generalize checkC c = r at *
  go_enter Try.func19, Try.ntmps19
  go_wp2_with (go_at_call 30; refine hck.out.mono ?_; rintro e w2 ⟨rfl, hb2⟩; have B2 := Aside.mk (HBW.out.trans (hb2.mono HBW.out.size)); clear hb2)
  refine bodyPost_ret (v := .tuple #[.int .u64 0, .slice none 0 0, .bool false, .int .i64 r]) (by simp [results, Try.results19, go_sem]) rfl ⟨rfl, B2.out⟩

theorem get_place (c : Col) (hc : COK c) (B D E X : SL) (vals : List Value) (i : Int) (hr : checkC c = 0) (hi : i < 0 ∨ c.n ≤ i) (w : World) (h : RdC w c B D E X vals) : Calls Try.prog 19 #[colV c B D E X, .int .i64 i] w (GetNP false 173 w) := by
  have HBW := Aside.mk (below_new w (.cells #[.int .i64 c.k, .int .i64 c.s, .int .i64 c.n, .int .i64 c.m, .slice B.a c.bits.length B.c, .slice D.a c.data.length D.c, .slice E.a c.ends.length E.c, .slice X.a c.words.length X.c] 43))
  have hck := Aside.mk (check_any c hc B D E X vals (w.alloc (.cells #[.int .i64 c.k, .int .i64 c.s, .int .i64 c.n, .int .i64 c.m, .slice B.a c.bits.length B.c, .slice D.a c.data.length D.c, .slice E.a c.ends.length E.c, .slice X.a c.words.length X.c] 43)) (h.below HBW.out))
  have HX := Aside.mk (heap_alloc_new w (.cells #[.int .i64 c.k, .int .i64 c.s, .int .i64 c.n, .int .i64 c.m, .slice B.a c.bits.length B.c, .slice D.a c.data.length D.c, .slice E.a c.ends.length E.c, .slice X.a c.words.length X.c] 43))
  rw [hr] at hck
  clear h hr
  dsimp only [colV] at hck ⊢
  by_cases h0 : i < 0
  · go_enter Try.func19, Try.ntmps19
    go_wp2_with (go_at_call 30; refine hck.out.mono ?_; rintro e w2 ⟨rfl, hb2⟩; obtain ⟨c0, c1, c2, c3, c4, c5, c6, c7⟩ := box8 ((hb2.block _ (lt_of_blk HX.out)).trans HX.out); have B2 := Aside.mk (HBW.out.trans (hb2.mono HBW.out.size)); clear hb2)
    refine bodyPost_ret (v := .tuple #[.int .u64 0, .slice none 0 0, .bool false, .int .i64 173]) (by simp [results, Try.results19, go_sem]) rfl ⟨rfl, B2.out⟩
  · have h1 : c.n ≤ i := by omega
    go_enter Try.func19, Try.ntmps19
    go_wp2_with (go_at_call 30; refine hck.out.mono ?_; rintro e w2 ⟨rfl, hb2⟩; obtain ⟨c0, c1, c2, c3, c4, c5, c6, c7⟩ := box8 ((hb2.block _ (lt_of_blk HX.out)).trans HX.out); have B2 := Aside.mk (HBW.out.trans (hb2.mono HBW.out.size)); clear hb2)
    refine bodyPost_ret (v := .tuple #[.int .u64 0, .slice none 0 0, .bool false, .int .i64 173]) (by simp [results, Try.results19, go_sem]) rfl ⟨rfl, B2.out⟩

theorem get_null (c : Col) (hc : COK c) (B D E X : SL) (vals : List Value) (i : Nat) (hr : checkC c = 0) (hi : (i : Int) < c.n) (hnl : nullB c.bits i = true) (w : World) (h : RdC w c B D E X vals) : Calls Try.prog 19 #[colV c B D E X, .int .i64 (i : Int)] w (GetNP true 0 w) := by
  have HBW := Aside.mk (below_new w (.cells #[.int .i64 c.k, .int .i64 c.s, .int .i64 c.n, .int .i64 c.m, .slice B.a c.bits.length B.c, .slice D.a c.data.length D.c, .slice E.a c.ends.length E.c, .slice X.a c.words.length X.c] 43))
  have hck := Aside.mk (check_any c hc B D E X vals (w.alloc (.cells #[.int .i64 c.k, .int .i64 c.s, .int .i64 c.n, .int .i64 c.m, .slice B.a c.bits.length B.c, .slice D.a c.data.length D.c, .slice E.a c.ends.length E.c, .slice X.a c.words.length X.c] 43)) (h.below HBW.out))
  have HX := Aside.mk (heap_alloc_new w (.cells #[.int .i64 c.k, .int .i64 c.s, .int .i64 c.n, .int .i64 c.m, .slice B.a c.bits.length B.c, .slice D.a c.data.length D.c, .slice E.a c.ends.length E.c, .slice X.a c.words.length X.c] 43))
  have hnull := Aside.mk (fun (w2 : World) (hb : Below w.heap.size w w2) => null_any c B D E X i (check_bits hr hi) hc.bits hc.lb w2 (h.bits.below hb))
  rw [hr] at hck
  rw [hnl] at hnull
  clear h hr hnl
  dsimp only [colV] at hck hnull ⊢
  go_enter Try.func19, Try.ntmps19
  go_wp2_with (first | (go_at_call 30; refine hck.out.mono ?_; rintro e w2 ⟨rfl, hb2⟩; replace HX := Aside.mk ((hb2.block _ (lt_of_blk HX.out)).trans HX.out); obtain ⟨c0, c1, c2, c3, c4, c5, c6, c7⟩ := box8 HX.out; have B2 := Aside.mk (HBW.out.trans (hb2.mono HBW.out.size)); clear hb2) | (go_at_call 56; refine (hnull.out _ B2.out).mono ?_; rintro e w3 ⟨rfl, hb3⟩; replace B2 := Aside.mk (B2.out.trans (hb3.mono B2.out.size)); clear hb3))
  refine bodyPost_ret (v := .tuple #[.int .u64 0, .slice none 0 0, .bool true, .int .i64 0]) (by simp [results, Try.results19, go_sem]) rfl ⟨rfl, B2.out⟩
end Go.Proofs.Ytmhjjhaipcgbiaa


/- column.Get of a value. (Printed by genget2.py.) -/
namespace Go.Proofs.Ytmhjjhaipcgbiaa
open Go.RowKit
set_option linter.unusedVariables false
set_option linter.unusedSimpArgs false
set_option maxRecDepth 100000
set_option maxHeartbeats 8000000

theorem meth_f (v : Value) (w : World) : (method 317 128 v "mintage/column.value").run Try.prog w = .ok (140, v) w := by kernel_rfl
theorem meth_c (v : Value) (w : World) : (method 317 130 v "mintage/column.value").run Try.prog w = .ok (143, v) w := by kernel_rfl
theorem meth_r (v : Value) (w : World) : (method 317 125 v "mintage/column.value").run Try.prog w = .ok (138, v) w := by kernel_rfl
theorem get_end {w w3 wL : World} {zb n : Nat} {cs : Array Value} {v : Value} {xs : List Value} {x1 x2 x3 : Value} (b2 : Below w.heap.size w w3) (hcl : Below w3.heap.size w3 wL) (hzb : w3.heap.size ≤ zb) (hz : wL.heap[zb]? = some (.cells cs 102 (0, 0))) (ho : Own wL w3.heap.size 5 1 v n xs) (m : Nat) :
    Own ((((wL.setCell ⟨zb, 0, none⟩ x1).setCell ⟨zb, 1, none⟩ x2).setCell ⟨zb, 2, none⟩ x3).drewN m) w.heap.size 5 1 v n xs ∧ Below w.heap.size w ((((wL.setCell ⟨zb, 0, none⟩ x1).setCell ⟨zb, 1, none⟩ x2).setCell ⟨zb, 2, none⟩ x3).drewN m) := by
  have hne : v.ownBlock ≠ some zb := ho.blk_ne hz (by decide)
  have hs := b2.size
  refine ⟨((((ho.set_other (a := ⟨zb, 0, none⟩) hne _).set_other (a := ⟨zb, 1, none⟩) hne _).set_other (a := ⟨zb, 2, none⟩) hne _).mono b2.size).drewN m, ?_⟩
  exact ((((b2.trans (hcl.mono b2.size)).setCell (by simp; omega) _).setCell (by simp; omega) _).setCell (by simp; omega) _).trans (below_drewN _ _ _)
theorem get_endA {w w3 wL : World} {n : Nat} {v : Value} {xs : List Value} (b2 : Below w.heap.size w w3) (hcl : Below w3.heap.size w3 wL) (ho : Own wL w3.heap.size 5 1 v n xs) (o : Obj) (m : Nat) :
    Own ((wL.alloc o).drewN m) w.heap.size 5 1 v n xs ∧ Below w.heap.size w ((wL.alloc o).drewN m) :=
  ⟨((ho.mono b2.size).alloc o).drewN m, ((b2.trans (hcl.mono b2.size)).alloc (Nat.le_trans b2.size hcl.size) o).trans (below_drewN _ _ _)⟩
theorem cell_drew {W : World} {a : Addr} {v : Value} (h : W.cell? a = some v) : W.drew.cell? a = some v := h
theorem lt_drew {W : World} {n : Nat} (h : n < W.heap.size) : n < W.drew.heap.size := h
theorem cell_alloc {W : World} {o : Obj} {g n : Nat} {v : Value} (hlt : g < W.heap.size) (h : W.cell? ⟨g, n, none⟩ = some v) : (W.alloc o).cell? ⟨g, n, none⟩ = some v :=
  (World.cell?_of_block (w := W) (Below.heap_alloc W o g hlt)).trans h

theorem get_f (c : Col) (h1 : c.k ≠ 15) (h2 : c.k ≠ 16) {W : Nat} (hW : widthOf c.k = (W : Int)) (hc : COK c) (B D E X : SL) (vals : List Value) (i : Nat) (hr : checkC c = 0) (hi : (i : Int) < c.n) (hnl : nullB c.bits i = false) (b : Nat) (tx : List Int) (w : World) (h : RdC w c B D E X vals) (hv : ∀ w2, Below w.heap.size w w2 → Calls Try.prog 140 #[(.agg #[.int .i64 (W : Int)]), colV c B D E X, .int .i64 (i : Int)] w2 (ValP b tx w2)) : Calls Try.prog 19 #[colV c B D E X, .int .i64 (i : Int)] w (GetP b tx w) := by
  have HBW := Aside.mk (below_new w (.cells #[.int .i64 c.k, .int .i64 c.s, .int .i64 c.n, .int .i64 c.m, .slice B.a c.bits.length B.c, .slice D.a c.data.length D.c, .slice E.a c.ends.length E.c, .slice X.a c.words.length X.c] 43))
  have hck := Aside.mk (fun (w2 : World) (hb : Below w.heap.size w w2) => check_any c hc B D E X vals w2 (h.below hb))
  have hnull := Aside.mk (fun (w2 : World) (hb : Below w.heap.size w w2) => null_any c B D E X i (check_bits hr hi) hc.bits hc.lb w2 (h.bits.below hb))
  have hval := Aside.mk hv
  rw [hr] at hck
  rw [hnl] at hnull
  clear h hr hnl hv
  have H1 := Aside.mk h1
  have H2 := Aside.mk h2
  have HWW := Aside.mk hW
  clear h1 h2 hW
  dsimp only [colV] at hck hnull hval ⊢
  have HX := Aside.mk (heap_alloc_new w (.cells #[.int .i64 c.k, .int .i64 c.s, .int .i64 c.n, .int .i64 c.m, .slice B.a c.bits.length B.c, .slice D.a c.data.length D.c, .slice E.a c.ends.length E.c, .slice X.a c.words.length X.c] 43))
  go_enter Try.func19, Try.ntmps19
  go_wp2_with (first | (go_at_call 30; refine (hck.out _ HBW.out).mono ?_; rintro e w2 ⟨rfl, hb2⟩; replace HX := Aside.mk ((hb2.block _ (lt_of_blk HX.out)).trans HX.out); obtain ⟨c0, c1, c2, c3, c4, c5, c6, c7⟩ := box8 HX.out; have B2 := Aside.mk (HBW.out.trans (hb2.mono HBW.out.size)); clear hb2) | (go_at_call 56; refine (hnull.out _ B2.out).mono ?_; rintro e w3 ⟨rfl, hb3⟩; replace HX := Aside.mk ((hb3.block _ (lt_of_blk HX.out)).trans HX.out); replace B2 := Aside.mk (B2.out.trans (hb3.mono B2.out.size)); clear hb3 c0 c1 c2 c3 c4 c5 c6 c7))
  obtain ⟨p0, p1, p2, p3, p4, p5, p6, p7⟩ := box8 HX.out
  have hlt := lt_of_blk HX.out
  have hmeth := meth_f
  go_region_held3 (fun w' => w'.cell? ⟨w.heap.size, 0, none⟩ = some (.int .i64 c.k) ∧ w'.cell? ⟨w.heap.size, 1, none⟩ = some (.int .i64 c.s) ∧ w'.cell? ⟨w.heap.size, 2, none⟩ = some (.int .i64 c.n) ∧ w'.cell? ⟨w.heap.size, 3, none⟩ = some (.int .i64 c.m) ∧ w'.cell? ⟨w.heap.size, 4, none⟩ = some (.slice B.a c.bits.length B.c) ∧ w'.cell? ⟨w.heap.size, 5, none⟩ = some (.slice D.a c.data.length D.c) ∧ w'.cell? ⟨w.heap.size, 6, none⟩ = some (.slice E.a c.ends.length E.c) ∧ w'.cell? ⟨w.heap.size, 7, none⟩ = some (.slice X.a c.words.length X.c))
    (first | (refine ⟨?_, ?_, ?_, ?_, ?_, ?_, ?_, ?_⟩ <;> with_reducible assumption) | (refine ⟨?_, ?_, ?_, ?_, ?_, ?_, ?_, ?_⟩ <;> with_reducible exact cell_drew (by assumption)) | (refine ⟨?_, ?_, ?_, ?_, ?_, ?_, ?_, ?_⟩ <;> with_reducible exact cell_alloc (by first | assumption | exact lt_drew (by assumption)) (by first | assumption | exact cell_drew (by assumption))) | (refine ⟨?_, ?_, ?_, ?_, ?_, ?_, ?_, ?_⟩ <;> with_reducible exact cell_set3 (by omega) (by first | assumption | exact cell_alloc (by assumption) (by assumption))) | (refine ⟨?_, ?_, ?_, ?_, ?_, ?_, ?_, ?_⟩ <;> exact cell_alloc (by assumption) (by assumption)))
    (first
      | (go_at_call 57; refine (of_f c.k c.s H1.out H2.out HWW.out _).mono ?_; rintro e wK ⟨rfl, hbK⟩; (first | (guard_hyp hbK : Below w3.drew.heap.size w3.drew wK; have hcK : Below w3.heap.size w3 wK := undrew hbK) | (have hcK : Below w3.heap.size w3 wK := below_chain ((below_drew1 w3).alloc (Nat.le_refl _) _) hbK; have hz : wK.heap[w3.heap.size]? = some (.cells #[.int .u64 0, .slice none 0 0, .bool false] 102 (0, 0)) := (hbK.block _ (lt_of_blk (heap_alloc_new w3.drew (.cells #[.int .u64 0, .slice none 0 0, .bool false] 102)))).trans (heap_alloc_new w3.drew (.cells #[.int .u64 0, .slice none 0 0, .bool false] 102)))); obtain ⟨k0, k1, k2, k3, k4, k5, k6, k7⟩ := box8 ((hcK.block _ hlt).trans HX.out); have hltK := Nat.lt_of_lt_of_le hlt hcK.size)
      | (go_at_call 140; refine (hval.out _ (B2.out.trans (Below.mono (by first | (with_reducible exact hcK) | exact hcK.alloc hcK.size _) B2.out.size))).mono ?_; rintro e wL ⟨va, vc, rfl, ho, hbL⟩; (first | (guard_hyp hbL : Below wK.heap.size wK wL; have hcL : Below w3.heap.size w3 wL := below_chain hcK hbL; have hoK : w3.heap.size ≤ wK.heap.size := hcK.size; have HO := Aside.mk (ho.mono hoK); (first | (replace hz := (hbL.block _ (lt_of_blk hz)).trans hz) | skip)) | (have hcL : Below w3.heap.size w3 wL := below_chain (hcK.alloc hcK.size _) hbL; have HO := Aside.mk (ho.mono (base' := w3.heap.size) (by have := hcK.size; simp; omega)); have hz := (hbL.block _ (lt_of_blk (heap_alloc_new wK (.cells #[.int .u64 0, .slice none 0 0, .bool false] 102)))).trans (heap_alloc_new wK (.cells #[.int .u64 0, .slice none 0 0, .bool false] 102)))); obtain ⟨l0, l1, l2, l3, l4, l5, l6, l7⟩ := box8 ((hcL.block _ hlt).trans HX.out); have hltL := Nat.lt_of_lt_of_le hlt hcL.size; clear ho; have HCL := Aside.mk hcL; (first | (have z0 := cell_blk (k := 0) hz; have z1 := cell_blk (k := 1) hz; have z2 := cell_blk (k := 2) hz; have y0 := frozen_blk (k := 0) hz; have y1 := frozen_blk (k := 1) hz; have y2 := frozen_blk (k := 2) hz; simp at z0 z1 z2; have HZ := Aside.mk hz; clear hz) | skip)))
  all_goals
    go_wp2
    go_quiet (fail)
    go_wp2
    refine bodyPost_ret (v := .tuple #[.int .u64 (b : Int), .slice va tx.length vc, .bool false, .int .i64 0]) (by simp [results, Try.results19, go_sem]) rfl ?_
    refine ⟨va, vc, rfl, ?_⟩
    first
      | exact get_end B2.out HCL.out (Nat.le_refl _) HZ.out HO.out _
      | exact get_end B2.out HCL.out hcK.size HZ.out HO.out _
      | exact get_endA B2.out HCL.out HO.out _ _

theorem get_c (c : Col) (hk : c.k = 16) (hc : COK c) (B D E X : SL) (vals : List Value) (i : Nat) (hr : checkC c = 0) (hi : (i : Int) < c.n) (hnl : nullB c.bits i = false) (b : Nat) (tx : List Int) (w : World) (h : RdC w c B D E X vals) (hv : ∀ w2, Below w.heap.size w w2 → Calls Try.prog 143 #[(.agg #[.int .i64 4]), colV c B D E X, .int .i64 (i : Int)] w2 (ValP b tx w2)) : Calls Try.prog 19 #[colV c B D E X, .int .i64 (i : Int)] w (GetP b tx w) := by
  have HBW := Aside.mk (below_new w (.cells #[.int .i64 16, .int .i64 c.s, .int .i64 c.n, .int .i64 c.m, .slice B.a c.bits.length B.c, .slice D.a c.data.length D.c, .slice E.a c.ends.length E.c, .slice X.a c.words.length X.c] 43))
  have hck := Aside.mk (fun (w2 : World) (hb : Below w.heap.size w w2) => check_any c hc B D E X vals w2 (h.below hb))
  have hnull := Aside.mk (fun (w2 : World) (hb : Below w.heap.size w w2) => null_any c B D E X i (check_bits hr hi) hc.bits hc.lb w2 (h.bits.below hb))
  have hval := Aside.mk hv
  rw [hr] at hck
  rw [hnl] at hnull
  clear h hr hnl hv
  have HCV := (show colV c B D E X = .agg #[.int .i64 16, .int .i64 c.s, .int .i64 c.n, .int .i64 c.m, .slice B.a c.bits.length B.c, .slice D.a c.data.length D.c, .slice E.a c.ends.length E.c, .slice X.a c.words.length X.c] by rw [colV, hk])
  rw [HCV] at hck hnull hval ⊢
  clear hk HCV
  have HX := Aside.mk (heap_alloc_new w (.cells #[.int .i64 16, .int .i64 c.s, .int .i64 c.n, .int .i64 c.m, .slice B.a c.bits.length B.c, .slice D.a c.data.length D.c, .slice E.a c.ends.length E.c, .slice X.a c.words.length X.c] 43))
  go_enter Try.func19, Try.ntmps19
  go_wp2_with (first | (go_at_call 30; refine (hck.out _ HBW.out).mono ?_; rintro e w2 ⟨rfl, hb2⟩; replace HX := Aside.mk ((hb2.block _ (lt_of_blk HX.out)).trans HX.out); obtain ⟨c0, c1, c2, c3, c4, c5, c6, c7⟩ := box8 HX.out; have B2 := Aside.mk (HBW.out.trans (hb2.mono HBW.out.size)); clear hb2) | (go_at_call 56; refine (hnull.out _ B2.out).mono ?_; rintro e w3 ⟨rfl, hb3⟩; replace HX := Aside.mk ((hb3.block _ (lt_of_blk HX.out)).trans HX.out); replace B2 := Aside.mk (B2.out.trans (hb3.mono B2.out.size)); clear hb3 c0 c1 c2 c3 c4 c5 c6 c7))
  obtain ⟨p0, p1, p2, p3, p4, p5, p6, p7⟩ := box8 HX.out
  have hlt := lt_of_blk HX.out
  have hmeth := meth_c
  go_region_held3 (fun w' => w'.cell? ⟨w.heap.size, 0, none⟩ = some (.int .i64 16) ∧ w'.cell? ⟨w.heap.size, 1, none⟩ = some (.int .i64 c.s) ∧ w'.cell? ⟨w.heap.size, 2, none⟩ = some (.int .i64 c.n) ∧ w'.cell? ⟨w.heap.size, 3, none⟩ = some (.int .i64 c.m) ∧ w'.cell? ⟨w.heap.size, 4, none⟩ = some (.slice B.a c.bits.length B.c) ∧ w'.cell? ⟨w.heap.size, 5, none⟩ = some (.slice D.a c.data.length D.c) ∧ w'.cell? ⟨w.heap.size, 6, none⟩ = some (.slice E.a c.ends.length E.c) ∧ w'.cell? ⟨w.heap.size, 7, none⟩ = some (.slice X.a c.words.length X.c))
    (first | (refine ⟨?_, ?_, ?_, ?_, ?_, ?_, ?_, ?_⟩ <;> with_reducible assumption) | (refine ⟨?_, ?_, ?_, ?_, ?_, ?_, ?_, ?_⟩ <;> with_reducible exact cell_drew (by assumption)) | (refine ⟨?_, ?_, ?_, ?_, ?_, ?_, ?_, ?_⟩ <;> with_reducible exact cell_alloc (by first | assumption | exact lt_drew (by assumption)) (by first | assumption | exact cell_drew (by assumption))) | (refine ⟨?_, ?_, ?_, ?_, ?_, ?_, ?_, ?_⟩ <;> with_reducible exact cell_set3 (by omega) (by first | assumption | exact cell_alloc (by assumption) (by assumption))) | (refine ⟨?_, ?_, ?_, ?_, ?_, ?_, ?_, ?_⟩ <;> exact cell_alloc (by assumption) (by assumption)))
    (first
      | (go_at_call 57; refine (of_c c.s _).mono ?_; rintro e wK ⟨rfl, hbK⟩; (first | (guard_hyp hbK : Below w3.drew.heap.size w3.drew wK; have hcK : Below w3.heap.size w3 wK := undrew hbK) | (have hcK : Below w3.heap.size w3 wK := below_chain ((below_drew1 w3).alloc (Nat.le_refl _) _) hbK; have hz : wK.heap[w3.heap.size]? = some (.cells #[.int .u64 0, .slice none 0 0, .bool false] 102 (0, 0)) := (hbK.block _ (lt_of_blk (heap_alloc_new w3.drew (.cells #[.int .u64 0, .slice none 0 0, .bool false] 102)))).trans (heap_alloc_new w3.drew (.cells #[.int .u64 0, .slice none 0 0, .bool false] 102)))); obtain ⟨k0, k1, k2, k3, k4, k5, k6, k7⟩ := box8 ((hcK.block _ hlt).trans HX.out); have hltK := Nat.lt_of_lt_of_le hlt hcK.size)
      | (go_at_call 143; refine (hval.out _ (B2.out.trans (Below.mono (by first | (with_reducible exact hcK) | exact hcK.alloc hcK.size _) B2.out.size))).mono ?_; rintro e wL ⟨va, vc, rfl, ho, hbL⟩; (first | (guard_hyp hbL : Below wK.heap.size wK wL; have hcL : Below w3.heap.size w3 wL := below_chain hcK hbL; have hoK : w3.heap.size ≤ wK.heap.size := hcK.size; have HO := Aside.mk (ho.mono hoK); (first | (replace hz := (hbL.block _ (lt_of_blk hz)).trans hz) | skip)) | (have hcL : Below w3.heap.size w3 wL := below_chain (hcK.alloc hcK.size _) hbL; have HO := Aside.mk (ho.mono (base' := w3.heap.size) (by have := hcK.size; simp; omega)); have hz := (hbL.block _ (lt_of_blk (heap_alloc_new wK (.cells #[.int .u64 0, .slice none 0 0, .bool false] 102)))).trans (heap_alloc_new wK (.cells #[.int .u64 0, .slice none 0 0, .bool false] 102)))); obtain ⟨l0, l1, l2, l3, l4, l5, l6, l7⟩ := box8 ((hcL.block _ hlt).trans HX.out); have hltL := Nat.lt_of_lt_of_le hlt hcL.size; clear ho; have HCL := Aside.mk hcL; (first | (have z0 := cell_blk (k := 0) hz; have z1 := cell_blk (k := 1) hz; have z2 := cell_blk (k := 2) hz; have y0 := frozen_blk (k := 0) hz; have y1 := frozen_blk (k := 1) hz; have y2 := frozen_blk (k := 2) hz; simp at z0 z1 z2; have HZ := Aside.mk hz; clear hz) | skip)))
  all_goals
    go_wp2
    go_quiet (fail)
    go_wp2
    refine bodyPost_ret (v := .tuple #[.int .u64 (b : Int), .slice va tx.length vc, .bool false, .int .i64 0]) (by simp [results, Try.results19, go_sem]) rfl ?_
    refine ⟨va, vc, rfl, ?_⟩
    first
      | exact get_end B2.out HCL.out (Nat.le_refl _) HZ.out HO.out _
      | exact get_end B2.out HCL.out hcK.size HZ.out HO.out _
      | exact get_endA B2.out HCL.out HO.out _ _

theorem get_r (c : Col) (hk : c.k = 15) (hc : COK c) (B D E X : SL) (vals : List Value) (i : Nat) (hr : checkC c = 0) (hi : (i : Int) < c.n) (hnl : nullB c.bits i = false) (b : Nat) (tx : List Int) (w : World) (h : RdC w c B D E X vals) (hv : ∀ w2, Below w.heap.size w w2 → Calls Try.prog 138 #[(.agg #[]), colV c B D E X, .int .i64 (i : Int)] w2 (ValP b tx w2)) : Calls Try.prog 19 #[colV c B D E X, .int .i64 (i : Int)] w (GetP b tx w) := by
  have HBW := Aside.mk (below_new w (.cells #[.int .i64 15, .int .i64 c.s, .int .i64 c.n, .int .i64 c.m, .slice B.a c.bits.length B.c, .slice D.a c.data.length D.c, .slice E.a c.ends.length E.c, .slice X.a c.words.length X.c] 43))
  have hck := Aside.mk (fun (w2 : World) (hb : Below w.heap.size w w2) => check_any c hc B D E X vals w2 (h.below hb))
  have hnull := Aside.mk (fun (w2 : World) (hb : Below w.heap.size w w2) => null_any c B D E X i (check_bits hr hi) hc.bits hc.lb w2 (h.bits.below hb))
  have hval := Aside.mk hv
  rw [hr] at hck
  rw [hnl] at hnull
  clear h hr hnl hv
  have HCV := (show colV c B D E X = .agg #[.int .i64 15, .int .i64 c.s, .int .i64 c.n, .int .i64 c.m, .slice B.a c.bits.length B.c, .slice D.a c.data.length D.c, .slice E.a c.ends.length E.c, .slice X.a c.words.length X.c] by rw [colV, hk])
  rw [HCV] at hck hnull hval ⊢
  clear hk HCV
  have HX := Aside.mk (heap_alloc_new w (.cells #[.int .i64 15, .int .i64 c.s, .int .i64 c.n, .int .i64 c.m, .slice B.a c.bits.length B.c, .slice D.a c.data.length D.c, .slice E.a c.ends.length E.c, .slice X.a c.words.length X.c] 43))
  go_enter Try.func19, Try.ntmps19
  go_wp2_with (first | (go_at_call 30; refine (hck.out _ HBW.out).mono ?_; rintro e w2 ⟨rfl, hb2⟩; replace HX := Aside.mk ((hb2.block _ (lt_of_blk HX.out)).trans HX.out); obtain ⟨c0, c1, c2, c3, c4, c5, c6, c7⟩ := box8 HX.out; have B2 := Aside.mk (HBW.out.trans (hb2.mono HBW.out.size)); clear hb2) | (go_at_call 56; refine (hnull.out _ B2.out).mono ?_; rintro e w3 ⟨rfl, hb3⟩; replace HX := Aside.mk ((hb3.block _ (lt_of_blk HX.out)).trans HX.out); replace B2 := Aside.mk (B2.out.trans (hb3.mono B2.out.size)); clear hb3 c0 c1 c2 c3 c4 c5 c6 c7))
  obtain ⟨p0, p1, p2, p3, p4, p5, p6, p7⟩ := box8 HX.out
  have hlt := lt_of_blk HX.out
  have hmeth := meth_r
  go_region_held3 (fun w' => w'.cell? ⟨w.heap.size, 0, none⟩ = some (.int .i64 15) ∧ w'.cell? ⟨w.heap.size, 1, none⟩ = some (.int .i64 c.s) ∧ w'.cell? ⟨w.heap.size, 2, none⟩ = some (.int .i64 c.n) ∧ w'.cell? ⟨w.heap.size, 3, none⟩ = some (.int .i64 c.m) ∧ w'.cell? ⟨w.heap.size, 4, none⟩ = some (.slice B.a c.bits.length B.c) ∧ w'.cell? ⟨w.heap.size, 5, none⟩ = some (.slice D.a c.data.length D.c) ∧ w'.cell? ⟨w.heap.size, 6, none⟩ = some (.slice E.a c.ends.length E.c) ∧ w'.cell? ⟨w.heap.size, 7, none⟩ = some (.slice X.a c.words.length X.c))
    (first | (refine ⟨?_, ?_, ?_, ?_, ?_, ?_, ?_, ?_⟩ <;> with_reducible assumption) | (refine ⟨?_, ?_, ?_, ?_, ?_, ?_, ?_, ?_⟩ <;> with_reducible exact cell_drew (by assumption)) | (refine ⟨?_, ?_, ?_, ?_, ?_, ?_, ?_, ?_⟩ <;> with_reducible exact cell_alloc (by first | assumption | exact lt_drew (by assumption)) (by first | assumption | exact cell_drew (by assumption))) | (refine ⟨?_, ?_, ?_, ?_, ?_, ?_, ?_, ?_⟩ <;> with_reducible exact cell_set3 (by omega) (by first | assumption | exact cell_alloc (by assumption) (by assumption))) | (refine ⟨?_, ?_, ?_, ?_, ?_, ?_, ?_, ?_⟩ <;> exact cell_alloc (by assumption) (by assumption)))
    (first
      | (go_at_call 57; refine (of_r c.s _).mono ?_; rintro e wK ⟨rfl, hbK⟩; (first | (guard_hyp hbK : Below w3.drew.heap.size w3.drew wK; have hcK : Below w3.heap.size w3 wK := undrew hbK) | (have hcK : Below w3.heap.size w3 wK := below_chain ((below_drew1 w3).alloc (Nat.le_refl _) _) hbK; have hz : wK.heap[w3.heap.size]? = some (.cells #[.int .u64 0, .slice none 0 0, .bool false] 102 (0, 0)) := (hbK.block _ (lt_of_blk (heap_alloc_new w3.drew (.cells #[.int .u64 0, .slice none 0 0, .bool false] 102)))).trans (heap_alloc_new w3.drew (.cells #[.int .u64 0, .slice none 0 0, .bool false] 102)))); obtain ⟨k0, k1, k2, k3, k4, k5, k6, k7⟩ := box8 ((hcK.block _ hlt).trans HX.out); have hltK := Nat.lt_of_lt_of_le hlt hcK.size)
      | (go_at_call 138; refine (hval.out _ (B2.out.trans (Below.mono (by first | (with_reducible exact hcK) | exact hcK.alloc hcK.size _) B2.out.size))).mono ?_; rintro e wL ⟨va, vc, rfl, ho, hbL⟩; (first | (guard_hyp hbL : Below wK.heap.size wK wL; have hcL : Below w3.heap.size w3 wL := below_chain hcK hbL; have hoK : w3.heap.size ≤ wK.heap.size := hcK.size; have HO := Aside.mk (ho.mono hoK); (first | (replace hz := (hbL.block _ (lt_of_blk hz)).trans hz) | skip)) | (have hcL : Below w3.heap.size w3 wL := below_chain (hcK.alloc hcK.size _) hbL; have HO := Aside.mk (ho.mono (base' := w3.heap.size) (by have := hcK.size; simp; omega)); have hz := (hbL.block _ (lt_of_blk (heap_alloc_new wK (.cells #[.int .u64 0, .slice none 0 0, .bool false] 102)))).trans (heap_alloc_new wK (.cells #[.int .u64 0, .slice none 0 0, .bool false] 102)))); obtain ⟨l0, l1, l2, l3, l4, l5, l6, l7⟩ := box8 ((hcL.block _ hlt).trans HX.out); have hltL := Nat.lt_of_lt_of_le hlt hcL.size; clear ho; have HCL := Aside.mk hcL; (first | (have z0 := cell_blk (k := 0) hz; have z1 := cell_blk (k := 1) hz; have z2 := cell_blk (k := 2) hz; have y0 := frozen_blk (k := 0) hz; have y1 := frozen_blk (k := 1) hz; have y2 := frozen_blk (k := 2) hz; simp at z0 z1 z2; have HZ := Aside.mk hz; clear hz) | skip)))
  all_goals
    go_wp2
    go_quiet (fail)
    go_wp2
    refine bodyPost_ret (v := .tuple #[.int .u64 (b : Int), .slice va tx.length vc, .bool false, .int .i64 0]) (by simp [results, Try.results19, go_sem]) rfl ?_
    refine ⟨va, vc, rfl, ?_⟩
    first
      | exact get_end B2.out HCL.out (Nat.le_refl _) HZ.out HO.out _
      | exact get_end B2.out HCL.out hcK.size HZ.out HO.out _
      | exact get_endA B2.out HCL.out HO.out _ _
end Go.Proofs.Ytmhjjhaipcgbiaa


/- column.Get of any value of a column that may be; mintagekeep.Same. -/
namespace Go.Proofs.Ytmhjjhaipcgbiaa
open Go.RowKit
set_option linter.unusedVariables false
set_option linter.unusedSimpArgs false
set_option maxRecDepth 100000
set_option maxHeartbeats 1000000

theorem own_addr {w : World} {base : Nat} {E : TypeId} {sz n c : Nat} {a : Option Addr} {xs : List Value} (h : Own w base E sz (.slice a n c) n xs) : a = none ∨ ∃ g off, a = some ⟨g, off, none⟩ := by
  rcases h.2 with ⟨e, _⟩ | ⟨g, off, cap, cur, e, _⟩
  · simp only [Value.slice.injEq] at e; exact .inl e.1
  · simp only [Value.slice.injEq] at e; exact .inr ⟨g, off, e.1⟩

theorem get_value (c : Col) (hc : COK c) (B D E X : SL) (vals : List Value) (i : Nat) (hr : checkC c = 0) (hi : (i : Int) < c.n) (hnl : nullB c.bits i = false) (hDa : D.a = none ∨ ∃ g off, D.a = some ⟨g, off, none⟩) (w : World) (h : RdC w c B D E X vals) :
    Calls Try.prog 19 #[colV c B D E X, .int .i64 (i : Int)] w (GetP (valueC c i).1 (valueC c i).2 w) := by
  obtain ⟨ho, _, _, _⟩ := check_zero hr
  by_cases h15 : c.k = 15
  · obtain ⟨hn, _⟩ := running_facts hr h15
    have hie : i < c.ends.length := by omega
    obtain ⟨f, t, e1, e2, hft, htd⟩ := check_ends hr h15 i hie
    have ev : valueC c i = (0, (c.data.drop f).take (t - f)) := by
      unfold valueC
      rw [if_pos h15, e1, e2, Int.toNat_natCast]
      congr 2
      omega
    rw [ev]
    refine get_r c h15 hc B D E X vals i hr hi hnl 0 _ w h (fun w2 hb => ?_)
    rcases hDa with hD | ⟨g, off, hD⟩
    · obtain ⟨_, a, cap, e, _, _, h0, _⟩ := h.data
      simp only [Value.slice.injEq, true_and] at e
      have hd0 := (h0 (by rw [← e.1, hD])).1
      obtain rfl : t = 0 := by omega
      obtain rfl : f = 0 := by omega
      have := value_r0 c hc B D E X vals i hie (by simpa using e1) (by simpa using e2) hD w2 (h.below hb)
      simpa using this
    · exact value_r c hc B D E X vals i f t hie e1 e2 hft htd g off hD w2 (h.below hb)
  by_cases h16 : c.k = 16
  · have hx := check_code hr h16 hi hnl
    have hs := (coded_facts hr h16).1
    have ev : valueC c i = (0, c.words.getD (wordAt c.data (i * 4) 4) []) := by
      unfold valueC
      rw [if_neg h15, if_pos h16]
    rw [ev]
    exact get_c c h16 hc B D E X vals i hr hi hnl 0 _ w h (fun w2 hb => value_c c hc B D E X vals i (sized_room hs i (by omega)) hx w2 (h.below hb))
  · obtain ⟨W, hW, hW8⟩ := width_eight ho h15
    have ev : valueC c i = (wordAt c.data (i * W) W, []) := by
      unfold valueC
      rw [if_neg h15, if_neg h16, hW, Int.toNat_natCast]
    rw [ev]
    exact get_f c h15 h16 hW hc B D E X vals i hr hi hnl _ _ w h (fun w2 hb => value_f W hW8 c hc B D E X vals i (check_room hr h15 h16 hW hi) w2 (h.below hb))

theorem str_inj {a b : List Int} (ha : IsBytes a) (hb : IsBytes b) (h : strOfNums a = strOfNums b) : a = b :=
  wordKey_inj ha hb (by unfold wordKey; rw [h])

theorem same_bytes (xs ys : List Int) (A B : SL) (hx : IsBytes xs) (hy : IsBytes ys) (w : World) (ha : Rd w 1 (.slice A.a xs.length A.c) xs.length (xs.map (.int .u8))) (hb : Rd w 1 (.slice B.a ys.length B.c) ys.length (ys.map (.int .u8))) :
    Calls Try.prog 20 #[.slice A.a xs.length A.c, .slice B.a ys.length B.c] w fun e w' => e = .returned (.bool (decide (xs = ys))) ∧ w = w' := by
  have h1 := conv_any A.a _ A.c xs rfl w ha
  have h2 := conv_any B.a _ B.c ys rfl w hb
  have HD := Aside.mk (show ((strOfNums xs).toList == (strOfNums ys).toList) = decide (xs = ys) by
    rw [Bool.eq_iff_iff, beq_iff_eq, decide_eq_true_eq, ByteArray.toList_eq, ByteArray.toList_eq, strOfNums_data, strOfNums_data]
    exact ⟨map_byte_inj xs ys hx hy, fun h => by rw [h]⟩)
  clear ha hb
  generalize strOfNums xs = sx at *
  generalize strOfNums ys = sy at *
  generalize xs.length = n at *
  generalize ys.length = m at *
  go_enter Try.func20, Try.ntmps20
  go_wp2
  go_ret
  exact ⟨ret_bool HD.out, rfl⟩
end Go.Proofs.Ytmhjjhaipcgbiaa


/- column.Same. -/
namespace Go.Proofs.Ytmhjjhaipcgbiaa
open Go.RowKit
set_option linter.unusedVariables false
set_option linter.unusedSimpArgs false
set_option maxRecDepth 100000
set_option maxHeartbeats 4000000

/-- Both may be and hold the same. -/
def sameC (a b : Col) : Bool := decide (checkC a = 0 ∧ checkC b = 0 ∧ a.k = b.k ∧ a.s = b.s ∧ a.n = b.n ∧ a.bits = b.bits ∧ a.data = b.data ∧ a.ends = b.ends ∧ a.words = b.words)

theorem same_any (a b : Col) (ha : COK a) (hb : COK b) (B D E X B2 D2 E2 X2 : SL) (va vb : List Value) (w : World) (h : RdC w a B D E X va) (h2 : RdC w b B2 D2 E2 X2 vb) : Calls Try.prog 22 #[colV a B D E X, colV b B2 D2 E2 X2] w (BoolP (sameC a b) w) := by
  have hca := Aside.mk (fun (w2 : World) (hw : Below w.heap.size w w2) => check_any a ha B D E X va w2 (h.below hw))
  have hcb := Aside.mk (fun (w2 : World) (hw : Below w.heap.size w w2) => check_any b hb B2 D2 E2 X2 vb w2 (h2.below hw))
  have heb := Aside.mk (fun (w2 : World) (hw : Below w.heap.size w w2) => equal_bytes a.bits b.bits B B2 (Nat.le_trans ha.lb (by decide)) w2 (h.bits.below hw) (h2.bits.below hw))
  have hed := Aside.mk (fun (w2 : World) (hw : Below w.heap.size w w2) => equal_bytes a.data b.data D D2 (Nat.le_trans ha.ld (by decide)) w2 (h.data.below hw) (h2.data.below hw))
  have hee := Aside.mk (fun (w2 : World) (hw : Below w.heap.size w w2) => equal_ints a.ends b.ends E E2 (Nat.le_trans ha.le (by decide)) w2 (h.ends.below hw) (h2.ends.below hw))
  have hew := Aside.mk (fun (w2 : World) (hw : Below w.heap.size w w2) => equal_words a.words b.words X X2 va vb (Nat.le_trans ha.lw (by decide)) (fun t ht => (ha.words t ht).2) w2 (h.words.below hw) (h2.words.below hw) (h.each.below hw) (h2.each.below hw))
  have HS := Aside.mk (show sameC a b = decide (checkC a = 0 ∧ checkC b = 0 ∧ a.k = b.k ∧ a.s = b.s ∧ a.n = b.n ∧ a.bits = b.bits ∧ a.data = b.data ∧ a.ends = b.ends ∧ a.words = b.words) from rfl)
  clear h h2 ha hb
  dsimp only [colV] at hca hcb ⊢
  generalize checkC a = ra at *
  generalize checkC b = rb at *
  obtain ⟨tb, htb⟩ : ∃ tb, tb = decide (a.bits = b.bits) := ⟨_, rfl⟩
  rw [← htb] at heb
  have HTB := Aside.mk htb
  clear htb
  have BW := Aside.mk ((below_new w (.cells #[.int .i64 a.k, .int .i64 a.s, .int .i64 a.n, .int .i64 a.m, .slice B.a a.bits.length B.c, .slice D.a a.data.length D.c, .slice E.a a.ends.length E.c, .slice X.a a.words.length X.c] 43)).trans ((below_new _ (.cells #[.int .i64 b.k, .int .i64 b.s, .int .i64 b.n, .int .i64 b.m, .slice B2.a b.bits.length B2.c, .slice D2.a b.data.length D2.c, .slice E2.a b.ends.length E2.c, .slice X2.a b.words.length X2.c] 43)).mono (by simp)))
  have HXA := Aside.mk (show ((w.alloc (.cells #[.int .i64 a.k, .int .i64 a.s, .int .i64 a.n, .int .i64 a.m, .slice B.a a.bits.length B.c, .slice D.a a.data.length D.c, .slice E.a a.ends.length E.c, .slice X.a a.words.length X.c] 43)).alloc (.cells #[.int .i64 b.k, .int .i64 b.s, .int .i64 b.n, .int .i64 b.m, .slice B2.a b.bits.length B2.c, .slice D2.a b.data.length D2.c, .slice E2.a b.ends.length E2.c, .slice X2.a b.words.length X2.c] 43)).heap[w.heap.size]? = some (.cells #[.int .i64 a.k, .int .i64 a.s, .int .i64 a.n, .int .i64 a.m, .slice B.a a.bits.length B.c, .slice D.a a.data.length D.c, .slice E.a a.ends.length E.c, .slice X.a a.words.length X.c] 43 (0, 0)) by
    rw [Below.heap_alloc _ _ _ (by simp)]; exact heap_alloc_new w _)
  have HXB := Aside.mk (show ((w.alloc (.cells #[.int .i64 a.k, .int .i64 a.s, .int .i64 a.n, .int .i64 a.m, .slice B.a a.bits.length B.c, .slice D.a a.data.length D.c, .slice E.a a.ends.length E.c, .slice X.a a.words.length X.c] 43)).alloc (.cells #[.int .i64 b.k, .int .i64 b.s, .int .i64 b.n, .int .i64 b.m, .slice B2.a b.bits.length B2.c, .slice D2.a b.data.length D2.c, .slice E2.a b.ends.length E2.c, .slice X2.a b.words.length X2.c] 43)).heap[w.heap.size + 1]? = some (.cells #[.int .i64 b.k, .int .i64 b.s, .int .i64 b.n, .int .i64 b.m, .slice B2.a b.bits.length B2.c, .slice D2.a b.data.length D2.c, .slice E2.a b.ends.length E2.c, .slice X2.a b.words.length X2.c] 43 (0, 0)) by
    simpa using heap_alloc_new (w.alloc (.cells #[.int .i64 a.k, .int .i64 a.s, .int .i64 a.n, .int .i64 a.m, .slice B.a a.bits.length B.c, .slice D.a a.data.length D.c, .slice E.a a.ends.length E.c, .slice X.a a.words.length X.c] 43)) (.cells #[.int .i64 b.k, .int .i64 b.s, .int .i64 b.n, .int .i64 b.m, .slice B2.a b.bits.length B2.c, .slice D2.a b.data.length D2.c, .slice E2.a b.ends.length E2.c, .slice X2.a b.words.length X2.c] 43))
  go_enter Try.func22, Try.ntmps22
  go_wp2_with fail
  generalize ((w.alloc (.cells #[.int .i64 a.k, .int .i64 a.s, .int .i64 a.n, .int .i64 a.m, .slice B.a a.bits.length B.c, .slice D.a a.data.length D.c, .slice E.a a.ends.length E.c, .slice X.a a.words.length X.c] 43)).alloc (.cells #[.int .i64 b.k, .int .i64 b.s, .int .i64 b.n, .int .i64 b.m, .slice B2.a b.bits.length B2.c, .slice D2.a b.data.length D2.c, .slice E2.a b.ends.length E2.c, .slice X2.a b.words.length X2.c] 43)) = w1 at *
  refine (hca.out _ BW.out).mono ?_
  rintro e w2 ⟨rfl, hb2⟩
  replace BW := Aside.mk (BW.out.trans (hb2.mono BW.out.size)); replace HXA := Aside.mk ((hb2.block _ (lt_of_blk HXA.out)).trans HXA.out); replace HXB := Aside.mk ((hb2.block _ (lt_of_blk HXB.out)).trans HXB.out); obtain ⟨p0, p1, p2, p3, p4, p5, p6, p7⟩ := box8 HXA.out; obtain ⟨q0, q1, q2, q3, q4, q5, q6, q7⟩ := box8 HXB.out; clear hb2
  clear hca
  by_cases h1 : ra = 0
  rotate_left
  · have HF := Aside.mk (show false = sameC a b by rw [HS.out]; simp [h1])
    have h1' : (ra == 0) = false := by simpa using h1
    clear h1
    go_wp2_with (first | (go_at_call 30; first | (refine (hca.out _ BW.out).mono ?_; rintro e w2 ⟨rfl, hb2⟩; clear hca; replace BW := Aside.mk (BW.out.trans (hb2.mono BW.out.size)); replace HXA := Aside.mk ((hb2.block _ (lt_of_blk HXA.out)).trans HXA.out); replace HXB := Aside.mk ((hb2.block _ (lt_of_blk HXB.out)).trans HXB.out); obtain ⟨p0, p1, p2, p3, p4, p5, p6, p7⟩ := box8 HXA.out; obtain ⟨q0, q1, q2, q3, q4, q5, q6, q7⟩ := box8 HXB.out; clear hb2) | (refine (hcb.out _ BW.out).mono ?_; rintro e w2 ⟨rfl, hb2⟩; replace BW := Aside.mk (BW.out.trans (hb2.mono BW.out.size)); replace HXA := Aside.mk ((hb2.block _ (lt_of_blk HXA.out)).trans HXA.out); replace HXB := Aside.mk ((hb2.block _ (lt_of_blk HXB.out)).trans HXB.out); obtain ⟨p0, p1, p2, p3, p4, p5, p6, p7⟩ := box8 HXA.out; obtain ⟨q0, q1, q2, q3, q4, q5, q6, q7⟩ := box8 HXB.out; clear hb2)) | (go_at_call 58; first | (refine (heb.out _ BW.out).mono ?_; rintro e w2 ⟨rfl, hb2⟩; clear heb; replace BW := Aside.mk (BW.out.trans (hb2.mono BW.out.size)); replace HXA := Aside.mk ((hb2.block _ (lt_of_blk HXA.out)).trans HXA.out); replace HXB := Aside.mk ((hb2.block _ (lt_of_blk HXB.out)).trans HXB.out); obtain ⟨p0, p1, p2, p3, p4, p5, p6, p7⟩ := box8 HXA.out; obtain ⟨q0, q1, q2, q3, q4, q5, q6, q7⟩ := box8 HXB.out; clear hb2) | (refine (hed.out _ BW.out).mono ?_; rintro e w2 ⟨rfl, hb2⟩; replace BW := Aside.mk (BW.out.trans (hb2.mono BW.out.size)); replace HXA := Aside.mk ((hb2.block _ (lt_of_blk HXA.out)).trans HXA.out); replace HXB := Aside.mk ((hb2.block _ (lt_of_blk HXB.out)).trans HXB.out); obtain ⟨p0, p1, p2, p3, p4, p5, p6, p7⟩ := box8 HXA.out; obtain ⟨q0, q1, q2, q3, q4, q5, q6, q7⟩ := box8 HXB.out; clear hb2)) | (go_at_call 59; refine (hee.out _ BW.out).mono ?_; rintro e w2 ⟨rfl, hb2⟩; replace BW := Aside.mk (BW.out.trans (hb2.mono BW.out.size)); replace HXA := Aside.mk ((hb2.block _ (lt_of_blk HXA.out)).trans HXA.out); replace HXB := Aside.mk ((hb2.block _ (lt_of_blk HXB.out)).trans HXB.out); obtain ⟨p0, p1, p2, p3, p4, p5, p6, p7⟩ := box8 HXA.out; obtain ⟨q0, q1, q2, q3, q4, q5, q6, q7⟩ := box8 HXB.out; clear hb2) | (go_at_call 60; refine (hew.out _ BW.out).mono ?_; rintro e w2 ⟨rfl, hb2⟩; replace BW := Aside.mk (BW.out.trans (hb2.mono BW.out.size)); replace HXA := Aside.mk ((hb2.block _ (lt_of_blk HXA.out)).trans HXA.out); replace HXB := Aside.mk ((hb2.block _ (lt_of_blk HXB.out)).trans HXB.out); obtain ⟨p0, p1, p2, p3, p4, p5, p6, p7⟩ := box8 HXA.out; obtain ⟨q0, q1, q2, q3, q4, q5, q6, q7⟩ := box8 HXB.out; clear hb2))
    go_ret
    exact ⟨ret_bool HF.out, BW.out⟩
  have h1' : (ra == 0) = true := by simpa using h1
  by_cases h2 : rb = 0
  rotate_left
  · have HF := Aside.mk (show false = sameC a b by rw [HS.out]; simp [h2])
    have h2' : (rb == 0) = false := by simpa using h2
    clear h2
    go_wp2_with (first | (go_at_call 30; first | (refine (hca.out _ BW.out).mono ?_; rintro e w2 ⟨rfl, hb2⟩; clear hca; replace BW := Aside.mk (BW.out.trans (hb2.mono BW.out.size)); replace HXA := Aside.mk ((hb2.block _ (lt_of_blk HXA.out)).trans HXA.out); replace HXB := Aside.mk ((hb2.block _ (lt_of_blk HXB.out)).trans HXB.out); obtain ⟨p0, p1, p2, p3, p4, p5, p6, p7⟩ := box8 HXA.out; obtain ⟨q0, q1, q2, q3, q4, q5, q6, q7⟩ := box8 HXB.out; clear hb2) | (refine (hcb.out _ BW.out).mono ?_; rintro e w2 ⟨rfl, hb2⟩; replace BW := Aside.mk (BW.out.trans (hb2.mono BW.out.size)); replace HXA := Aside.mk ((hb2.block _ (lt_of_blk HXA.out)).trans HXA.out); replace HXB := Aside.mk ((hb2.block _ (lt_of_blk HXB.out)).trans HXB.out); obtain ⟨p0, p1, p2, p3, p4, p5, p6, p7⟩ := box8 HXA.out; obtain ⟨q0, q1, q2, q3, q4, q5, q6, q7⟩ := box8 HXB.out; clear hb2)) | (go_at_call 58; first | (refine (heb.out _ BW.out).mono ?_; rintro e w2 ⟨rfl, hb2⟩; clear heb; replace BW := Aside.mk (BW.out.trans (hb2.mono BW.out.size)); replace HXA := Aside.mk ((hb2.block _ (lt_of_blk HXA.out)).trans HXA.out); replace HXB := Aside.mk ((hb2.block _ (lt_of_blk HXB.out)).trans HXB.out); obtain ⟨p0, p1, p2, p3, p4, p5, p6, p7⟩ := box8 HXA.out; obtain ⟨q0, q1, q2, q3, q4, q5, q6, q7⟩ := box8 HXB.out; clear hb2) | (refine (hed.out _ BW.out).mono ?_; rintro e w2 ⟨rfl, hb2⟩; replace BW := Aside.mk (BW.out.trans (hb2.mono BW.out.size)); replace HXA := Aside.mk ((hb2.block _ (lt_of_blk HXA.out)).trans HXA.out); replace HXB := Aside.mk ((hb2.block _ (lt_of_blk HXB.out)).trans HXB.out); obtain ⟨p0, p1, p2, p3, p4, p5, p6, p7⟩ := box8 HXA.out; obtain ⟨q0, q1, q2, q3, q4, q5, q6, q7⟩ := box8 HXB.out; clear hb2)) | (go_at_call 59; refine (hee.out _ BW.out).mono ?_; rintro e w2 ⟨rfl, hb2⟩; replace BW := Aside.mk (BW.out.trans (hb2.mono BW.out.size)); replace HXA := Aside.mk ((hb2.block _ (lt_of_blk HXA.out)).trans HXA.out); replace HXB := Aside.mk ((hb2.block _ (lt_of_blk HXB.out)).trans HXB.out); obtain ⟨p0, p1, p2, p3, p4, p5, p6, p7⟩ := box8 HXA.out; obtain ⟨q0, q1, q2, q3, q4, q5, q6, q7⟩ := box8 HXB.out; clear hb2) | (go_at_call 60; refine (hew.out _ BW.out).mono ?_; rintro e w2 ⟨rfl, hb2⟩; replace BW := Aside.mk (BW.out.trans (hb2.mono BW.out.size)); replace HXA := Aside.mk ((hb2.block _ (lt_of_blk HXA.out)).trans HXA.out); replace HXB := Aside.mk ((hb2.block _ (lt_of_blk HXB.out)).trans HXB.out); obtain ⟨p0, p1, p2, p3, p4, p5, p6, p7⟩ := box8 HXA.out; obtain ⟨q0, q1, q2, q3, q4, q5, q6, q7⟩ := box8 HXB.out; clear hb2))
    go_ret
    exact ⟨ret_bool HF.out, BW.out⟩
  have h2' : (rb == 0) = true := by simpa using h2
  by_cases h3 : a.k = b.k
  rotate_left
  · have HF := Aside.mk (show false = sameC a b by rw [HS.out]; simp [h3])
    have h3' : (a.k == b.k) = false := by simpa using h3
    clear h3
    go_wp2_with (first | (go_at_call 30; first | (refine (hca.out _ BW.out).mono ?_; rintro e w2 ⟨rfl, hb2⟩; clear hca; replace BW := Aside.mk (BW.out.trans (hb2.mono BW.out.size)); replace HXA := Aside.mk ((hb2.block _ (lt_of_blk HXA.out)).trans HXA.out); replace HXB := Aside.mk ((hb2.block _ (lt_of_blk HXB.out)).trans HXB.out); obtain ⟨p0, p1, p2, p3, p4, p5, p6, p7⟩ := box8 HXA.out; obtain ⟨q0, q1, q2, q3, q4, q5, q6, q7⟩ := box8 HXB.out; clear hb2) | (refine (hcb.out _ BW.out).mono ?_; rintro e w2 ⟨rfl, hb2⟩; replace BW := Aside.mk (BW.out.trans (hb2.mono BW.out.size)); replace HXA := Aside.mk ((hb2.block _ (lt_of_blk HXA.out)).trans HXA.out); replace HXB := Aside.mk ((hb2.block _ (lt_of_blk HXB.out)).trans HXB.out); obtain ⟨p0, p1, p2, p3, p4, p5, p6, p7⟩ := box8 HXA.out; obtain ⟨q0, q1, q2, q3, q4, q5, q6, q7⟩ := box8 HXB.out; clear hb2)) | (go_at_call 58; first | (refine (heb.out _ BW.out).mono ?_; rintro e w2 ⟨rfl, hb2⟩; clear heb; replace BW := Aside.mk (BW.out.trans (hb2.mono BW.out.size)); replace HXA := Aside.mk ((hb2.block _ (lt_of_blk HXA.out)).trans HXA.out); replace HXB := Aside.mk ((hb2.block _ (lt_of_blk HXB.out)).trans HXB.out); obtain ⟨p0, p1, p2, p3, p4, p5, p6, p7⟩ := box8 HXA.out; obtain ⟨q0, q1, q2, q3, q4, q5, q6, q7⟩ := box8 HXB.out; clear hb2) | (refine (hed.out _ BW.out).mono ?_; rintro e w2 ⟨rfl, hb2⟩; replace BW := Aside.mk (BW.out.trans (hb2.mono BW.out.size)); replace HXA := Aside.mk ((hb2.block _ (lt_of_blk HXA.out)).trans HXA.out); replace HXB := Aside.mk ((hb2.block _ (lt_of_blk HXB.out)).trans HXB.out); obtain ⟨p0, p1, p2, p3, p4, p5, p6, p7⟩ := box8 HXA.out; obtain ⟨q0, q1, q2, q3, q4, q5, q6, q7⟩ := box8 HXB.out; clear hb2)) | (go_at_call 59; refine (hee.out _ BW.out).mono ?_; rintro e w2 ⟨rfl, hb2⟩; replace BW := Aside.mk (BW.out.trans (hb2.mono BW.out.size)); replace HXA := Aside.mk ((hb2.block _ (lt_of_blk HXA.out)).trans HXA.out); replace HXB := Aside.mk ((hb2.block _ (lt_of_blk HXB.out)).trans HXB.out); obtain ⟨p0, p1, p2, p3, p4, p5, p6, p7⟩ := box8 HXA.out; obtain ⟨q0, q1, q2, q3, q4, q5, q6, q7⟩ := box8 HXB.out; clear hb2) | (go_at_call 60; refine (hew.out _ BW.out).mono ?_; rintro e w2 ⟨rfl, hb2⟩; replace BW := Aside.mk (BW.out.trans (hb2.mono BW.out.size)); replace HXA := Aside.mk ((hb2.block _ (lt_of_blk HXA.out)).trans HXA.out); replace HXB := Aside.mk ((hb2.block _ (lt_of_blk HXB.out)).trans HXB.out); obtain ⟨p0, p1, p2, p3, p4, p5, p6, p7⟩ := box8 HXA.out; obtain ⟨q0, q1, q2, q3, q4, q5, q6, q7⟩ := box8 HXB.out; clear hb2))
    go_ret
    exact ⟨ret_bool HF.out, BW.out⟩
  have h3' : (a.k == b.k) = true := by simpa using h3
  by_cases h4 : a.s = b.s
  rotate_left
  · have HF := Aside.mk (show false = sameC a b by rw [HS.out]; simp [h4])
    have h4' : (a.s == b.s) = false := by simpa using h4
    clear h4
    go_wp2_with (first | (go_at_call 30; first | (refine (hca.out _ BW.out).mono ?_; rintro e w2 ⟨rfl, hb2⟩; clear hca; replace BW := Aside.mk (BW.out.trans (hb2.mono BW.out.size)); replace HXA := Aside.mk ((hb2.block _ (lt_of_blk HXA.out)).trans HXA.out); replace HXB := Aside.mk ((hb2.block _ (lt_of_blk HXB.out)).trans HXB.out); obtain ⟨p0, p1, p2, p3, p4, p5, p6, p7⟩ := box8 HXA.out; obtain ⟨q0, q1, q2, q3, q4, q5, q6, q7⟩ := box8 HXB.out; clear hb2) | (refine (hcb.out _ BW.out).mono ?_; rintro e w2 ⟨rfl, hb2⟩; replace BW := Aside.mk (BW.out.trans (hb2.mono BW.out.size)); replace HXA := Aside.mk ((hb2.block _ (lt_of_blk HXA.out)).trans HXA.out); replace HXB := Aside.mk ((hb2.block _ (lt_of_blk HXB.out)).trans HXB.out); obtain ⟨p0, p1, p2, p3, p4, p5, p6, p7⟩ := box8 HXA.out; obtain ⟨q0, q1, q2, q3, q4, q5, q6, q7⟩ := box8 HXB.out; clear hb2)) | (go_at_call 58; first | (refine (heb.out _ BW.out).mono ?_; rintro e w2 ⟨rfl, hb2⟩; clear heb; replace BW := Aside.mk (BW.out.trans (hb2.mono BW.out.size)); replace HXA := Aside.mk ((hb2.block _ (lt_of_blk HXA.out)).trans HXA.out); replace HXB := Aside.mk ((hb2.block _ (lt_of_blk HXB.out)).trans HXB.out); obtain ⟨p0, p1, p2, p3, p4, p5, p6, p7⟩ := box8 HXA.out; obtain ⟨q0, q1, q2, q3, q4, q5, q6, q7⟩ := box8 HXB.out; clear hb2) | (refine (hed.out _ BW.out).mono ?_; rintro e w2 ⟨rfl, hb2⟩; replace BW := Aside.mk (BW.out.trans (hb2.mono BW.out.size)); replace HXA := Aside.mk ((hb2.block _ (lt_of_blk HXA.out)).trans HXA.out); replace HXB := Aside.mk ((hb2.block _ (lt_of_blk HXB.out)).trans HXB.out); obtain ⟨p0, p1, p2, p3, p4, p5, p6, p7⟩ := box8 HXA.out; obtain ⟨q0, q1, q2, q3, q4, q5, q6, q7⟩ := box8 HXB.out; clear hb2)) | (go_at_call 59; refine (hee.out _ BW.out).mono ?_; rintro e w2 ⟨rfl, hb2⟩; replace BW := Aside.mk (BW.out.trans (hb2.mono BW.out.size)); replace HXA := Aside.mk ((hb2.block _ (lt_of_blk HXA.out)).trans HXA.out); replace HXB := Aside.mk ((hb2.block _ (lt_of_blk HXB.out)).trans HXB.out); obtain ⟨p0, p1, p2, p3, p4, p5, p6, p7⟩ := box8 HXA.out; obtain ⟨q0, q1, q2, q3, q4, q5, q6, q7⟩ := box8 HXB.out; clear hb2) | (go_at_call 60; refine (hew.out _ BW.out).mono ?_; rintro e w2 ⟨rfl, hb2⟩; replace BW := Aside.mk (BW.out.trans (hb2.mono BW.out.size)); replace HXA := Aside.mk ((hb2.block _ (lt_of_blk HXA.out)).trans HXA.out); replace HXB := Aside.mk ((hb2.block _ (lt_of_blk HXB.out)).trans HXB.out); obtain ⟨p0, p1, p2, p3, p4, p5, p6, p7⟩ := box8 HXA.out; obtain ⟨q0, q1, q2, q3, q4, q5, q6, q7⟩ := box8 HXB.out; clear hb2))
    go_ret
    exact ⟨ret_bool HF.out, BW.out⟩
  have h4' : (a.s == b.s) = true := by simpa using h4
  by_cases h5 : a.n = b.n
  rotate_left
  · have HF := Aside.mk (show false = sameC a b by rw [HS.out]; simp [h5])
    have h5' : (a.n == b.n) = false := by simpa using h5
    clear h5
    go_wp2_with (first | (go_at_call 30; first | (refine (hca.out _ BW.out).mono ?_; rintro e w2 ⟨rfl, hb2⟩; clear hca; replace BW := Aside.mk (BW.out.trans (hb2.mono BW.out.size)); replace HXA := Aside.mk ((hb2.block _ (lt_of_blk HXA.out)).trans HXA.out); replace HXB := Aside.mk ((hb2.block _ (lt_of_blk HXB.out)).trans HXB.out); obtain ⟨p0, p1, p2, p3, p4, p5, p6, p7⟩ := box8 HXA.out; obtain ⟨q0, q1, q2, q3, q4, q5, q6, q7⟩ := box8 HXB.out; clear hb2) | (refine (hcb.out _ BW.out).mono ?_; rintro e w2 ⟨rfl, hb2⟩; replace BW := Aside.mk (BW.out.trans (hb2.mono BW.out.size)); replace HXA := Aside.mk ((hb2.block _ (lt_of_blk HXA.out)).trans HXA.out); replace HXB := Aside.mk ((hb2.block _ (lt_of_blk HXB.out)).trans HXB.out); obtain ⟨p0, p1, p2, p3, p4, p5, p6, p7⟩ := box8 HXA.out; obtain ⟨q0, q1, q2, q3, q4, q5, q6, q7⟩ := box8 HXB.out; clear hb2)) | (go_at_call 58; first | (refine (heb.out _ BW.out).mono ?_; rintro e w2 ⟨rfl, hb2⟩; clear heb; replace BW := Aside.mk (BW.out.trans (hb2.mono BW.out.size)); replace HXA := Aside.mk ((hb2.block _ (lt_of_blk HXA.out)).trans HXA.out); replace HXB := Aside.mk ((hb2.block _ (lt_of_blk HXB.out)).trans HXB.out); obtain ⟨p0, p1, p2, p3, p4, p5, p6, p7⟩ := box8 HXA.out; obtain ⟨q0, q1, q2, q3, q4, q5, q6, q7⟩ := box8 HXB.out; clear hb2) | (refine (hed.out _ BW.out).mono ?_; rintro e w2 ⟨rfl, hb2⟩; replace BW := Aside.mk (BW.out.trans (hb2.mono BW.out.size)); replace HXA := Aside.mk ((hb2.block _ (lt_of_blk HXA.out)).trans HXA.out); replace HXB := Aside.mk ((hb2.block _ (lt_of_blk HXB.out)).trans HXB.out); obtain ⟨p0, p1, p2, p3, p4, p5, p6, p7⟩ := box8 HXA.out; obtain ⟨q0, q1, q2, q3, q4, q5, q6, q7⟩ := box8 HXB.out; clear hb2)) | (go_at_call 59; refine (hee.out _ BW.out).mono ?_; rintro e w2 ⟨rfl, hb2⟩; replace BW := Aside.mk (BW.out.trans (hb2.mono BW.out.size)); replace HXA := Aside.mk ((hb2.block _ (lt_of_blk HXA.out)).trans HXA.out); replace HXB := Aside.mk ((hb2.block _ (lt_of_blk HXB.out)).trans HXB.out); obtain ⟨p0, p1, p2, p3, p4, p5, p6, p7⟩ := box8 HXA.out; obtain ⟨q0, q1, q2, q3, q4, q5, q6, q7⟩ := box8 HXB.out; clear hb2) | (go_at_call 60; refine (hew.out _ BW.out).mono ?_; rintro e w2 ⟨rfl, hb2⟩; replace BW := Aside.mk (BW.out.trans (hb2.mono BW.out.size)); replace HXA := Aside.mk ((hb2.block _ (lt_of_blk HXA.out)).trans HXA.out); replace HXB := Aside.mk ((hb2.block _ (lt_of_blk HXB.out)).trans HXB.out); obtain ⟨p0, p1, p2, p3, p4, p5, p6, p7⟩ := box8 HXA.out; obtain ⟨q0, q1, q2, q3, q4, q5, q6, q7⟩ := box8 HXB.out; clear hb2))
    go_ret
    exact ⟨ret_bool HF.out, BW.out⟩
  have h5' : (a.n == b.n) = true := by simpa using h5
  have h6 : ∀ r : Bool, r = (tb && decide (a.data = b.data) && decide (a.ends = b.ends) && decide (a.words = b.words)) → r = sameC a b := fun r hr => by
    rw [HS.out, hr, HTB.out]
    simp [h1, h2, h3, h4, h5, Bool.and_assoc]
  have H6 := Aside.mk h6
  clear h1 h2 h3 h4 h5 h6
  generalize decide (a.data = b.data) = td at *
  generalize decide (a.ends = b.ends) = te at *
  generalize decide (a.words = b.words) = tw at *
  cases tb with
  | false =>
    go_wp2_with (first | (go_at_call 30; first | (refine (hca.out _ BW.out).mono ?_; rintro e w2 ⟨rfl, hb2⟩; clear hca; replace BW := Aside.mk (BW.out.trans (hb2.mono BW.out.size)); replace HXA := Aside.mk ((hb2.block _ (lt_of_blk HXA.out)).trans HXA.out); replace HXB := Aside.mk ((hb2.block _ (lt_of_blk HXB.out)).trans HXB.out); obtain ⟨p0, p1, p2, p3, p4, p5, p6, p7⟩ := box8 HXA.out; obtain ⟨q0, q1, q2, q3, q4, q5, q6, q7⟩ := box8 HXB.out; clear hb2) | (refine (hcb.out _ BW.out).mono ?_; rintro e w2 ⟨rfl, hb2⟩; replace BW := Aside.mk (BW.out.trans (hb2.mono BW.out.size)); replace HXA := Aside.mk ((hb2.block _ (lt_of_blk HXA.out)).trans HXA.out); replace HXB := Aside.mk ((hb2.block _ (lt_of_blk HXB.out)).trans HXB.out); obtain ⟨p0, p1, p2, p3, p4, p5, p6, p7⟩ := box8 HXA.out; obtain ⟨q0, q1, q2, q3, q4, q5, q6, q7⟩ := box8 HXB.out; clear hb2)) | (go_at_call 58; first | (refine (heb.out _ BW.out).mono ?_; rintro e w2 ⟨rfl, hb2⟩; clear heb; replace BW := Aside.mk (BW.out.trans (hb2.mono BW.out.size)); replace HXA := Aside.mk ((hb2.block _ (lt_of_blk HXA.out)).trans HXA.out); replace HXB := Aside.mk ((hb2.block _ (lt_of_blk HXB.out)).trans HXB.out); obtain ⟨p0, p1, p2, p3, p4, p5, p6, p7⟩ := box8 HXA.out; obtain ⟨q0, q1, q2, q3, q4, q5, q6, q7⟩ := box8 HXB.out; clear hb2) | (refine (hed.out _ BW.out).mono ?_; rintro e w2 ⟨rfl, hb2⟩; replace BW := Aside.mk (BW.out.trans (hb2.mono BW.out.size)); replace HXA := Aside.mk ((hb2.block _ (lt_of_blk HXA.out)).trans HXA.out); replace HXB := Aside.mk ((hb2.block _ (lt_of_blk HXB.out)).trans HXB.out); obtain ⟨p0, p1, p2, p3, p4, p5, p6, p7⟩ := box8 HXA.out; obtain ⟨q0, q1, q2, q3, q4, q5, q6, q7⟩ := box8 HXB.out; clear hb2)) | (go_at_call 59; refine (hee.out _ BW.out).mono ?_; rintro e w2 ⟨rfl, hb2⟩; replace BW := Aside.mk (BW.out.trans (hb2.mono BW.out.size)); replace HXA := Aside.mk ((hb2.block _ (lt_of_blk HXA.out)).trans HXA.out); replace HXB := Aside.mk ((hb2.block _ (lt_of_blk HXB.out)).trans HXB.out); obtain ⟨p0, p1, p2, p3, p4, p5, p6, p7⟩ := box8 HXA.out; obtain ⟨q0, q1, q2, q3, q4, q5, q6, q7⟩ := box8 HXB.out; clear hb2) | (go_at_call 60; refine (hew.out _ BW.out).mono ?_; rintro e w2 ⟨rfl, hb2⟩; replace BW := Aside.mk (BW.out.trans (hb2.mono BW.out.size)); replace HXA := Aside.mk ((hb2.block _ (lt_of_blk HXA.out)).trans HXA.out); replace HXB := Aside.mk ((hb2.block _ (lt_of_blk HXB.out)).trans HXB.out); obtain ⟨p0, p1, p2, p3, p4, p5, p6, p7⟩ := box8 HXA.out; obtain ⟨q0, q1, q2, q3, q4, q5, q6, q7⟩ := box8 HXB.out; clear hb2))
    go_ret
    exact ⟨ret_bool (H6.out _ (by simp)), BW.out⟩
  | true =>
    cases td with
    | false =>
      go_wp2_with (first | (go_at_call 30; first | (refine (hca.out _ BW.out).mono ?_; rintro e w2 ⟨rfl, hb2⟩; clear hca; replace BW := Aside.mk (BW.out.trans (hb2.mono BW.out.size)); replace HXA := Aside.mk ((hb2.block _ (lt_of_blk HXA.out)).trans HXA.out); replace HXB := Aside.mk ((hb2.block _ (lt_of_blk HXB.out)).trans HXB.out); obtain ⟨p0, p1, p2, p3, p4, p5, p6, p7⟩ := box8 HXA.out; obtain ⟨q0, q1, q2, q3, q4, q5, q6, q7⟩ := box8 HXB.out; clear hb2) | (refine (hcb.out _ BW.out).mono ?_; rintro e w2 ⟨rfl, hb2⟩; replace BW := Aside.mk (BW.out.trans (hb2.mono BW.out.size)); replace HXA := Aside.mk ((hb2.block _ (lt_of_blk HXA.out)).trans HXA.out); replace HXB := Aside.mk ((hb2.block _ (lt_of_blk HXB.out)).trans HXB.out); obtain ⟨p0, p1, p2, p3, p4, p5, p6, p7⟩ := box8 HXA.out; obtain ⟨q0, q1, q2, q3, q4, q5, q6, q7⟩ := box8 HXB.out; clear hb2)) | (go_at_call 58; first | (refine (heb.out _ BW.out).mono ?_; rintro e w2 ⟨rfl, hb2⟩; clear heb; replace BW := Aside.mk (BW.out.trans (hb2.mono BW.out.size)); replace HXA := Aside.mk ((hb2.block _ (lt_of_blk HXA.out)).trans HXA.out); replace HXB := Aside.mk ((hb2.block _ (lt_of_blk HXB.out)).trans HXB.out); obtain ⟨p0, p1, p2, p3, p4, p5, p6, p7⟩ := box8 HXA.out; obtain ⟨q0, q1, q2, q3, q4, q5, q6, q7⟩ := box8 HXB.out; clear hb2) | (refine (hed.out _ BW.out).mono ?_; rintro e w2 ⟨rfl, hb2⟩; replace BW := Aside.mk (BW.out.trans (hb2.mono BW.out.size)); replace HXA := Aside.mk ((hb2.block _ (lt_of_blk HXA.out)).trans HXA.out); replace HXB := Aside.mk ((hb2.block _ (lt_of_blk HXB.out)).trans HXB.out); obtain ⟨p0, p1, p2, p3, p4, p5, p6, p7⟩ := box8 HXA.out; obtain ⟨q0, q1, q2, q3, q4, q5, q6, q7⟩ := box8 HXB.out; clear hb2)) | (go_at_call 59; refine (hee.out _ BW.out).mono ?_; rintro e w2 ⟨rfl, hb2⟩; replace BW := Aside.mk (BW.out.trans (hb2.mono BW.out.size)); replace HXA := Aside.mk ((hb2.block _ (lt_of_blk HXA.out)).trans HXA.out); replace HXB := Aside.mk ((hb2.block _ (lt_of_blk HXB.out)).trans HXB.out); obtain ⟨p0, p1, p2, p3, p4, p5, p6, p7⟩ := box8 HXA.out; obtain ⟨q0, q1, q2, q3, q4, q5, q6, q7⟩ := box8 HXB.out; clear hb2) | (go_at_call 60; refine (hew.out _ BW.out).mono ?_; rintro e w2 ⟨rfl, hb2⟩; replace BW := Aside.mk (BW.out.trans (hb2.mono BW.out.size)); replace HXA := Aside.mk ((hb2.block _ (lt_of_blk HXA.out)).trans HXA.out); replace HXB := Aside.mk ((hb2.block _ (lt_of_blk HXB.out)).trans HXB.out); obtain ⟨p0, p1, p2, p3, p4, p5, p6, p7⟩ := box8 HXA.out; obtain ⟨q0, q1, q2, q3, q4, q5, q6, q7⟩ := box8 HXB.out; clear hb2))
      go_ret
      exact ⟨ret_bool (H6.out _ (by simp)), BW.out⟩
    | true =>
      cases te with
      | false =>
        go_wp2_with (first | (go_at_call 30; first | (refine (hca.out _ BW.out).mono ?_; rintro e w2 ⟨rfl, hb2⟩; clear hca; replace BW := Aside.mk (BW.out.trans (hb2.mono BW.out.size)); replace HXA := Aside.mk ((hb2.block _ (lt_of_blk HXA.out)).trans HXA.out); replace HXB := Aside.mk ((hb2.block _ (lt_of_blk HXB.out)).trans HXB.out); obtain ⟨p0, p1, p2, p3, p4, p5, p6, p7⟩ := box8 HXA.out; obtain ⟨q0, q1, q2, q3, q4, q5, q6, q7⟩ := box8 HXB.out; clear hb2) | (refine (hcb.out _ BW.out).mono ?_; rintro e w2 ⟨rfl, hb2⟩; replace BW := Aside.mk (BW.out.trans (hb2.mono BW.out.size)); replace HXA := Aside.mk ((hb2.block _ (lt_of_blk HXA.out)).trans HXA.out); replace HXB := Aside.mk ((hb2.block _ (lt_of_blk HXB.out)).trans HXB.out); obtain ⟨p0, p1, p2, p3, p4, p5, p6, p7⟩ := box8 HXA.out; obtain ⟨q0, q1, q2, q3, q4, q5, q6, q7⟩ := box8 HXB.out; clear hb2)) | (go_at_call 58; first | (refine (heb.out _ BW.out).mono ?_; rintro e w2 ⟨rfl, hb2⟩; clear heb; replace BW := Aside.mk (BW.out.trans (hb2.mono BW.out.size)); replace HXA := Aside.mk ((hb2.block _ (lt_of_blk HXA.out)).trans HXA.out); replace HXB := Aside.mk ((hb2.block _ (lt_of_blk HXB.out)).trans HXB.out); obtain ⟨p0, p1, p2, p3, p4, p5, p6, p7⟩ := box8 HXA.out; obtain ⟨q0, q1, q2, q3, q4, q5, q6, q7⟩ := box8 HXB.out; clear hb2) | (refine (hed.out _ BW.out).mono ?_; rintro e w2 ⟨rfl, hb2⟩; replace BW := Aside.mk (BW.out.trans (hb2.mono BW.out.size)); replace HXA := Aside.mk ((hb2.block _ (lt_of_blk HXA.out)).trans HXA.out); replace HXB := Aside.mk ((hb2.block _ (lt_of_blk HXB.out)).trans HXB.out); obtain ⟨p0, p1, p2, p3, p4, p5, p6, p7⟩ := box8 HXA.out; obtain ⟨q0, q1, q2, q3, q4, q5, q6, q7⟩ := box8 HXB.out; clear hb2)) | (go_at_call 59; refine (hee.out _ BW.out).mono ?_; rintro e w2 ⟨rfl, hb2⟩; replace BW := Aside.mk (BW.out.trans (hb2.mono BW.out.size)); replace HXA := Aside.mk ((hb2.block _ (lt_of_blk HXA.out)).trans HXA.out); replace HXB := Aside.mk ((hb2.block _ (lt_of_blk HXB.out)).trans HXB.out); obtain ⟨p0, p1, p2, p3, p4, p5, p6, p7⟩ := box8 HXA.out; obtain ⟨q0, q1, q2, q3, q4, q5, q6, q7⟩ := box8 HXB.out; clear hb2) | (go_at_call 60; refine (hew.out _ BW.out).mono ?_; rintro e w2 ⟨rfl, hb2⟩; replace BW := Aside.mk (BW.out.trans (hb2.mono BW.out.size)); replace HXA := Aside.mk ((hb2.block _ (lt_of_blk HXA.out)).trans HXA.out); replace HXB := Aside.mk ((hb2.block _ (lt_of_blk HXB.out)).trans HXB.out); obtain ⟨p0, p1, p2, p3, p4, p5, p6, p7⟩ := box8 HXA.out; obtain ⟨q0, q1, q2, q3, q4, q5, q6, q7⟩ := box8 HXB.out; clear hb2))
        go_ret
        exact ⟨ret_bool (H6.out _ (by simp)), BW.out⟩
      | true =>
        go_wp2_with (first | (go_at_call 30; first | (refine (hca.out _ BW.out).mono ?_; rintro e w2 ⟨rfl, hb2⟩; clear hca; replace BW := Aside.mk (BW.out.trans (hb2.mono BW.out.size)); replace HXA := Aside.mk ((hb2.block _ (lt_of_blk HXA.out)).trans HXA.out); replace HXB := Aside.mk ((hb2.block _ (lt_of_blk HXB.out)).trans HXB.out); obtain ⟨p0, p1, p2, p3, p4, p5, p6, p7⟩ := box8 HXA.out; obtain ⟨q0, q1, q2, q3, q4, q5, q6, q7⟩ := box8 HXB.out; clear hb2) | (refine (hcb.out _ BW.out).mono ?_; rintro e w2 ⟨rfl, hb2⟩; replace BW := Aside.mk (BW.out.trans (hb2.mono BW.out.size)); replace HXA := Aside.mk ((hb2.block _ (lt_of_blk HXA.out)).trans HXA.out); replace HXB := Aside.mk ((hb2.block _ (lt_of_blk HXB.out)).trans HXB.out); obtain ⟨p0, p1, p2, p3, p4, p5, p6, p7⟩ := box8 HXA.out; obtain ⟨q0, q1, q2, q3, q4, q5, q6, q7⟩ := box8 HXB.out; clear hb2)) | (go_at_call 58; first | (refine (heb.out _ BW.out).mono ?_; rintro e w2 ⟨rfl, hb2⟩; clear heb; replace BW := Aside.mk (BW.out.trans (hb2.mono BW.out.size)); replace HXA := Aside.mk ((hb2.block _ (lt_of_blk HXA.out)).trans HXA.out); replace HXB := Aside.mk ((hb2.block _ (lt_of_blk HXB.out)).trans HXB.out); obtain ⟨p0, p1, p2, p3, p4, p5, p6, p7⟩ := box8 HXA.out; obtain ⟨q0, q1, q2, q3, q4, q5, q6, q7⟩ := box8 HXB.out; clear hb2) | (refine (hed.out _ BW.out).mono ?_; rintro e w2 ⟨rfl, hb2⟩; replace BW := Aside.mk (BW.out.trans (hb2.mono BW.out.size)); replace HXA := Aside.mk ((hb2.block _ (lt_of_blk HXA.out)).trans HXA.out); replace HXB := Aside.mk ((hb2.block _ (lt_of_blk HXB.out)).trans HXB.out); obtain ⟨p0, p1, p2, p3, p4, p5, p6, p7⟩ := box8 HXA.out; obtain ⟨q0, q1, q2, q3, q4, q5, q6, q7⟩ := box8 HXB.out; clear hb2)) | (go_at_call 59; refine (hee.out _ BW.out).mono ?_; rintro e w2 ⟨rfl, hb2⟩; replace BW := Aside.mk (BW.out.trans (hb2.mono BW.out.size)); replace HXA := Aside.mk ((hb2.block _ (lt_of_blk HXA.out)).trans HXA.out); replace HXB := Aside.mk ((hb2.block _ (lt_of_blk HXB.out)).trans HXB.out); obtain ⟨p0, p1, p2, p3, p4, p5, p6, p7⟩ := box8 HXA.out; obtain ⟨q0, q1, q2, q3, q4, q5, q6, q7⟩ := box8 HXB.out; clear hb2) | (go_at_call 60; refine (hew.out _ BW.out).mono ?_; rintro e w2 ⟨rfl, hb2⟩; replace BW := Aside.mk (BW.out.trans (hb2.mono BW.out.size)); replace HXA := Aside.mk ((hb2.block _ (lt_of_blk HXA.out)).trans HXA.out); replace HXB := Aside.mk ((hb2.block _ (lt_of_blk HXB.out)).trans HXB.out); obtain ⟨p0, p1, p2, p3, p4, p5, p6, p7⟩ := box8 HXA.out; obtain ⟨q0, q1, q2, q3, q4, q5, q6, q7⟩ := box8 HXB.out; clear hb2))
        go_ret
        exact ⟨ret_bool (H6.out _ (by simp)), BW.out⟩
end Go.Proofs.Ytmhjjhaipcgbiaa


/- Within, Kind. -/
namespace Go.Proofs.Ytmhjjhaipcgbiaa
open Go.RowKit
set_option linter.unusedVariables false
set_option linter.unusedSimpArgs false
set_option maxRecDepth 100000
set_option maxHeartbeats 1000000

theorem tm_neg (n m : Int) (hm : 0 < m) (h : n.tmod m < 0) : n % m = n.tmod m + m ∧ -m < n.tmod m := by
  rw [Int.tmod_eq_emod] at *
  have := Int.emod_nonneg n (show m ≠ 0 by omega)
  have := Int.emod_lt_of_pos n hm
  split at h
  · omega
  · rename_i h2
    rw [if_neg h2]
    have : ((m.natAbs : Nat) : Int) = m := Int.natAbs_of_nonneg (by omega)
    have h3 : n % m ≠ 0 := fun e => h2 (.inr (Int.dvd_of_emod_eq_zero e))
    omega
theorem tm_pos (n m : Int) (hm : 0 < m) (h : ¬ n.tmod m < 0) : n % m = n.tmod m ∧ n.tmod m < m := by
  rw [Int.tmod_eq_emod] at *
  have := Int.emod_nonneg n (show m ≠ 0 by omega)
  have := Int.emod_lt_of_pos n hm
  split at h
  · rename_i h2
    rw [if_pos h2]
    omega
  · rename_i h2
    have : ((m.natAbs : Nat) : Int) = m := Int.natAbs_of_nonneg (by omega)
    omega

/-- A number within bounds, out of any. -/
def withinI (n lo hi : Int) : Int := lo + n % (hi - lo + 1)
theorem within_any (n lo hi : Int) (h0 : 0 ≤ lo) (h1 : lo ≤ hi) (h2 : hi ≤ 1000000) (w : World) : Calls Try.prog 21 #[.int .i64 n, .int .i64 lo, .int .i64 hi] w fun e w' => e = .returned (.int .i64 (withinI n lo hi)) ∧ w = w' := by
  have hm1' : 0 < hi - lo + 1 := by omega
  by_cases ht : n.tmod (hi - lo + 1) < 0
  · have hb := tm_neg n _ hm1' ht
    have hb1 : -1000001 < n.tmod (hi - lo + 1) := by omega
    have hb := Aside.mk hb
    go_enter Try.func21, Try.ntmps21
    go_wp2
    go_ret
    refine ⟨ret_int ?_, rfl⟩
    have := hb.out
    unfold withinI
    omega
  · have hb := tm_pos n _ hm1' ht
    have hb1 : n.tmod (hi - lo + 1) < 1000001 := by omega
    have hb := Aside.mk hb
    go_enter Try.func21, Try.ntmps21
    go_wp2
    go_ret
    refine ⟨ret_int ?_, rfl⟩
    have := hb.out
    unfold withinI
    omega

end Go.Proofs.Ytmhjjhaipcgbiaa


/- Kind: the type that a number leads to. -/
namespace Go.Proofs.Ytmhjjhaipcgbiaa
open Go.RowKit
set_option linter.unusedVariables false
set_option linter.unusedSimpArgs false
set_option maxRecDepth 100000
set_option maxHeartbeats 200000

theorem within_1 (n : Int) (w : World) : Calls Try.prog 21 #[.int .i64 n, .int .i64 1, .int .i64 16] w fun e w' => e = .returned (.int .i64 (withinI n 1 16)) ∧ w = w' := within_any n 1 16 (by omega) (by omega) (by omega) w
theorem within_0 (n : Int) (w : World) : Calls Try.prog 21 #[.int .i64 n, .int .i64 0, .int .i64 18] w fun e w' => e = .returned (.int .i64 (withinI n 0 18)) ∧ w = w' := within_any n 0 18 (by omega) (by omega) (by omega) w
/-- The type that a number leads to. -/
def kindI (n : Int) : Int := withinI n 1 16
def scaleI (n : Int) : Int := if kindI n = 12 then withinI (n / 16) 0 18 else 0
theorem kind_any (n : Int) (w : World) : Calls Try.prog 8 #[.int .i64 n] w fun e w' => e = .returned (.agg #[.int .i64 (kindI n), .int .i64 (scaleI n)]) ∧ Below w.heap.size w w' := by
  by_cases h : kindI n = 12
  · have hk : withinI n 1 16 = 12 := h
    have hs : Aside (scaleI n = withinI (n / 16) 0 18) := ⟨by unfold scaleI; rw [if_pos h]⟩
    have hk := Aside.mk hk
    clear h
    go_enter Try.func8, Try.ntmps8
    go_wp2_with (fail)
    refine (within_1 _ _).mono ?_
    rintro e w1 ⟨rfl, rfl⟩
    rw [hk.out]
    go_wp2_with (fail)
    refine (within_0 _ _).mono ?_
    rintro e w1 ⟨rfl, rfl⟩
    go_wp2_with (fail)
    refine bodyPost_ret (v := .agg #[.int .i64 12, .int .i64 (withinI (n / 16) 0 18)]) (by simp [results, Try.results8, go_sem]) rfl ⟨?_, (by repeat (first | exact Below.refl _ _ | assumption | (refine Below.drew ?_) | (refine Below.trans ?_ (below_drewN _ _ _)) | (refine Below.alloc ?_ (by first | omega | (simp; done) | (simp; omega)) _) | (refine Below.setCell ?_ (by first | omega | (simp; done) | (simp; omega)) _)))⟩
    rw [hs.out, kindI, hk.out]
  · have hk : (withinI n 1 16 == 12) = false := by simpa [kindI] using h
    have hs : Aside (scaleI n = 0) := ⟨by unfold scaleI; rw [if_neg h]⟩
    have hu : Aside (kindI n = withinI n 1 16) := ⟨rfl⟩
    clear h
    go_enter Try.func8, Try.ntmps8
    go_wp2_with (fail)
    refine (within_1 _ _).mono ?_
    rintro e w1 ⟨rfl, rfl⟩
    go_wp2_with (fail)
    refine bodyPost_ret (v := .agg #[.int .i64 (withinI n 1 16), .int .i64 0]) (by simp [results, Try.results8, go_sem]) rfl ⟨?_, (by repeat (first | exact Below.refl _ _ | assumption | (refine Below.drew ?_) | (refine Below.trans ?_ (below_drewN _ _ _)) | (refine Below.alloc ?_ (by first | omega | (simp; done) | (simp; omega)) _) | (refine Below.setCell ?_ (by first | omega | (simp; done) | (simp; omega)) _)))⟩
    rw [hs.out, hu.out]
theorem kind_ok (n : Int) : okType (kindI n) (scaleI n) = true := by
  unfold okType scaleI kindI withinI
  simp only [decide_eq_true_eq]
  split <;> omega
end Go.Proofs.Ytmhjjhaipcgbiaa


/- ColumnSays: the walk. (Printed by mksays.py.) -/
namespace Go.Proofs.Ytmhjjhaipcgbiaa
open Go.RowKit
set_option linter.unusedVariables false
set_option linter.unusedSimpArgs false
set_option maxRecDepth 100000
set_option maxHeartbeats 4000000

theorem few_of {k s : Int} {v : List V} (h1 : v.length ≤ 120) (h2 : ∀ x ∈ v, vOK k s x ∧ x.text.length ≤ 40) : Few v ∧ ∀ x ∈ v, vOK k s x :=
  ⟨⟨by omega, fun x hx => Nat.le_trans (h2 x hx).2 (by decide)⟩, fun x hx => (h2 x hx).1⟩

/-- What stays while the questions are asked: the type's box, the column's box, the column, the values. -/
structure SIn (k s : Int) (v : List V) (c : Col) (VA B D E X : SL) (vals xs : List Value) (tb cb base : Nat) (w wr : World) : Prop where
  sb : Below w.heap.size w wr
  st : wr.heap[tb]? = some (.cells #[.int .i64 k, .int .i64 s] 23 (0, 0))
  sc : wr.heap[cb]? = some (.cells #[.int .i64 c.k, .int .i64 c.s, .int .i64 c.n, .int .i64 c.m, .slice B.a c.bits.length B.c, .slice D.a c.data.length D.c, .slice E.a c.ends.length E.c, .slice X.a c.words.length X.c] 43 (0, 0))
  so : OwnC wr base c B D E X vals
  sv : OwnVs wr base VA v xs
theorem SIn.below {k s : Int} {v : List V} {c : Col} {VA B D E X : SL} {vals xs : List Value} {tb cb base : Nat} {w wr w2 : World} (h : SIn k s v c VA B D E X vals xs tb cb base w wr) (hb : Below wr.heap.size wr w2) : SIn k s v c VA B D E X vals xs tb cb base w w2 :=
  ⟨h.sb.trans (hb.mono h.sb.size), (hb.block _ (lt_of_blk h.st)).trans h.st, (hb.block _ (lt_of_blk h.sc)).trans h.sc, h.so.below hb, h.sv.below hb⟩

theorem ownvs_one {w : World} {base : Nat} {A : SL} {l : List V} {xs : List Value} (h : OwnVs w base A l xs) : ∀ u ∈ xs, u.oneCell' = true := by
  intro u hu
  obtain ⟨m, hm, rfl⟩ := List.mem_iff_getElem.1 hu
  have hl := h.row.1
  have hi : m / 3 < l.length := by omega
  obtain ⟨ta, tc, q0, q1, q2, _⟩ := h.each (m / 3) _ (List.getElem?_eq_getElem hi)
  have hg : xs[m]? = some xs[m] := List.getElem?_eq_getElem hm
  have h3 : m % 3 = 0 ∨ m % 3 = 1 ∨ m % 3 = 2 := by omega
  rcases h3 with h3 | h3 | h3
  · rw [show m / 3 * 3 = m by omega, hg] at q0; exact (Option.some.inj q0) ▸ rfl
  · rw [show m / 3 * 3 + 1 = m by omega, hg] at q1; exact (Option.some.inj q1) ▸ rfl
  · rw [show m / 3 * 3 + 2 = m by omega, hg] at q2; exact (Option.some.inj q2) ▸ rfl

theorem rdvs_set {w8 : World} {base g2 off2 cap : Nat} {v : List V} {xs : List Value} (hrow : Own w8 base 49 3 (.slice (some ⟨g2, off2, none⟩) v.length cap) v.length xs)
    (htx : ∀ (i : Nat) u, v[i]? = some u → ∃ ta tc, xs[i * 3]? = some (.bool u.null) ∧ xs[i * 3 + 1]? = some (.int .u64 (u.bits : Int)) ∧ xs[i * 3 + 2]? = some (.slice ta u.text.length tc) ∧ Own w8 0 5 1 (.slice ta u.text.length tc) u.text.length (u.text.map (.int .u8))) (j : Nat) (hj : j < v.length) (nb : Bool) :
    RdVs (((w8.setCell ⟨g2, off2 + j * 3, none⟩ (.bool nb)).setCell ⟨g2, off2 + j * 3 + 1, none⟩ (.int .u64 0)).setCell ⟨g2, off2 + j * 3 + 2, none⟩ (.slice none 0 0)) ⟨some ⟨g2, off2, none⟩, cap⟩ (v.set j ⟨nb, 0, []⟩) := by
  have h1 := ((hrow.stored (j * 3) (.bool nb)).stored (j * 3 + 1) (.int .u64 0)).stored (j * 3 + 2) (.slice none 0 0)
  have hxl : xs.length = v.length * 3 := hrow.1
  obtain ⟨cur, hg2⟩ := own_blk hrow (b := g2) rfl
  refine ⟨_, by simpa [Nat.add_assoc] using h1.rd, fun i u hu => ?_⟩
  rw [List.getElem?_set] at hu
  by_cases hij : j = i
  · subst hij
    rw [if_pos rfl, if_pos hj] at hu
    cases hu
    refine ⟨none, 0, ?_, ?_, ?_, Rd.nil _ 1⟩
    · rw [List.getElem?_set_ne (by omega), List.getElem?_set_ne (by omega), List.getElem?_set_self (by omega)]
    · rw [List.getElem?_set_ne (by omega), List.getElem?_set_self (by simp; omega)]; rfl
    · rw [List.getElem?_set_self (by simp; omega)]; rfl
  · rw [if_neg hij] at hu
    obtain ⟨ta, tc, q0, q1, q2, q3⟩ := htx i u hu
    have hne : Value.ownBlock (.slice ta u.text.length tc) ≠ some g2 := q3.blk_ne hg2 (by decide)
    refine ⟨ta, tc, ?_, ?_, ?_, (((q3.set_other (a := ⟨g2, off2 + j * 3, none⟩) hne _).set_other (a := ⟨g2, off2 + j * 3 + 1, none⟩) hne _).set_other (a := ⟨g2, off2 + j * 3 + 2, none⟩) hne _).rd⟩
    · rw [List.getElem?_set_ne (by omega), List.getElem?_set_ne (by omega), List.getElem?_set_ne (by omega)]; exact q0
    · rw [List.getElem?_set_ne (by omega), List.getElem?_set_ne (by omega), List.getElem?_set_ne (by omega)]; exact q1
    · rw [List.getElem?_set_ne (by omega), List.getElem?_set_ne (by omega), List.getElem?_set_ne (by omega)]; exact q2

/-- The other value at a place. -/
theorem other_ok {k s : Int} (ho : okType k s = true) {v : List V} (hf : Few v) (hl : ∀ x ∈ v, vOK k s x) (j : Nat) (nb : Bool) : Few (v.set j ⟨nb, 0, []⟩) ∧ ∀ x ∈ v.set j ⟨nb, 0, []⟩, vOK k s x := by
  refine ⟨⟨by simpa using hf.1, fun x hx => ?_⟩, fun x hx => ?_⟩
  · rcases List.mem_or_eq_of_mem_set hx with h | rfl
    · exact hf.2 x h
    · simp
  · rcases List.mem_or_eq_of_mem_set hx with h | rfl
    · exact hl x h
    · refine ⟨isBytes_nil, (show (0 : Nat) < 18446744073709551616 by decide), (fun _ => ⟨rfl, rfl⟩), (fun _ => ?_)⟩
      cases hw : wordedB k with
      | true => rw [if_pos rfl]
      | false => rw [if_neg (by decide)]; exact ⟨fits_zero ho hw, rfl⟩
theorem other_differs {k s : Int} {v : List V} {c d : Col} {j : Nat} {nb : Bool} (hj : j < v.length) (hnb : nb ≠ v[j].null) (hc : BF k s v c) (hd : BF k s (v.set j ⟨nb, 0, []⟩) d) : sameC c d = false := by
  unfold sameC
  rw [decide_eq_false_iff_not]
  rintro ⟨_, _, _, _, _, h, _⟩
  rw [hc.bits, hd.bits] at h
  have := mof_inj (by simp) h
  have h2 := congrArg (fun x => x[j]?) this
  simp only [List.getElem?_map, List.getElem?_set_self hj, List.getElem?_eq_getElem hj, Option.map_some, Option.some.injEq] at h2
  exact hnb h2.symm
theorem same_self {k s : Int} {v : List V} {c : Col} (hc : BF k s v c) : sameC c c = true := by
  unfold sameC
  rw [decide_eq_true_eq]
  exact ⟨hc.chk, hc.chk, rfl, rfl, rfl, rfl, rfl, rfl, rfl⟩

theorem says_walk (n at_ : Int) (l : List V) (A : SL) (w : World) (h : RdVs w A l) (hl : l.length ≤ 9223372036854775807) (hv : ∀ v ∈ l, IsBytes v.text ∧ v.bits < 18446744073709551616 ∧ v.text.length ≤ 9223372036854775807) :
    Calls Try.prog 4 #[.int .i64 n, .slice A.a l.length A.c, .int .i64 at_] w (BoolP true w) := by
  have HR := Aside.mk h
  have HV := Aside.mk hv
  have HK := Aside.mk (kind_ok n)
  clear h hv
  go_enter Try.func4, Try.ntmps4
  go_wp2_with (go_at_call 8; refine (kind_any _ _).mono ?_; rintro e w1 ⟨rfl, hb1⟩; have HB1 := Aside.mk hb1; clear hb1)
  generalize kindI n = k at *
  generalize scaleI n = s at *
  have ht1 := heap_alloc_new w1 (.cells #[.int .i64 k, .int .i64 s] 23)
  have hb2 := HB1.out.alloc HB1.out.size (.cells #[.int .i64 k, .int .i64 s] 23)
  have hw1 := HB1.out.size
  generalize w1.alloc (.cells #[.int .i64 k, .int .i64 s] 23) = w2 at *
  have ht2 := lt_of_blk ht1
  generalize w1.heap.size = tb at *
  refine (fitsL_any k s HK.out l hl HV.out A w2 (HR.out.below hb2)).mono ?_
  rintro e w3 ⟨v, ⟨va, vc⟩, xs, rfl, hv120, hvok, hov, hb3⟩
  obtain ⟨hfew, hall⟩ := few_of hv120 hvok
  have HFEW := Aside.mk hfew
  have HALL := Aside.mk hall
  have ht3 := (hb3.block _ ht2).trans ht1
  have c0 := cell_blk (k := 0) ht3
  have c1 := cell_blk (k := 1) ht3
  simp at c0 c1
  have HOV := Aside.mk hov
  have HT3 := Aside.mk ht3
  have HB3 := Aside.mk (hb2.trans (hb3.mono hb2.size))
  have hsz23 := hb3.size
  have hsz2 := hb2.size
  clear hov ht3 hb2 hb3 ht1 hfew hall hvok HR HV HB1
  go_wp2_with fail
  refine (built_any k s v HK.out HFEW.out HALL.out ⟨va, vc⟩ w3 HOV.out.rd).mono ?_
  rintro e w4 ⟨B, D, E, X, vals, rfl, hoc, hb4⟩
  have HF := Aside.mk (built_facts HK.out HFEW.out HALL.out)
  generalize (CS.of k v).col k s = c at *
  have hn := HF.out.n
  have hn2 : (c.n != (v.length : Int)) = false := by rw [hn]; simp
  clear hn
  have HI := Aside.mk (show SIn k s v c ⟨va, vc⟩ B D E X vals xs tb w4.heap.size w2.heap.size w (w4.alloc (.cells #[.int .i64 c.k, .int .i64 c.s, .int .i64 c.n, .int .i64 c.m, .slice B.a c.bits.length B.c, .slice D.a c.data.length D.c, .slice E.a c.ends.length E.c, .slice X.a c.words.length X.c] 43)) from by
    refine ⟨(HB3.out.trans (hb4.mono HB3.out.size)).alloc (Nat.le_trans HB3.out.size hb4.size) _, ?_, heap_alloc_new w4 _, (hoc.mono hsz23).below (below_new w4 _), (HOV.out.below hb4).below (below_new w4 _)⟩
    rw [Below.heap_alloc _ _ _ (Nat.lt_of_lt_of_le (lt_of_blk HT3.out) hb4.size)]
    exact (hb4.block _ (lt_of_blk HT3.out)).trans HT3.out)
  clear hoc c0 c1 HOV HT3 HB3
  dsimp only [colV]
  go_wp2_with fail
  generalize w4.alloc (.cells #[.int .i64 c.k, .int .i64 c.s, .int .i64 c.n, .int .i64 c.m, .slice B.a c.bits.length B.c, .slice D.a c.data.length D.c, .slice E.a c.ends.length E.c, .slice X.a c.words.length X.c] 43) = w5 at *
  generalize w4.heap.size = cb at *
  refine (wakes_any w5).mono ?_
  rintro e w6 ⟨rfl, hb6⟩
  replace HI := Aside.mk (HI.out.below hb6)
  clear hb6 hb4
  go_wp2_with fail
  go_loopw [11] (fun iv wr => ∃ i : Nat, i ≤ v.length ∧ iv = .int .i64 (i : Int) ∧ Aside (SIn k s v c ⟨va, vc⟩ B D E X vals xs tb cb w2.heap.size w wr)) (fun iv _ => v.length - (intOf iv).toNat)
  case atStart => exact ⟨0, by omega, rfl, HI⟩
  case round =>
    clear HI
    obtain ⟨i, hi, rfl, HI⟩ := hrel
    obtain ⟨p0, p1, p2, p3, p4, p5, p6, p7⟩ := box8 HI.out.sc
    by_cases hlt : i < v.length
    · have hin : (i : Int) < c.n := by have := HF.out.n; omega
      have HNUL := Aside.mk (HF.out.nul i hlt)
      have HVAL := Aside.mk (HF.out.val i hlt)
      have HVOK := Aside.mk (HALL.out _ (List.getElem_mem hlt))
      obtain ⟨g, off, cap, ta, tc, e1, e2, q1, q2, v0, v1, v2, hrt⟩ := HI.out.sv.rd.at hlt
      simp only at e1 e2
      subst e1 e2
      have HRT := Aside.mk hrt
      have HGN := Aside.mk (fun h => get_null c HF.out.cok B D E X vals i HF.out.chk hin h wr HI.out.so.rd)
      have HGV := Aside.mk (fun h => get_value c HF.out.cok B D E X vals i HF.out.chk hin h (own_addr HI.out.so.data) wr HI.out.so.rd)
      clear hrt
      dsimp only [colV] at HGN HGV
      generalize v[i] = u at *
      obtain ⟨un, ub, ut⟩ := u
      dsimp only at v0 v1 v2 HRT HNUL HVAL
      cases un with
      | true =>
        obtain ⟨rfl, rfl⟩ := HVOK.out.2.2.1 rfl
        have HG := Aside.mk (HGN.out HNUL.out)
        clear HGN HGV
        go_wp2_with (first | (go_at_call 19; refine HG.out.mono ?_; rintro e w7 ⟨rfl, hb7⟩; have n0 := (hb7.cell (p := ⟨g, off + i * 3, none⟩) (World.block_lt_of_cell? _ _ v0)).trans v0; have n1 := (hb7.cell (p := ⟨g, off + i * 3 + 1, none⟩) (World.block_lt_of_cell? _ _ v1)).trans v1; have n2 := (hb7.cell (p := ⟨g, off + i * 3 + 2, none⟩) (World.block_lt_of_cell? _ _ v2)).trans v2; have HRT7 := Aside.mk (HRT.out.below hb7); replace HI := Aside.mk (HI.out.below hb7); clear hb7) | (go_at_call 9; refine (num_any _ _).mono ?_; rintro e wn ⟨rfl, rfl⟩) | (go_at_call 20; refine (same_bytes [] [] ⟨none, 0⟩ ⟨ta, tc⟩ isBytes_nil isBytes_nil _ (Rd.nil _ 1) HRT7.out).mono ?_; rintro e wn ⟨rfl, rfl⟩))
        exact ⟨⟨i + 1, by omega, by simp, HI⟩, by simp [intOf]; omega⟩
      | false =>
        have HG := Aside.mk (HGV.out HNUL.out)
        rw [HVAL.out rfl] at HG
        have hut : IsBytes ut := HVOK.out.1
        have HUT := Aside.mk hut
        clear HGN HGV hut
        go_wp2_with (first | (go_at_call 19; refine HG.out.mono ?_; rintro e w7 ⟨ga, gc, rfl, hgo, hb7⟩; have HGO := Aside.mk hgo; have n0 := (hb7.cell (p := ⟨g, off + i * 3, none⟩) (World.block_lt_of_cell? _ _ v0)).trans v0; have n1 := (hb7.cell (p := ⟨g, off + i * 3 + 1, none⟩) (World.block_lt_of_cell? _ _ v1)).trans v1; have n2 := (hb7.cell (p := ⟨g, off + i * 3 + 2, none⟩) (World.block_lt_of_cell? _ _ v2)).trans v2; have HRT7 := Aside.mk (HRT.out.below hb7); replace HI := Aside.mk (HI.out.below hb7); clear hb7 hgo) | (go_at_call 9; refine (num_any _ _).mono ?_; rintro e wn ⟨rfl, rfl⟩) | (go_at_call 20; refine (same_bytes ut ut ⟨ga, gc⟩ ⟨ta, tc⟩ HUT.out HUT.out _ HGO.out.rd HRT7.out).mono ?_; rintro e wn ⟨rfl, rfl⟩; rw [decide_eq_true rfl]))
        exact ⟨⟨i + 1, by omega, by simp, HI⟩, by simp [intOf]; omega⟩
    · obtain rfl : i = v.length := by omega
      have HG := Aside.mk (get_place c HF.out.cok B D E X vals (v.length : Int) HF.out.chk (.inr (by have := HF.out.n; omega)) wr HI.out.so.rd)
      dsimp only [colV] at HG
      by_cases hv0 : v.length = 0
      · have hv00 : ((v.length : Int) == 0) = true := by rw [hv0]; rfl
        clear hv0
        go_wp2_with (first | (go_at_call 19; refine HG.out.mono ?_; rintro e w7 ⟨rfl, hb7⟩; replace HI := Aside.mk (HI.out.below hb7); clear hb7) | (go_at_call 9; refine (num_any _ _).mono ?_; rintro e wn ⟨rfl, rfl⟩))
        go_ret
        exact ⟨rfl, HI.out.sb⟩
      · have hv00 : ((v.length : Int) == 0) = false := by rw [beq_eq_false_iff_ne]; omega
        have HPOS := Aside.mk (show 0 < v.length by omega)
        have hwi := Aside.mk (show 0 ≤ withinI at_ 0 ((v.length : Int) - 1) ∧ withinI at_ 0 ((v.length : Int) - 1) < (v.length : Int) by
          unfold withinI
          have h1 := Int.emod_nonneg at_ (show ((v.length : Int) - 1 - 0 + 1) ≠ 0 by omega)
          have h2 := Int.emod_lt_of_pos at_ (show 0 < ((v.length : Int) - 1 - 0 + 1) by omega)
          omega)
        clear hv0
        go_wp2_with (first | (go_at_call 19; refine HG.out.mono ?_; rintro e w7 ⟨rfl, hb7⟩; replace HI := Aside.mk (HI.out.below hb7); clear hb7 p0 p1 p2 p3 p4 p5 p6 p7) | (go_at_call 9; refine (num_any _ _).mono ?_; rintro e wn ⟨rfl, rfl⟩) | (go_at_call 21; refine (within_any at_ 0 ((v.length : Int) - 1) (by omega) (by have := HPOS.out; omega) (by omega) _).mono ?_; rintro e wn ⟨rfl, rfl⟩) | (at_builtin; refine wpList_app _ rfl _ _ 35 35 rfl w7.heap.size 49 (.agg #[.bool false, .int .u64 0, .slice none 0 0]) 3 40 Try.underlying35 valinfo rfl _ _ _ rfl (own_empty w7 w7.heap.size w7.heap.size 49 3 rfl (Nat.le_refl _)) _ v.length xs rfl ((HI.out.sv.row.rd.below (below_new w7 _)).src Try.underlying35 (ownvs_one HI.out.sv)) (by unfold maxLen; omega) (by omega) (by simp) ?_))
        intro v' w8 hown' hgrow _ hat
        obtain ⟨g2, off2, cap2, e8, hb8, hlt8, q8, q9, hc8, hf8⟩ := hown'.some_ (by have := HPOS.out; omega)
        subst e8
        obtain ⟨j, hj⟩ : ∃ j : Nat, withinI at_ 0 ((v.length : Int) - 1) = (j : Int) := ⟨(withinI at_ 0 ((v.length : Int) - 1)).toNat, by have := hwi.out.1; omega⟩
        have hj2 : j < v.length := by have := hwi.out.2; omega
        rw [hj]
        have b78 : Below w7.heap.size w7 w8 := (below_new w7 (.cells #[] 49)).trans (below_of_grown hgrow (by simp) (fun k e => by simp [Value.ownBlock] at e; omega))
        have HI8 := Aside.mk (HI.out.below b78)
        obtain ⟨ta, tc, x0, x1, x2, _⟩ := HI.out.sv.each j _ (List.getElem?_eq_getElem hj2)
        have r0 := hc8 _ _ x0
        have r1 := hc8 _ _ x1
        have r2 := hc8 _ _ x2
        rw [← Nat.add_assoc] at r1 r2
        have htx8 : ∀ (i : Nat) u, v[i]? = some u → ∃ ta tc, xs[i * 3]? = some (.bool u.null) ∧ xs[i * 3 + 1]? = some (.int .u64 (u.bits : Int)) ∧ xs[i * 3 + 2]? = some (.slice ta u.text.length tc) ∧ Own w8 0 5 1 (.slice ta u.text.length tc) u.text.length (u.text.map (.int .u8)) := fun i u hu => by
          obtain ⟨ta, tc, a, b, c, d⟩ := HI8.out.sv.each i u hu
          exact ⟨ta, tc, a, b, c, d.mono (Nat.zero_le _)⟩
        have HTX := Aside.mk htx8
        have HOW := Aside.mk hown'
        have HHC := Aside.mk (And.intro hb8 (And.intro hlt8 b78))
        have c0 := cell_blk (k := 0) HI8.out.st
        have c1 := cell_blk (k := 1) HI8.out.st
        simp at c0 c1
        have htb7 := lt_of_blk HI.out.st
        have hne1 : tb ≠ g2 := by omega
        have hne2 : g2 ≠ tb := by omega
        have HX := Aside.mk (And.intro x0 (And.intro x1 x2))
        clear hown' hgrow hat hc8 b78 htx8 hj x0 x1 x2
        cases hvn : v[j].null with
        | true =>
          rw [hvn] at r0
          have HVN := Aside.mk hvn
          clear hvn
          go_wp2_with fail
          obtain ⟨hf2, ha2⟩ := other_ok HK.out HFEW.out HALL.out j false
          have HBU := built_any k s (v.set j ⟨false, 0, []⟩) HK.out hf2 ha2 ⟨some ⟨g2, off2, none⟩, cap2⟩ (((w8.setCell ⟨g2, off2 + j * 3, none⟩ (.bool false)).setCell ⟨g2, off2 + j * 3 + 1, none⟩ (.int .u64 0)).setCell ⟨g2, off2 + j * 3 + 2, none⟩ (.slice none 0 0)) (rdvs_set HOW.out HTX.out j hj2 false)
          rw [List.length_set] at HBU
          have HFD := Aside.mk (built_facts HK.out hf2 ha2)
          have b79 : Below w7.heap.size w7 (((w8.setCell ⟨g2, off2 + j * 3, none⟩ (.bool false)).setCell ⟨g2, off2 + j * 3 + 1, none⟩ (.int .u64 0)).setCell ⟨g2, off2 + j * 3 + 2, none⟩ (.slice none 0 0)) := ((HHC.out.2.2.setCell (by simpa using HHC.out.1) _).setCell (by simpa using HHC.out.1) _).setCell (by simpa using HHC.out.1) _
          have HI9 := Aside.mk (HI.out.below b79)
          have HSC := Aside.mk (same_self HF.out)
          have HSD := Aside.mk (fun d hd => other_differs (d := d) (nb := false) hj2 (by rw [HVN.out]; decide) HF.out hd)
          clear b79 HTX HOW HX r0 r1 r2 c0 c1 htb7 hne1 hne2 hf8 HI8
          generalize (((w8.setCell ⟨g2, off2 + j * 3, none⟩ (.bool false)).setCell ⟨g2, off2 + j * 3 + 1, none⟩ (.int .u64 0)).setCell ⟨g2, off2 + j * 3 + 2, none⟩ (.slice none 0 0)) = w9 at *
          refine HBU.mono ?_
          clear HBU
          rintro e w10 ⟨B2, D2, E2, X2, vals2, rfl, hoc2, hb10⟩
          replace HSD := Aside.mk (HSD.out _ HFD.out)
          generalize (CS.of k (v.set j ⟨false, 0, []⟩)).col k s = d at *
          have HI11 := Aside.mk ((HI9.out.below hb10).below (below_new w10 (.cells #[.int .i64 d.k, .int .i64 d.s, .int .i64 d.n, .int .i64 d.m, .slice B2.a d.bits.length B2.c, .slice D2.a d.data.length D2.c, .slice E2.a d.ends.length E2.c, .slice X2.a d.words.length X2.c] 43)))
          have hd11 := heap_alloc_new w10 (.cells #[.int .i64 d.k, .int .i64 d.s, .int .i64 d.n, .int .i64 d.m, .slice B2.a d.bits.length B2.c, .slice D2.a d.data.length D2.c, .slice E2.a d.ends.length E2.c, .slice X2.a d.words.length X2.c] 43)
          have HOD := Aside.mk (hoc2.below (below_new w10 (.cells #[.int .i64 d.k, .int .i64 d.s, .int .i64 d.n, .int .i64 d.m, .slice B2.a d.bits.length B2.c, .slice D2.a d.data.length D2.c, .slice E2.a d.ends.length E2.c, .slice X2.a d.words.length X2.c] 43)))
          clear hoc2 hb10 HI HI9
          have HS1 := Aside.mk (same_any c d HF.out.cok HFD.out.cok B D E X B2 D2 E2 X2 vals vals2 (w10.alloc (.cells #[.int .i64 d.k, .int .i64 d.s, .int .i64 d.n, .int .i64 d.m, .slice B2.a d.bits.length B2.c, .slice D2.a d.data.length D2.c, .slice E2.a d.ends.length E2.c, .slice X2.a d.words.length X2.c] 43)) HI11.out.so.rd HOD.out.rd)
          have HS2 := Aside.mk (fun (wz : World) (hz : Below (w10.alloc (.cells #[.int .i64 d.k, .int .i64 d.s, .int .i64 d.n, .int .i64 d.m, .slice B2.a d.bits.length B2.c, .slice D2.a d.data.length D2.c, .slice E2.a d.ends.length E2.c, .slice X2.a d.words.length X2.c] 43)).heap.size (w10.alloc (.cells #[.int .i64 d.k, .int .i64 d.s, .int .i64 d.n, .int .i64 d.m, .slice B2.a d.bits.length B2.c, .slice D2.a d.data.length D2.c, .slice E2.a d.ends.length E2.c, .slice X2.a d.words.length X2.c] 43)) wz) => same_any c c HF.out.cok HF.out.cok B D E X B D E X vals vals wz (HI11.out.so.rd.below hz) (HI11.out.so.rd.below hz))
          rw [HSD.out] at HS1
          rw [HSC.out] at HS2
          obtain ⟨p0, p1, p2, p3, p4, p5, p6, p7⟩ := box8 HI11.out.sc
          obtain ⟨z0, z1, z2, z3, z4, z5, z6, z7⟩ := box8 hd11
          clear hd11
          dsimp only [colV] at HS1 HS2 ⊢
          go_wp2_with (go_at_call 22; first | (refine HS1.out.mono ?_; rintro e w12 ⟨rfl, hb12⟩; clear HS1; have HB12 := Aside.mk hb12; have HI12 := Aside.mk (HI11.out.below hb12); obtain ⟨p0, p1, p2, p3, p4, p5, p6, p7⟩ := box8 HI12.out.sc; clear hb12) | (refine (HS2.out _ HB12.out).mono ?_; rintro e w13 ⟨rfl, hb13⟩; replace HI12 := Aside.mk (HI12.out.below hb13); clear hb13))
          go_ret
          exact ⟨rfl, HI12.out.sb⟩
        | false =>
          rw [hvn] at r0
          have HVN := Aside.mk hvn
          clear hvn
          go_wp2_with fail
          obtain ⟨hf2, ha2⟩ := other_ok HK.out HFEW.out HALL.out j true
          have HBU := built_any k s (v.set j ⟨true, 0, []⟩) HK.out hf2 ha2 ⟨some ⟨g2, off2, none⟩, cap2⟩ (((w8.setCell ⟨g2, off2 + j * 3, none⟩ (.bool true)).setCell ⟨g2, off2 + j * 3 + 1, none⟩ (.int .u64 0)).setCell ⟨g2, off2 + j * 3 + 2, none⟩ (.slice none 0 0)) (rdvs_set HOW.out HTX.out j hj2 true)
          rw [List.length_set] at HBU
          have HFD := Aside.mk (built_facts HK.out hf2 ha2)
          have b79 : Below w7.heap.size w7 (((w8.setCell ⟨g2, off2 + j * 3, none⟩ (.bool true)).setCell ⟨g2, off2 + j * 3 + 1, none⟩ (.int .u64 0)).setCell ⟨g2, off2 + j * 3 + 2, none⟩ (.slice none 0 0)) := ((HHC.out.2.2.setCell (by simpa using HHC.out.1) _).setCell (by simpa using HHC.out.1) _).setCell (by simpa using HHC.out.1) _
          have HI9 := Aside.mk (HI.out.below b79)
          have HSC := Aside.mk (same_self HF.out)
          have HSD := Aside.mk (fun d hd => other_differs (d := d) (nb := true) hj2 (by rw [HVN.out]; decide) HF.out hd)
          clear b79 HTX HOW HX r0 r1 r2 c0 c1 htb7 hne1 hne2 hf8 HI8
          generalize (((w8.setCell ⟨g2, off2 + j * 3, none⟩ (.bool true)).setCell ⟨g2, off2 + j * 3 + 1, none⟩ (.int .u64 0)).setCell ⟨g2, off2 + j * 3 + 2, none⟩ (.slice none 0 0)) = w9 at *
          refine HBU.mono ?_
          clear HBU
          rintro e w10 ⟨B2, D2, E2, X2, vals2, rfl, hoc2, hb10⟩
          replace HSD := Aside.mk (HSD.out _ HFD.out)
          generalize (CS.of k (v.set j ⟨true, 0, []⟩)).col k s = d at *
          have HI11 := Aside.mk ((HI9.out.below hb10).below (below_new w10 (.cells #[.int .i64 d.k, .int .i64 d.s, .int .i64 d.n, .int .i64 d.m, .slice B2.a d.bits.length B2.c, .slice D2.a d.data.length D2.c, .slice E2.a d.ends.length E2.c, .slice X2.a d.words.length X2.c] 43)))
          have hd11 := heap_alloc_new w10 (.cells #[.int .i64 d.k, .int .i64 d.s, .int .i64 d.n, .int .i64 d.m, .slice B2.a d.bits.length B2.c, .slice D2.a d.data.length D2.c, .slice E2.a d.ends.length E2.c, .slice X2.a d.words.length X2.c] 43)
          have HOD := Aside.mk (hoc2.below (below_new w10 (.cells #[.int .i64 d.k, .int .i64 d.s, .int .i64 d.n, .int .i64 d.m, .slice B2.a d.bits.length B2.c, .slice D2.a d.data.length D2.c, .slice E2.a d.ends.length E2.c, .slice X2.a d.words.length X2.c] 43)))
          clear hoc2 hb10 HI HI9
          have HS1 := Aside.mk (same_any c d HF.out.cok HFD.out.cok B D E X B2 D2 E2 X2 vals vals2 (w10.alloc (.cells #[.int .i64 d.k, .int .i64 d.s, .int .i64 d.n, .int .i64 d.m, .slice B2.a d.bits.length B2.c, .slice D2.a d.data.length D2.c, .slice E2.a d.ends.length E2.c, .slice X2.a d.words.length X2.c] 43)) HI11.out.so.rd HOD.out.rd)
          have HS2 := Aside.mk (fun (wz : World) (hz : Below (w10.alloc (.cells #[.int .i64 d.k, .int .i64 d.s, .int .i64 d.n, .int .i64 d.m, .slice B2.a d.bits.length B2.c, .slice D2.a d.data.length D2.c, .slice E2.a d.ends.length E2.c, .slice X2.a d.words.length X2.c] 43)).heap.size (w10.alloc (.cells #[.int .i64 d.k, .int .i64 d.s, .int .i64 d.n, .int .i64 d.m, .slice B2.a d.bits.length B2.c, .slice D2.a d.data.length D2.c, .slice E2.a d.ends.length E2.c, .slice X2.a d.words.length X2.c] 43)) wz) => same_any c c HF.out.cok HF.out.cok B D E X B D E X vals vals wz (HI11.out.so.rd.below hz) (HI11.out.so.rd.below hz))
          rw [HSD.out] at HS1
          rw [HSC.out] at HS2
          obtain ⟨p0, p1, p2, p3, p4, p5, p6, p7⟩ := box8 HI11.out.sc
          obtain ⟨z0, z1, z2, z3, z4, z5, z6, z7⟩ := box8 hd11
          clear hd11
          dsimp only [colV] at HS1 HS2 ⊢
          go_wp2_with (go_at_call 22; first | (refine HS1.out.mono ?_; rintro e w12 ⟨rfl, hb12⟩; clear HS1; have HB12 := Aside.mk hb12; have HI12 := Aside.mk (HI11.out.below hb12); obtain ⟨p0, p1, p2, p3, p4, p5, p6, p7⟩ := box8 HI12.out.sc; clear hb12) | (refine (HS2.out _ HB12.out).mono ?_; rintro e w13 ⟨rfl, hb13⟩; replace HI12 := Aside.mk (HI12.out.below hb13); clear hb13))
          go_ret
          exact ⟨rfl, HI12.out.sb⟩
end Go.Proofs.Ytmhjjhaipcgbiaa


/- What a law's arguments hold: data of plain shapes, read out of the row's own reading. Over any program. -/
namespace Go.Proofs.Ytmhjjhaipcgbiaa
open Go.RowKit Go.ChangeShapes
set_option linter.unusedVariables false
set_option linter.unusedSimpArgs false

/-- The shapes of plain data. A struct is 'st' of a row of fields, 'cons' by 'cons'. -/
inductive Sh where
  | int (k : IntKind) | bool | str | sl (e : Sh) | st (fs : Sh) | nil | cons (f r : Sh)

namespace Sh
def size : Sh → Nat
  | int _ => 1 | bool => 1 | str => 1 | sl _ => 1 | st fs => fs.size | nil => 0 | cons f r => f.size + r.size
/-- Is it a row of fields? -/
def fields : Sh → Bool
  | nil => true | cons _ _ => true | _ => false
/-- A shape is a type's; 'nil' and 'cons' are a list of fields', from an offset on. -/
def ok (P : Program) : Sh → TypeId → List Field → Nat → Prop
  | int k, t, _, _ => P.underlying t = some (.int k)
  | bool, t, _, _ => P.underlying t = some .bool
  | str, t, _, _ => P.underlying t = some .string
  | sl e, t, _, _ => ∃ te, P.underlying t = some (.slice te) ∧ P.cellsOf te = e.size ∧ 0 < e.size ∧ e.fields = false ∧ e.ok P te [] 0
  | st fs, t, _, _ => ∃ fl : Array Field, P.underlying t = some (.struct fl) ∧ P.cellsOf t = fs.size ∧ fs.fields = true ∧ fs.ok P 0 fl.toList 0
  | nil, _, fl, _ => fl = []
  | cons f r, _, fl, o => ∃ fd rest, fl = fd :: rest ∧ fd.offset = o ∧ P.cellsOf fd.type = f.size ∧ f.fields = false ∧ r.fields = true ∧ f.ok P fd.type [] 0 ∧ r.ok P 0 rest (o + f.size)
/-- What is read. -/
def M : Sh → Type
  | int _ => Int | bool => Bool | str => ByteArray | sl e => List e.M | st fs => fs.M | nil => Unit | cons f r => f.M × r.M
def Reads (w : World) : (s : Sh) → List Value → s.M → Prop
  | int k, cs, n => cs = [.int k n] ∧ (Lit.int k n).wf = true
  | bool, cs, b => cs = [.bool b]
  | str, cs, s => cs = [.string s] ∧ ByteArray.size s ≤ maxLen
  | sl e, cs, l => ∃ a cap, cs = [.slice a (List.length l) cap] ∧ List.length l ≤ cap ∧ cap ≤ maxLen ∧ (a = none → List.length l = 0 ∧ cap = 0) ∧
      ∀ i (h : i < List.length l), ∃ b off cs', a = some ⟨b, off, none⟩ ∧ cs'.length = e.size ∧ (∀ j u, cs'[j]? = some u → w.cell? ⟨b, off + i * e.size + j, none⟩ = some u) ∧ e.Reads w cs' (List.get l ⟨i, h⟩)
  | st fs, cs, m => fs.Reads w cs m
  | nil, cs, _ => cs = []
  | cons f r, cs, m => ∃ c1 c2, cs = c1 ++ c2 ∧ c1.length = f.size ∧ f.Reads w c1 m.1 ∧ r.Reads w c2 m.2
/-- What is read, as the row's data (one datum; of fields: a list of them). -/
def Dat {H : Type} : (s : Sh) → s.M → List (DataW H) → Prop
  | int k, n, ds => ds = [.lit (.int k n)]
  | bool, b, ds => ds = [.lit (.bool b)]
  | str, s, ds => ds = [.lit (.string (ByteArray.data s).toList)]
  | sl e, l, ds => (List.length l = 0 ∧ ds = [.nil]) ∨ ∃ els rest, ds = [.slice els rest] ∧ List.length els = List.length l ∧ ∀ i (h : i < List.length l) (h' : i < List.length els), e.Dat (List.get l ⟨i, h⟩) [List.get els ⟨i, h'⟩]
  | st fs, m, ds => ∃ ds', ds = [.agg ds'] ∧ fs.Dat m ds'
  | nil, _, ds => ds = []
  | cons f r, m, ds => ∃ d rest, ds = d :: rest ∧ f.Dat m.1 [d] ∧ r.Dat m.2 rest

section
variable {H : Type} {enc : TypeId × Value → H} {P : Program} {w : World} {base : Nat} {spare : Nat → Bool} {held : Bool}

theorem cells?_get {a : Addr} {n : Nat} {cs : List Value} (h : w.cells? base a n = some cs) : cs.length = n ∧ ∀ j u, cs[j]? = some u → w.cell? (a.add j) = some u := by
  unfold World.cells? at h
  split at h
  · have hl := mapM_some_length h
    simp at hl
    refine ⟨hl, fun j u hu => ?_⟩
    have hj : j < n := by have := (List.getElem?_eq_some_iff.1 hu).1; omega
    have := mapM_some_get h j j (by simp [hj])
    rw [this]; exact hu
  · cases h

theorem reads_of_trod (s : Sh) : (∀ (t : TypeId) (fuel : Nat) (cs : List Value) (x : DataW H × List MemPlace), s.ok P t [] 0 → s.fields = false → DataW.trod enc P w base spare held fuel t cs = some x → ∃ m, s.Reads w cs m ∧ s.Dat m [x.1]) ∧
    (∀ (fl : List Field) (o n : Nat) (cs : List Value) (xs : List (DataW H × List MemPlace)), s.ok P 0 fl o → s.fields = true → o + s.size ≤ cs.length → xs.length = fl.length →
      (∀ (i : Nat) (f : Field), fl[i]? = some f → DataW.trod enc P w base spare held n f.type ((cs.drop f.offset).take (P.cellsOf f.type)) = xs[i]?) → ∃ m, s.Reads w ((cs.drop o).take s.size) m ∧ s.Dat m (xs.map (·.1))) := by
  induction s with
  | int k =>
    refine ⟨fun t fuel cs x hok _ h => ?_, (fun _ _ _ _ _ _ h => (by cases h))⟩
    obtain ⟨n, h1, h2, h3⟩ := DataW.trod_int hok h
    exact ⟨n, ⟨h1, h3⟩, by rw [h2]; rfl⟩
  | bool =>
    refine ⟨fun t fuel cs x hok _ h => ?_, (fun _ _ _ _ _ _ h => (by cases h))⟩
    obtain ⟨b, h1, h2⟩ := DataW.trod_bool hok h
    exact ⟨b, h1, by rw [h2]; rfl⟩
  | str =>
    refine ⟨fun t fuel cs x hok _ h => ?_, (fun _ _ _ _ _ _ h => (by cases h))⟩
    obtain ⟨b, h1, h2, h3⟩ := DataW.trod_string hok h
    exact ⟨b, ⟨h1, h3⟩, by rw [h2]; rfl⟩
  | sl e ih =>
    refine ⟨fun t fuel cs x hok _ h => ?_, (fun _ _ _ _ _ _ h => (by cases h))⟩
    obtain ⟨te, ht, hc, hp, hne, hoe⟩ := hok
    rcases Go.Deep.open_slice ht h with ⟨rfl, rfl⟩ | ⟨a, len, cap, m, n, D, Pl, rfl, hb, hl, hm, hmm, rfl, hx⟩
    · exact ⟨[], ⟨none, 0, rfl, Nat.le_refl _, by decide, fun _ => ⟨rfl, rfl⟩, fun i h => absurd h (by simp)⟩, .inl ⟨rfl, rfl⟩⟩
    · have hml : len ≤ m := by rw [hmm]; split <;> omega
      have key : ∀ i, i < len → ∃ md : e.M, (∃ b off cs', a = ⟨b, off, none⟩ ∧ cs'.length = e.size ∧ (∀ j u, cs'[j]? = some u → w.cell? ⟨b, off + i * e.size + j, none⟩ = some u) ∧ e.Reads w cs' md) ∧ e.Dat md [D i] := by
        intro i hi
        obtain ⟨cs', h1, h2⟩ := hx i (by omega)
        obtain ⟨h3, h4⟩ := cells?_get h1
        obtain ⟨md, h5, h6⟩ := ih.1 te n cs' _ hoe hne h2
        obtain ⟨cs0, g1, _⟩ := hx 0 (by omega)
        obtain ⟨g3, g4⟩ := cells?_get g1
        obtain ⟨b, off, sp⟩ := a
        have hsp : sp = none := by
          have := g4 0 (cs0[0]'(by rw [g3, hc]; exact hp)) (List.getElem?_eq_getElem _)
          have := World.cell?_spot this
          simpa [Addr.add] using this
        subst hsp
        refine ⟨md, ⟨b, off, cs', rfl, by rw [h3, hc], fun j u hu => ?_, h5⟩, h6⟩
        have := h4 j u hu
        rw [addr_add, addr_add, hc] at this
        exact this
      have hch : ∃ l : List e.M, l.length = len ∧ ∀ i (h : i < l.length), (∃ b off cs', a = ⟨b, off, none⟩ ∧ cs'.length = e.size ∧ (∀ j u, cs'[j]? = some u → w.cell? ⟨b, off + i * e.size + j, none⟩ = some u) ∧ e.Reads w cs' (l.get ⟨i, h⟩)) ∧ e.Dat (l.get ⟨i, h⟩) [D i] := by
        clear hx hmm hml hl h
        induction len with
        | zero => exact ⟨[], rfl, fun i h => absurd h (by simp)⟩
        | succ len ih2 =>
          obtain ⟨l, hl1, hl2⟩ := ih2 (fun i hi => key i (by omega))
          obtain ⟨md, hmd⟩ := key len (by omega)
          refine ⟨l ++ [md], by simp [hl1], fun i h => ?_⟩
          by_cases hi : i < l.length
          · have : (l ++ [md]).get ⟨i, h⟩ = l.get ⟨i, hi⟩ := by simp [List.getElem_append_left hi]
            rw [this]; exact hl2 i hi
          · have hi' : i = len := by simp at h; omega
            subst hi'
            have : (l ++ [md]).get ⟨i, h⟩ = md := by simp [← hl1]
            rw [this]; exact hmd
      obtain ⟨l, hl1, hl2⟩ := hch
      refine ⟨l, ⟨some a, cap, by rw [hl1], by omega, hm, (fun e => by cases e), fun i h => ?_⟩, .inr ⟨_, _, rfl, by simp [hl1], fun i h h' => ?_⟩⟩
      · obtain ⟨⟨b, off, cs', rfl, r⟩, _⟩ := hl2 i h
        exact ⟨b, off, cs', rfl, r⟩
      · have := (hl2 i h).2
        simpa using this
  | st fs ih =>
    refine ⟨fun t fuel cs x hok _ h => ?_, (fun _ _ _ _ _ _ h => (by cases h))⟩
    obtain ⟨fl, ht, hc, hne, hof⟩ := hok
    obtain ⟨xs, n, _, rfl, hl, hlen, hf⟩ := DataW.trod_struct ht h
    obtain ⟨m, h1, h2⟩ := ih.2 fl.toList 0 n cs xs hof hne (by omega) (by simp [hlen]) (fun i f hi => hf i f (by simpa using hi))
    refine ⟨m, ?_, ⟨_, rfl, h2⟩⟩
    rw [List.drop_zero, List.take_of_length_le (by omega)] at h1
    exact h1
  | nil =>
    refine ⟨(fun _ _ _ _ _ h => (by cases h)), fun fl o n cs xs hok _ hl hx hf => ?_⟩
    have hfl : fl = [] := hok
    subst hfl
    exact ⟨(), by simp [Reads, size], by simp [Dat]; exact List.length_eq_zero_iff.1 hx⟩
  | cons f r ihf ihr =>
    refine ⟨(fun _ _ _ _ _ h => (by cases h)), fun fl o n cs xs hok _ hl hx hf => ?_⟩
    obtain ⟨fd, rest, rfl, ho, hc, hf1, hr1, h1, h2⟩ := hok
    match xs, hx with
    | x :: xs, hx =>
      simp only [size] at hl
      have g0 := hf 0 fd rfl
      rw [ho, hc] at g0
      obtain ⟨m1, g1, g2⟩ := ihf.1 fd.type n _ x h1 hf1 g0
      obtain ⟨m2, g3, g4⟩ := ihr.2 rest (o + f.size) n cs xs h2 hr1 (by omega) (by simpa using hx) (fun i fd' hi => hf (i + 1) fd' hi)
      refine ⟨(m1, m2), ⟨_, _, ?_, ?_, g1, g3⟩, ⟨x.1, xs.map (·.1), rfl, g2, g4⟩⟩
      · simp only [size]
        rw [List.take_add, List.drop_drop]
      · rw [List.length_take, List.length_drop]; omega
end
end Sh
end Go.Proofs.Ytmhjjhaipcgbiaa


/- ColumnSays at the arguments as they come. -/
namespace Go.Proofs.Ytmhjjhaipcgbiaa
open Go.RowKit
set_option linter.unusedVariables false
set_option linter.unusedSimpArgs false

/-- The shape of a row of values. -/
abbrev shVal : Sh := .st (.cons .bool (.cons (.int .u64) (.cons (.sl (.int .u8)) .nil)))
def toV (m : Sh.M shVal) : V := ⟨m.1, m.2.1.toNat, m.2.2.1⟩

theorem u64_wf {b : Int} (h : (Lit.int .u64 b).wf = true) : 0 ≤ b ∧ b ≤ 18446744073709551615 := by
  simp [Lit.wf] at h
  have h1 : IntKind.u64.min = 0 := by decide
  have h2 : IntKind.u64.max = 18446744073709551615 := by decide
  omega

theorem u8_wf {b : Int} (h : (Lit.int .u8 b).wf = true) : 0 ≤ b ∧ b < 256 := by
  simp [Lit.wf] at h
  have h1 : IntKind.u8.min = 0 := by decide
  have h2 : IntKind.u8.max = 255 := by decide
  omega

theorem rd_of_sl {w : World} {cs : List Value} {l : List Int} (h : Sh.Reads w (.sl (.int .u8)) cs l) : ∃ a cap, cs = [.slice a l.length cap] ∧ Rd w 1 (.slice a l.length cap) l.length (l.map (.int .u8)) ∧ IsBytes l ∧ l.length ≤ 9223372036854775807 := by
  obtain ⟨a, cap, rfl, h1, h2, h3, h4⟩ := h
  refine ⟨a, cap, rfl, ⟨by simp, a, cap, rfl, h1, h2, h3, fun j u hu => ?_⟩, fun x hx => ?_, by unfold maxLen at h2; exact Nat.le_trans h1 h2⟩
  · rw [List.getElem?_map] at hu
    cases hj : l[j]? with
    | none => rw [hj] at hu; cases hu
    | some y =>
      rw [hj] at hu
      cases hu
      obtain ⟨hlt, rfl⟩ := List.getElem?_eq_some_iff.1 hj
      obtain ⟨b, off, cs', e, _, hc, hr, _⟩ := h4 j hlt
      refine ⟨b, off, e, ?_⟩
      have := hc 0 _ (by rw [hr]; rfl)
      rw [show off + j * Sh.size (.int .u8) + 0 = off + j by show off + j * 1 + 0 = _; omega] at this
      exact this
  · obtain ⟨i, hi, rfl⟩ := List.mem_iff_getElem.1 hx
    obtain ⟨b, off, cs', e, _, hc, hr, hw⟩ := h4 i hi
    exact u8_wf hw

theorem rdvs_of_sl {w : World} {cs : List Value} {l : List (Sh.M shVal)} (h : Sh.Reads w (.sl shVal) cs l) : ∃ A : SL, cs = [.slice A.a (l.map toV).length A.c] ∧ RdVs w A (l.map toV) ∧ (l.map toV).length ≤ 9223372036854775807 ∧ ∀ v ∈ l.map toV, IsBytes v.text ∧ v.bits < 18446744073709551616 ∧ v.text.length ≤ 9223372036854775807 := by
  obtain ⟨a, cap, rfl, h1, h2, h3, h4⟩ := h
  have key : ∀ i, ∃ p : Option Addr × Nat, ∀ (hi : i < l.length), ∃ b off, a = some ⟨b, off, none⟩ ∧ w.cell? ⟨b, off + i * 3 + 0, none⟩ = some (.bool (toV (l.get ⟨i, hi⟩)).null) ∧ w.cell? ⟨b, off + i * 3 + 1, none⟩ = some (.int .u64 ((toV (l.get ⟨i, hi⟩)).bits : Int)) ∧
      w.cell? ⟨b, off + i * 3 + 2, none⟩ = some (.slice p.1 (toV (l.get ⟨i, hi⟩)).text.length p.2) ∧ Rd w 1 (.slice p.1 (toV (l.get ⟨i, hi⟩)).text.length p.2) (toV (l.get ⟨i, hi⟩)).text.length ((toV (l.get ⟨i, hi⟩)).text.map (.int .u8)) ∧
      IsBytes (toV (l.get ⟨i, hi⟩)).text ∧ (toV (l.get ⟨i, hi⟩)).bits < 18446744073709551616 ∧ (toV (l.get ⟨i, hi⟩)).text.length ≤ 9223372036854775807 := by
    intro i
    by_cases hi : i < l.length
    · obtain ⟨b, off, cs', e, hl, hc, hr⟩ := h4 i hi
      obtain ⟨c1, c2, e1, _, r1, c3, c4, e2, _, ⟨r2, wf⟩, c5, c6, e3, _, r3, r4⟩ := hr
      obtain ⟨ta, tc, e4, hrd, hby, hlm⟩ := rd_of_sl r3
      have hcs : cs' = [.bool (l.get ⟨i, hi⟩).1, .int .u64 (l.get ⟨i, hi⟩).2.1, .slice ta (l.get ⟨i, hi⟩).2.2.1.length tc] := by
        rw [e1, show c1 = [.bool (l.get ⟨i, hi⟩).1] from r1, e2, r2, e3, e4, show c6 = [] from r4]; rfl
      have hb := u64_wf wf
      have hnat : (((toV (l.get ⟨i, hi⟩)).bits : Nat) : Int) = (l.get ⟨i, hi⟩).2.1 := Int.toNat_of_nonneg hb.1
      refine ⟨(ta, tc), fun _ => ⟨b, off, e, ?_, ?_, ?_, hrd, hby, ?_, hlm⟩⟩
      · exact hc 0 _ (by rw [hcs]; rfl)
      · rw [hnat]; exact hc 1 _ (by rw [hcs]; rfl)
      · exact hc 2 _ (by rw [hcs]; rfl)
      · show (l.get ⟨i, hi⟩).2.1.toNat < _
        omega
    · exact ⟨(none, 0), fun h => absurd h hi⟩
  obtain ⟨f, hf⟩ := Classical.axiomOfChoice key
  have hlen : (l.map toV).length = l.length := List.length_map ..
  refine ⟨⟨a, cap⟩, by rw [hlen], ?_, by rw [hlen]; unfold maxLen at h2; exact Nat.le_trans h1 h2, ?_⟩
  · let row : Nat → List Value := fun i => if hi : i < l.length then [.bool (toV (l.get ⟨i, hi⟩)).null, .int .u64 ((toV (l.get ⟨i, hi⟩)).bits : Int), .slice (f i).1 (toV (l.get ⟨i, hi⟩)).text.length (f i).2] else [.bool false, .bool false, .bool false]
    have hrow : ∀ i, (row i).length = 3 := fun i => by show (dite _ _ _ : List Value).length = 3; split <;> rfl
    have hget : ∀ i (hi : i < l.length) j, j < 3 → ((List.range l.length).flatMap row)[i * 3 + j]? = [Value.bool (toV (l.get ⟨i, hi⟩)).null, .int .u64 ((toV (l.get ⟨i, hi⟩)).bits : Int), .slice (f i).1 (toV (l.get ⟨i, hi⟩)).text.length (f i).2][j]? := fun i hi j hj => by
      rw [flatMap_get row 3 hrow (List.range l.length) i j (by simpa using hi) hj, List.getElem_range]
      show (dite _ _ _ : List Value)[j]? = _
      rw [dif_pos hi]
    have hxl : ((List.range l.length).flatMap row).length = l.length * 3 := by rw [flatMap_len row 3 hrow, List.length_range]
    refine ⟨(List.range l.length).flatMap row, ?_, fun i v hv => ?_⟩
    · rw [hlen]
      refine ⟨hxl, a, cap, rfl, h1, h2, h3, fun m u hu => ?_⟩
      have hm := (List.getElem?_eq_some_iff.1 hu).1
      have hi : m / 3 < l.length := by omega
      obtain ⟨b, off, e, q0, q1, q2, _⟩ := hf (m / 3) hi
      refine ⟨b, off, e, ?_⟩
      have hm3 : m = m / 3 * 3 + m % 3 := by omega
      have hr : m % 3 < 3 := Nat.mod_lt _ (by decide)
      rw [hm3, hget _ hi _ hr] at hu
      rcases get3 _ _ _ _ _ hu with ⟨e3, rfl⟩ | ⟨e3, rfl⟩ | ⟨e3, rfl⟩
      · rw [show off + m = off + m / 3 * 3 + 0 by omega]; exact q0
      · rw [show off + m = off + m / 3 * 3 + 1 by omega]; exact q1
      · rw [show off + m = off + m / 3 * 3 + 2 by omega]; exact q2
    · rw [List.getElem?_map] at hv
      obtain ⟨x, hx, rfl⟩ := Option.map_eq_some_iff.1 hv
      obtain ⟨hi, rfl⟩ := List.getElem?_eq_some_iff.1 hx
      obtain ⟨b, off, e, q0, q1, q2, q3, _⟩ := hf i hi
      exact ⟨(f i).1, (f i).2, hget i hi 0 (by decide), hget i hi 1 (by decide), hget i hi 2 (by decide), q3⟩
  · intro v hv
    obtain ⟨x, hx, rfl⟩ := List.mem_map.1 hv
    obtain ⟨i, hi, rfl⟩ := List.mem_iff_getElem.1 hx
    obtain ⟨_, _, _, _, _, _, _, q4, q5, q6⟩ := hf i hi
    exact ⟨q4, q5, q6⟩

theorem says_row (w : World) (n : Int) (wn : (Lit.int .i64 n).wf = true) (a : Option Addr) (k c : Nat) (m : List (Sh.M shVal)) (h : Sh.Reads w (.sl shVal) (Value.slice a k c).cells.toList m) (at_ : Int) (wa : (Lit.int .i64 at_).wf = true) : Calls Try.prog 4 #[.int .i64 n, .slice a k c, .int .i64 at_] w fun e w' => e = .returned (.bool true) ∧ Below w.heap.size w w' := by
  obtain ⟨A, e, hr, hl, hb⟩ := rdvs_of_sl h
  have e2 : Value.slice a k c = .slice A.a (m.map toV).length A.c := by simpa [Value.cells] using e
  rw [e2]
  exact says_walk n at_ (m.map toV) A w hr hl hb
end Go.Proofs.Ytmhjjhaipcgbiaa
