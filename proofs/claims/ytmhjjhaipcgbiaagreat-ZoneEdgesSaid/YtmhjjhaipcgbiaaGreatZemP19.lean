/- Texts of this claim, one behind the other: Each, Zk. -/
import Derived.Test.YtmhjjhaipcgbiaaGreatZemP18
import Derived.Test.YtmhjjhaipcgbiaaGreatZemP5
import Derived.Test.YtmhjjhaipcgbiaaGreatZemP6
import Derived.BigQuiet
import Derived.Deep.QuietTactic

namespace Go.Proofs.YtmhjjhaipcgbiaaGreat
open Go.RowKit
set_option linter.unusedVariables false
set_option linter.unusedSimpArgs false
set_option maxRecDepth 100000
set_option maxHeartbeats 4000000
attribute [local go_sem] Oper.semAt_some
def valC (c : Col) (i : Nat) : V := if nullB c.bits i then ⟨true, 0, []⟩ else ⟨false, (valueC c i).1, (valueC c i).2⟩
def valV (v : V) (ta : Option Addr) (tc : Nat) : Value := .agg #[.int .u64 (v.bits : Int), .slice ta v.text.length tc, .bool v.null]
def EachD (c : Col) (i : Nat) (v : Value) (W : World) : Prop := ∃ ta tc, v = valV (valC c i) ta tc ∧ Rd W 1 (.slice ta (valC c i).text.length tc) (valC c i).text.length ((valC c i).text.map (.int .u8))
def EachG (c : Col) (B D E X : SL) (vals : List Value) (Bs : Nat) (W : World) : Prop := RdC W c B D E X vals ∧ W.heap[Bs]? = some (.cells #[.int .i64 c.k, .int .i64 c.s, .int .i64 c.n, .int .i64 c.m, .slice B.a c.bits.length B.c, .slice D.a c.data.length D.c, .slice E.a c.ends.length E.c, .slice X.a c.words.length X.c] 63 (0, 0))
theorem eachD_null {c : Col} {i : Nat} (h : nullB c.bits i = true) (W : World) : EachD c i (.agg #[.int .u64 0, .slice none 0 0, .bool true]) W :=
  ⟨none, 0, by simp [valC, h, valV], by simp [valC, h]; exact Rd.nil _ _⟩
theorem eachD_val {c : Col} {i : Nat} (h : nullB c.bits i = false) {W : World} {a : Option Addr} {cap : Nat} (hr : Rd W 1 (.slice a (valueC c i).2.length cap) (valueC c i).2.length ((valueC c i).2.map (.int .u8))) : EachD c i (.agg #[.int .u64 ((valueC c i).1 : Int), .slice a (valueC c i).2.length cap, .bool false]) W :=
  ⟨a, cap, by simp [valC, h, valV], by simpa [valC, h] using hr⟩
theorem box3 {w : World} {b : Nat} {x0 x1 x2 : Value} {T : TypeId} (h : w.heap[b]? = some (.cells #[x0, x1, x2] T (0, 0))) : w.cell? ⟨b, 0, none⟩ = some x0 ∧ w.cell? ⟨b, 1, none⟩ = some x1 ∧ w.cell? ⟨b, 2, none⟩ = some x2 := by
  refine ⟨?_, ?_, ?_⟩ <;> (rw [cell_blk h]; rfl)
theorem box_new (w : World) (x0 x1 x2 : Value) {b : Nat} {o : Obj} (h : w.heap[b]? = some o) :
    Below w.heap.size w (w.alloc (.cells #[x0, x1, x2] 145)) ∧ (w.alloc (.cells #[x0, x1, x2] 145)).heap[w.heap.size]? = some (.cells #[x0, x1, x2] 145 (0, 0)) ∧ (w.alloc (.cells #[x0, x1, x2] 145)).heap[b]? = some o :=
  ⟨(Below.refl _ w).alloc (Nat.le_refl _) _, heap_alloc_new w _, (Below.heap_alloc w _ b (lt_of_blk h)).trans h⟩
theorem each_set {w w3 w4 : World} {v : Value} {n : Nat} {xs : List Value} (hs : w.heap.size < w3.heap.size) (b3 : Below w.heap.size w w3) (b4 : Below w3.heap.size w3 w4) (h : Own w4 w3.heap.size 5 1 v n xs) (x1 x2 x3 : Value) :
    Below w.heap.size w (((w4.setCell ⟨w.heap.size, 0, none⟩ x1).setCell ⟨w.heap.size, 1, none⟩ x2).setCell ⟨w.heap.size, 2, none⟩ x3) ∧ Rd (((w4.setCell ⟨w.heap.size, 0, none⟩ x1).setCell ⟨w.heap.size, 1, none⟩ x2).setCell ⟨w.heap.size, 2, none⟩ x3) 1 v n xs := by
  have hne : v.ownBlock ≠ some w.heap.size := fun e => by have := (h.lt _ e).1; omega
  exact ⟨(((b3.trans (b4.mono b3.size)).setCell (Nat.le_refl _) _).setCell (Nat.le_refl _) _).setCell (Nat.le_refl _) _,
    (((h.set_other (a := ⟨w.heap.size, 0, none⟩) hne _).set_other (a := ⟨w.heap.size, 1, none⟩) hne _).set_other (a := ⟨w.heap.size, 2, none⟩) hne _).rd⟩
theorem of_ck (c : Col) (h : c.k = 16) (w : World) : Calls Tryz.prog 86 #[.agg #[.int .i64 c.k, .int .i64 c.s]] w (IfP (.iface 167 (.agg #[.int .i64 4])) w) := by rw [h]; exact of_c c.s w
theorem of_rk (c : Col) (h : c.k = 15) (w : World) : Calls Tryz.prog 86 #[.agg #[.int .i64 c.k, .int .i64 c.s]] w (IfP (.iface 162 (.agg #[])) w) := by rw [h]; exact of_r c.s w
theorem each1_f (c : Col) (h1 : c.k ≠ 15) (h2 : c.k ≠ 16) {V : Nat} (hW : widthOf c.k = (V : Int)) (hc : COK c) (B D E X : SL) (vals : List Value) (hr : checkC c = 0) (Bs N : Nat) (hn : c.n = (N : Int))
    (hval : ∀ i : Nat, i < N → nullB c.bits i = false → ∀ w2, RdC w2 c B D E X vals → Calls Tryz.prog 221 #[.agg #[.int .i64 (V : Int)], colV c B D E X, .int .i64 (i : Int)] w2 (ValP (valueC c i).1 (valueC c i).2 w2)) :
    SeqV Tryz.prog 150 #[.pointer (some ⟨Bs, 0, none⟩)] (fun k v => #[.int .i64 (k : Int), v]) (EachD c) (EachG c B D E X vals Bs) N := by
  intro l J Jx W hJ hG hY h0
  have HC := Aside.mk hc
  have HR := Aside.mk hr
  have HN := Aside.mk hn
  have hIN : c.n ≤ 9223372036854775807 := hc.n.2
  have hnull := Aside.mk (fun (i : Nat) (hi : i < N) (w2 : World) (h : RdC w2 c B D E X vals) => null_any c B D E X i (check_bits hr (by omega)) hc.bits hc.lb w2 h.bits)
  have hval := Aside.mk hval
  clear hc hr
  dsimp only [colV] at hnull hval
  unfold EachG at hG
  obtain ⟨g1, g2⟩ := hG 0 W h0
  obtain ⟨c0, c1, c2, c3, c4, c5, c6, c7⟩ := box8 g2
  have HG := Aside.mk hG
  have HY := Aside.mk hY
  have HJ := Aside.mk hJ
  have H1 := Aside.mk h1
  have H2 := Aside.mk h2
  have HWW := Aside.mk hW
  clear g1 g2 hG hY hJ h1 h2 hW hn
  show CallsIn Fence.wide 8 Tryz.prog 150 #[.func (.yield l) #[] #[], .pointer (some ⟨Bs, 0, none⟩)] W _
  refine callsIn_of_wp Tryz.func150 rfl trivial ?_ rfl; simp only [Tryz.ntmps150, List.size_toArray, List.length_cons, List.length_nil, Nat.reduceAdd, Nat.reduceSub, Array.replicate_succ, Array.replicate_zero, List.push_toArray, List.append_toArray, List.nil_append, List.cons_append]
  gi_wp2_with (refine ⟨trivial, ?_⟩; gi_at_call 86; refine (callsIn_wide.2 (of_f c.k c.s H1.out H2.out HWW.out _)).mono ?_; rintro e w2 ⟨rfl, hb2⟩; replace h0 := HJ.out _ _ _ h0 hb2; clear c0 c1 c2 c3 c4 c5 c6 c7; obtain ⟨g1, g2⟩ := HG.out 0 w2 h0; obtain ⟨c0, c1, c2, c3, c4, c5, c6, c7⟩ := box8 g2; clear g1 g2)
  gi_loopw [11] (fun i wr => ∃ k : Nat, k ≤ N ∧ i = .int .i64 k ∧ J k wr) (fun i _ => N - (intOf i).toNat)
  case atStart => exact ⟨0, Nat.zero_le _, rfl, h0⟩
  case round =>
    obtain ⟨k, hk, rfl, hJs⟩ := hrel
    clear c0 c1 c2 c3 c4 c5 c6 c7 h0 hb2
    by_cases hlt : k < N
    · have hlt2 : (k : Int) < c.n := by rw [HN.out]; omega
      obtain ⟨g1, g2⟩ := HG.out k wr hJs
      obtain ⟨c0, c1, c2, c3, c4, c5, c6, c7⟩ := box8 g2
      have HGB := Aside.mk g2
      clear g1 g2
      cases hnl : nullB c.bits k with
      | true =>
        have HNL := Aside.mk hnl
        have hnull2 := Aside.mk (hnull.out k hlt)
        rw [hnl] at hnull2
        clear hnl
        obtain ⟨hbA, q, hXA⟩ := box_new wr (.int .u64 0) (.slice none 0 0) (.bool true) HGB.out
        obtain ⟨d0, d1, d2, d3, d4, d5, d6, d7⟩ := box8 hXA
        have HB := Aside.mk hbA
        have HQ := Aside.mk q
        clear hbA q hXA
        gi_wp2_with (refine ⟨trivial, ?_⟩; gi_at_call 129; refine (callsIn_wide.2 (hnull2.out _ (HG.out k _ (HJ.out _ _ _ hJs HB.out)).1)).mono ?_; rintro e w3 ⟨rfl, hb3⟩; obtain ⟨q0, q1, q2⟩ := box3 ((hb3.block _ (lt_of_blk HQ.out)).trans HQ.out); obtain ⟨fn, tmps, assign, body, hy, hR⟩ := HY.out k _ w3 hlt (HJ.out _ _ _ hJs (below_chain HB.out hb3)) (eachD_null HNL.out w3); clear hb3)
        refine hR.mono ?_
        rintro e W3 (⟨rfl, hJ3⟩ | ⟨rfl, hJx3⟩)
        · gi_wp2
          go_roundw
          case rel => exact ⟨k + 1, by omega, by go_num, hJ3⟩
          case measure => simp [intOf]; omega
        · gi_wp2
          refine bodyPost_ret (results_none rfl _ _ _) rfl ?_
          exact ⟨⟨_, rfl⟩, .inr hJx3⟩
      | false =>
        have HNL := Aside.mk hnl
        have hnull2 := Aside.mk (hnull.out k hlt)
        have hval2 := Aside.mk (hval.out k hlt hnl)
        have HED := Aside.mk (fun (W : World) (a : Option Addr) (cap : Nat) => eachD_val (c := c) (i := k) hnl (W := W) (a := a) (cap := cap))
        rw [hnl] at hnull2
        clear hnl
        generalize (valueC c k).1 = vb at hval2 HED
        generalize (valueC c k).2 = vt at hval2 HED
        obtain ⟨hbA, q, hXA⟩ := box_new wr (.int .u64 0) (.slice none 0 0) (.bool true) HGB.out
        obtain ⟨d0, d1, d2, d3, d4, d5, d6, d7⟩ := box8 hXA
        have HB := Aside.mk hbA
        have HQ := Aside.mk q
        have HXA := Aside.mk hXA
        clear hbA q hXA
        have hmeth := meth_f
        gi_wp2_with (first
          | (refine ⟨trivial, ?_⟩; gi_at_call 129; refine (callsIn_wide.2 (hnull2.out _ (HG.out k _ (HJ.out _ _ _ hJs HB.out)).1)).mono ?_; rintro e w3 ⟨rfl, hb3⟩; obtain ⟨e0, e1, e2, e3, e4, e5, e6, e7⟩ := box8 ((hb3.block _ (lt_of_blk HXA.out)).trans HXA.out); have HQ3 := Aside.mk ((hb3.block _ (lt_of_blk HQ.out)).trans HQ.out); have HB3 := Aside.mk (below_chain HB.out hb3); have HS3 := Aside.mk (Nat.lt_of_lt_of_le (lt_of_blk HQ.out) hb3.size); clear hb3)
          | (refine ⟨trivial, ?_⟩; gi_at_call 221; refine (callsIn_wide.2 (hval2.out _ (HG.out k _ (HJ.out _ _ _ hJs HB3.out)).1)).mono ?_; rintro e w4 ⟨va, vc, rfl, ho, hb4⟩; have hq4 := (hb4.block _ (lt_of_blk HQ3.out)).trans HQ3.out; obtain ⟨q0, q1, q2⟩ := box3 hq4; have z0 := frozen_blk (k := 0) hq4; have z1 := frozen_blk (k := 1) hq4; have z2 := frozen_blk (k := 2) hq4; have hlt4 := lt_of_blk hq4; obtain ⟨hJ5, hR5⟩ := each_set HS3.out HB3.out hb4 ho (.int .u64 (vb : Int)) (.slice va vt.length vc) (.bool false); obtain ⟨fn, tmps, assign, body, hy, hR⟩ := HY.out k _ _ hlt (HJ.out _ _ _ hJs hJ5) (HED.out _ _ _ hR5); clear hb4 ho hJ5 hR5 hq4))
        refine hR.mono ?_
        rintro e W3 (⟨rfl, hJ3⟩ | ⟨rfl, hJx3⟩)
        · gi_wp2
          go_roundw
          case rel => exact ⟨k + 1, by omega, by go_num, hJ3⟩
          case measure => simp [intOf]; omega
        · gi_wp2
          refine bodyPost_ret (results_none rfl _ _ _) rfl ?_
          exact ⟨⟨_, rfl⟩, .inr hJx3⟩
    · obtain rfl : k = N := by omega
      have hlt2 : ¬ ((k : Int) < c.n) := by rw [HN.out]; omega
      gi_wp2
      go_end0
      exact ⟨⟨_, rfl⟩, .inl hJs⟩
theorem each1_c (c : Col) (h1 : c.k = 16) (hc : COK c) (B D E X : SL) (vals : List Value) (hr : checkC c = 0) (Bs N : Nat) (hn : c.n = (N : Int))
    (hval : ∀ i : Nat, i < N → nullB c.bits i = false → ∀ w2, RdC w2 c B D E X vals → Calls Tryz.prog 224 #[.agg #[.int .i64 4], colV c B D E X, .int .i64 (i : Int)] w2 (ValP (valueC c i).1 (valueC c i).2 w2)) :
    SeqV Tryz.prog 150 #[.pointer (some ⟨Bs, 0, none⟩)] (fun k v => #[.int .i64 (k : Int), v]) (EachD c) (EachG c B D E X vals Bs) N := by
  intro l J Jx W hJ hG hY h0
  have HC := Aside.mk hc
  have HR := Aside.mk hr
  have HN := Aside.mk hn
  have hIN : c.n ≤ 9223372036854775807 := hc.n.2
  have hnull := Aside.mk (fun (i : Nat) (hi : i < N) (w2 : World) (h : RdC w2 c B D E X vals) => null_any c B D E X i (check_bits hr (by omega)) hc.bits hc.lb w2 h.bits)
  have hval := Aside.mk hval
  clear hc hr
  dsimp only [colV] at hnull hval
  unfold EachG at hG
  obtain ⟨g1, g2⟩ := hG 0 W h0
  obtain ⟨c0, c1, c2, c3, c4, c5, c6, c7⟩ := box8 g2
  have HG := Aside.mk hG
  have HY := Aside.mk hY
  have HJ := Aside.mk hJ
  have H1 := Aside.mk h1
  clear g1 g2 hG hY hJ h1 hn
  show CallsIn Fence.wide 8 Tryz.prog 150 #[.func (.yield l) #[] #[], .pointer (some ⟨Bs, 0, none⟩)] W _
  refine callsIn_of_wp Tryz.func150 rfl trivial ?_ rfl; simp only [Tryz.ntmps150, List.size_toArray, List.length_cons, List.length_nil, Nat.reduceAdd, Nat.reduceSub, Array.replicate_succ, Array.replicate_zero, List.push_toArray, List.append_toArray, List.nil_append, List.cons_append]
  gi_wp2_with (refine ⟨trivial, ?_⟩; gi_at_call 86; refine (callsIn_wide.2 (of_ck c H1.out _)).mono ?_; rintro e w2 ⟨rfl, hb2⟩; replace h0 := HJ.out _ _ _ h0 hb2; clear c0 c1 c2 c3 c4 c5 c6 c7; obtain ⟨g1, g2⟩ := HG.out 0 w2 h0; obtain ⟨c0, c1, c2, c3, c4, c5, c6, c7⟩ := box8 g2; clear g1 g2)
  gi_loopw [11] (fun i wr => ∃ k : Nat, k ≤ N ∧ i = .int .i64 k ∧ J k wr) (fun i _ => N - (intOf i).toNat)
  case atStart => exact ⟨0, Nat.zero_le _, rfl, h0⟩
  case round =>
    obtain ⟨k, hk, rfl, hJs⟩ := hrel
    clear c0 c1 c2 c3 c4 c5 c6 c7 h0 hb2
    by_cases hlt : k < N
    · have hlt2 : (k : Int) < c.n := by rw [HN.out]; omega
      obtain ⟨g1, g2⟩ := HG.out k wr hJs
      obtain ⟨c0, c1, c2, c3, c4, c5, c6, c7⟩ := box8 g2
      have HGB := Aside.mk g2
      clear g1 g2
      cases hnl : nullB c.bits k with
      | true =>
        have HNL := Aside.mk hnl
        have hnull2 := Aside.mk (hnull.out k hlt)
        rw [hnl] at hnull2
        clear hnl
        obtain ⟨hbA, q, hXA⟩ := box_new wr (.int .u64 0) (.slice none 0 0) (.bool true) HGB.out
        obtain ⟨d0, d1, d2, d3, d4, d5, d6, d7⟩ := box8 hXA
        have HB := Aside.mk hbA
        have HQ := Aside.mk q
        clear hbA q hXA
        gi_wp2_with (refine ⟨trivial, ?_⟩; gi_at_call 129; refine (callsIn_wide.2 (hnull2.out _ (HG.out k _ (HJ.out _ _ _ hJs HB.out)).1)).mono ?_; rintro e w3 ⟨rfl, hb3⟩; obtain ⟨q0, q1, q2⟩ := box3 ((hb3.block _ (lt_of_blk HQ.out)).trans HQ.out); obtain ⟨fn, tmps, assign, body, hy, hR⟩ := HY.out k _ w3 hlt (HJ.out _ _ _ hJs (below_chain HB.out hb3)) (eachD_null HNL.out w3); clear hb3)
        refine hR.mono ?_
        rintro e W3 (⟨rfl, hJ3⟩ | ⟨rfl, hJx3⟩)
        · gi_wp2
          go_roundw
          case rel => exact ⟨k + 1, by omega, by go_num, hJ3⟩
          case measure => simp [intOf]; omega
        · gi_wp2
          refine bodyPost_ret (results_none rfl _ _ _) rfl ?_
          exact ⟨⟨_, rfl⟩, .inr hJx3⟩
      | false =>
        have HNL := Aside.mk hnl
        have hnull2 := Aside.mk (hnull.out k hlt)
        have hval2 := Aside.mk (hval.out k hlt hnl)
        have HED := Aside.mk (fun (W : World) (a : Option Addr) (cap : Nat) => eachD_val (c := c) (i := k) hnl (W := W) (a := a) (cap := cap))
        rw [hnl] at hnull2
        clear hnl
        generalize (valueC c k).1 = vb at hval2 HED
        generalize (valueC c k).2 = vt at hval2 HED
        obtain ⟨hbA, q, hXA⟩ := box_new wr (.int .u64 0) (.slice none 0 0) (.bool true) HGB.out
        obtain ⟨d0, d1, d2, d3, d4, d5, d6, d7⟩ := box8 hXA
        have HB := Aside.mk hbA
        have HQ := Aside.mk q
        have HXA := Aside.mk hXA
        clear hbA q hXA
        have hmeth := meth_c
        gi_wp2_with (first
          | (refine ⟨trivial, ?_⟩; gi_at_call 129; refine (callsIn_wide.2 (hnull2.out _ (HG.out k _ (HJ.out _ _ _ hJs HB.out)).1)).mono ?_; rintro e w3 ⟨rfl, hb3⟩; obtain ⟨e0, e1, e2, e3, e4, e5, e6, e7⟩ := box8 ((hb3.block _ (lt_of_blk HXA.out)).trans HXA.out); have HQ3 := Aside.mk ((hb3.block _ (lt_of_blk HQ.out)).trans HQ.out); have HB3 := Aside.mk (below_chain HB.out hb3); have HS3 := Aside.mk (Nat.lt_of_lt_of_le (lt_of_blk HQ.out) hb3.size); clear hb3)
          | (refine ⟨trivial, ?_⟩; gi_at_call 224; refine (callsIn_wide.2 (hval2.out _ (HG.out k _ (HJ.out _ _ _ hJs HB3.out)).1)).mono ?_; rintro e w4 ⟨va, vc, rfl, ho, hb4⟩; have hq4 := (hb4.block _ (lt_of_blk HQ3.out)).trans HQ3.out; obtain ⟨q0, q1, q2⟩ := box3 hq4; have z0 := frozen_blk (k := 0) hq4; have z1 := frozen_blk (k := 1) hq4; have z2 := frozen_blk (k := 2) hq4; have hlt4 := lt_of_blk hq4; obtain ⟨hJ5, hR5⟩ := each_set HS3.out HB3.out hb4 ho (.int .u64 (vb : Int)) (.slice va vt.length vc) (.bool false); obtain ⟨fn, tmps, assign, body, hy, hR⟩ := HY.out k _ _ hlt (HJ.out _ _ _ hJs hJ5) (HED.out _ _ _ hR5); clear hb4 ho hJ5 hR5 hq4))
        refine hR.mono ?_
        rintro e W3 (⟨rfl, hJ3⟩ | ⟨rfl, hJx3⟩)
        · gi_wp2
          go_roundw
          case rel => exact ⟨k + 1, by omega, by go_num, hJ3⟩
          case measure => simp [intOf]; omega
        · gi_wp2
          refine bodyPost_ret (results_none rfl _ _ _) rfl ?_
          exact ⟨⟨_, rfl⟩, .inr hJx3⟩
    · obtain rfl : k = N := by omega
      have hlt2 : ¬ ((k : Int) < c.n) := by rw [HN.out]; omega
      gi_wp2
      go_end0
      exact ⟨⟨_, rfl⟩, .inl hJs⟩
theorem each1_r (c : Col) (h1 : c.k = 15) (hc : COK c) (B D E X : SL) (vals : List Value) (hr : checkC c = 0) (Bs N : Nat) (hn : c.n = (N : Int))
    (hval : ∀ i : Nat, i < N → nullB c.bits i = false → ∀ w2, RdC w2 c B D E X vals → Calls Tryz.prog 219 #[.agg #[], colV c B D E X, .int .i64 (i : Int)] w2 (ValP (valueC c i).1 (valueC c i).2 w2)) :
    SeqV Tryz.prog 150 #[.pointer (some ⟨Bs, 0, none⟩)] (fun k v => #[.int .i64 (k : Int), v]) (EachD c) (EachG c B D E X vals Bs) N := by
  intro l J Jx W hJ hG hY h0
  have HC := Aside.mk hc
  have HR := Aside.mk hr
  have HN := Aside.mk hn
  have hIN : c.n ≤ 9223372036854775807 := hc.n.2
  have hnull := Aside.mk (fun (i : Nat) (hi : i < N) (w2 : World) (h : RdC w2 c B D E X vals) => null_any c B D E X i (check_bits hr (by omega)) hc.bits hc.lb w2 h.bits)
  have hval := Aside.mk hval
  clear hc hr
  dsimp only [colV] at hnull hval
  unfold EachG at hG
  obtain ⟨g1, g2⟩ := hG 0 W h0
  obtain ⟨c0, c1, c2, c3, c4, c5, c6, c7⟩ := box8 g2
  have HG := Aside.mk hG
  have HY := Aside.mk hY
  have HJ := Aside.mk hJ
  have H1 := Aside.mk h1
  clear g1 g2 hG hY hJ h1 hn
  show CallsIn Fence.wide 8 Tryz.prog 150 #[.func (.yield l) #[] #[], .pointer (some ⟨Bs, 0, none⟩)] W _
  refine callsIn_of_wp Tryz.func150 rfl trivial ?_ rfl; simp only [Tryz.ntmps150, List.size_toArray, List.length_cons, List.length_nil, Nat.reduceAdd, Nat.reduceSub, Array.replicate_succ, Array.replicate_zero, List.push_toArray, List.append_toArray, List.nil_append, List.cons_append]
  gi_wp2_with (refine ⟨trivial, ?_⟩; gi_at_call 86; refine (callsIn_wide.2 (of_rk c H1.out _)).mono ?_; rintro e w2 ⟨rfl, hb2⟩; replace h0 := HJ.out _ _ _ h0 hb2; clear c0 c1 c2 c3 c4 c5 c6 c7; obtain ⟨g1, g2⟩ := HG.out 0 w2 h0; obtain ⟨c0, c1, c2, c3, c4, c5, c6, c7⟩ := box8 g2; clear g1 g2)
  gi_loopw [11] (fun i wr => ∃ k : Nat, k ≤ N ∧ i = .int .i64 k ∧ J k wr) (fun i _ => N - (intOf i).toNat)
  case atStart => exact ⟨0, Nat.zero_le _, rfl, h0⟩
  case round =>
    obtain ⟨k, hk, rfl, hJs⟩ := hrel
    clear c0 c1 c2 c3 c4 c5 c6 c7 h0 hb2
    by_cases hlt : k < N
    · have hlt2 : (k : Int) < c.n := by rw [HN.out]; omega
      obtain ⟨g1, g2⟩ := HG.out k wr hJs
      obtain ⟨c0, c1, c2, c3, c4, c5, c6, c7⟩ := box8 g2
      have HGB := Aside.mk g2
      clear g1 g2
      cases hnl : nullB c.bits k with
      | true =>
        have HNL := Aside.mk hnl
        have hnull2 := Aside.mk (hnull.out k hlt)
        rw [hnl] at hnull2
        clear hnl
        obtain ⟨hbA, q, hXA⟩ := box_new wr (.int .u64 0) (.slice none 0 0) (.bool true) HGB.out
        obtain ⟨d0, d1, d2, d3, d4, d5, d6, d7⟩ := box8 hXA
        have HB := Aside.mk hbA
        have HQ := Aside.mk q
        clear hbA q hXA
        gi_wp2_with (refine ⟨trivial, ?_⟩; gi_at_call 129; refine (callsIn_wide.2 (hnull2.out _ (HG.out k _ (HJ.out _ _ _ hJs HB.out)).1)).mono ?_; rintro e w3 ⟨rfl, hb3⟩; obtain ⟨q0, q1, q2⟩ := box3 ((hb3.block _ (lt_of_blk HQ.out)).trans HQ.out); obtain ⟨fn, tmps, assign, body, hy, hR⟩ := HY.out k _ w3 hlt (HJ.out _ _ _ hJs (below_chain HB.out hb3)) (eachD_null HNL.out w3); clear hb3)
        refine hR.mono ?_
        rintro e W3 (⟨rfl, hJ3⟩ | ⟨rfl, hJx3⟩)
        · gi_wp2
          go_roundw
          case rel => exact ⟨k + 1, by omega, by go_num, hJ3⟩
          case measure => simp [intOf]; omega
        · gi_wp2
          refine bodyPost_ret (results_none rfl _ _ _) rfl ?_
          exact ⟨⟨_, rfl⟩, .inr hJx3⟩
      | false =>
        have HNL := Aside.mk hnl
        have hnull2 := Aside.mk (hnull.out k hlt)
        have hval2 := Aside.mk (hval.out k hlt hnl)
        have HED := Aside.mk (fun (W : World) (a : Option Addr) (cap : Nat) => eachD_val (c := c) (i := k) hnl (W := W) (a := a) (cap := cap))
        rw [hnl] at hnull2
        clear hnl
        generalize (valueC c k).1 = vb at hval2 HED
        generalize (valueC c k).2 = vt at hval2 HED
        obtain ⟨hbA, q, hXA⟩ := box_new wr (.int .u64 0) (.slice none 0 0) (.bool true) HGB.out
        obtain ⟨d0, d1, d2, d3, d4, d5, d6, d7⟩ := box8 hXA
        have HB := Aside.mk hbA
        have HQ := Aside.mk q
        have HXA := Aside.mk hXA
        clear hbA q hXA
        have hmeth := meth_r
        gi_wp2_with (first
          | (refine ⟨trivial, ?_⟩; gi_at_call 129; refine (callsIn_wide.2 (hnull2.out _ (HG.out k _ (HJ.out _ _ _ hJs HB.out)).1)).mono ?_; rintro e w3 ⟨rfl, hb3⟩; obtain ⟨e0, e1, e2, e3, e4, e5, e6, e7⟩ := box8 ((hb3.block _ (lt_of_blk HXA.out)).trans HXA.out); have HQ3 := Aside.mk ((hb3.block _ (lt_of_blk HQ.out)).trans HQ.out); have HB3 := Aside.mk (below_chain HB.out hb3); have HS3 := Aside.mk (Nat.lt_of_lt_of_le (lt_of_blk HQ.out) hb3.size); clear hb3)
          | (refine ⟨trivial, ?_⟩; gi_at_call 219; refine (callsIn_wide.2 (hval2.out _ (HG.out k _ (HJ.out _ _ _ hJs HB3.out)).1)).mono ?_; rintro e w4 ⟨va, vc, rfl, ho, hb4⟩; have hq4 := (hb4.block _ (lt_of_blk HQ3.out)).trans HQ3.out; obtain ⟨q0, q1, q2⟩ := box3 hq4; have z0 := frozen_blk (k := 0) hq4; have z1 := frozen_blk (k := 1) hq4; have z2 := frozen_blk (k := 2) hq4; have hlt4 := lt_of_blk hq4; obtain ⟨hJ5, hR5⟩ := each_set HS3.out HB3.out hb4 ho (.int .u64 (vb : Int)) (.slice va vt.length vc) (.bool false); obtain ⟨fn, tmps, assign, body, hy, hR⟩ := HY.out k _ _ hlt (HJ.out _ _ _ hJs hJ5) (HED.out _ _ _ hR5); clear hb4 ho hJ5 hR5 hq4))
        refine hR.mono ?_
        rintro e W3 (⟨rfl, hJ3⟩ | ⟨rfl, hJx3⟩)
        · gi_wp2
          go_roundw
          case rel => exact ⟨k + 1, by omega, by go_num, hJ3⟩
          case measure => simp [intOf]; omega
        · gi_wp2
          refine bodyPost_ret (results_none rfl _ _ _) rfl ?_
          exact ⟨⟨_, rfl⟩, .inr hJx3⟩
    · obtain rfl : k = N := by omega
      have hlt2 : ¬ ((k : Int) < c.n) := by rw [HN.out]; omega
      gi_wp2
      go_end0
      exact ⟨⟨_, rfl⟩, .inl hJs⟩
theorem each1_any (c : Col) (hc : COK c) (B D E X : SL) (vals : List Value) (hr : checkC c = 0) (hDa : D.a = none ∨ ∃ g off, D.a = some ⟨g, off, none⟩) (Bs N : Nat) (hn : c.n = (N : Int)) :
    SeqV Tryz.prog 150 #[.pointer (some ⟨Bs, 0, none⟩)] (fun k v => #[.int .i64 (k : Int), v]) (EachD c) (EachG c B D E X vals Bs) N := by
  obtain ⟨ho, _, _, _⟩ := check_zero hr
  by_cases h15 : c.k = 15
  · refine each1_r c h15 hc B D E X vals hr Bs N hn (fun i hi hnl w h => ?_)
    obtain ⟨hn2, _⟩ := running_facts hr h15
    have hie : i < c.ends.length := by omega
    obtain ⟨f, t, e1, e2, hft, htd⟩ := check_ends hr h15 i hie
    have ev : valueC c i = (0, (c.data.drop f).take (t - f)) := by
      unfold valueC
      rw [if_pos h15, e1, e2, Int.toNat_natCast]
      congr 2
      omega
    rw [ev]
    rcases hDa with hD | ⟨g, off, hD⟩
    · obtain ⟨_, a, cap, e, _, _, h0, _⟩ := h.data
      simp only [Value.slice.injEq, true_and] at e
      have hd0 := (h0 (by rw [← e.1, hD])).1
      obtain rfl : t = 0 := by omega
      obtain rfl : f = 0 := by omega
      have := value_r0 c hc B D E X vals i hie (by simpa using e1) (by simpa using e2) hD w h
      simpa using this
    · exact value_r c hc B D E X vals i f t hie e1 e2 hft htd g off hD w h
  by_cases h16 : c.k = 16
  · refine each1_c c h16 hc B D E X vals hr Bs N hn (fun i hi hnl w h => ?_)
    have hx := check_code hr h16 (by omega) hnl
    have hs := (coded_facts hr h16).1
    have ev : valueC c i = (0, c.words.getD (wordAt c.data (i * 4) 4) []) := by
      unfold valueC
      rw [if_neg h15, if_pos h16]
    rw [ev]
    exact value_c c hc B D E X vals i (sized_room hs i (by omega)) hx w h
  · obtain ⟨W, hW, hW8⟩ := width_eight ho h15
    refine each1_f c h15 h16 hW hc B D E X vals hr Bs N hn (fun i hi hnl w h => ?_)
    have ev : valueC c i = (wordAt c.data (i * W) W, []) := by
      unfold valueC
      rw [if_neg h15, if_neg h16, hW, Int.toNat_natCast]
    rw [ev]
    exact value_f W hW8 c hc B D E X vals i (check_room hr h15 h16 hW (by omega)) w h
theorem each_any (c : Col) (B D E X : SL) (w : World) : Calls Tryz.prog 83 #[colV c B D E X] w fun e w' =>
    e = .returned (.func (.func 150) #[] #[.pointer (some ⟨w.heap.size, 0, none⟩)]) ∧ Below w.heap.size w w' ∧ w'.heap[w.heap.size]? = some (.cells #[.int .i64 c.k, .int .i64 c.s, .int .i64 c.n, .int .i64 c.m, .slice B.a c.bits.length B.c, .slice D.a c.data.length D.c, .slice E.a c.ends.length E.c, .slice X.a c.words.length X.c] 63 (0, 0)) := by
  dsimp only [colV]
  go_enter Tryz.func83, Tryz.ntmps83
  go_wp2
  go_ret
  exact ⟨rfl, (Below.refl _ w).alloc (Nat.le_refl _) _, heap_alloc_new w _⟩
end Go.Proofs.YtmhjjhaipcgbiaaGreat


namespace Go.Proofs.YtmhjjhaipcgbiaaGreat
open Go.RowKit
set_option linter.unusedVariables false
set_option linter.unusedSimpArgs false
set_option maxRecDepth 100000
set_option maxHeartbeats 2000000
def cmpS (x y : Int) : Int := if x < y then -1 else if y < x then 1 else 0
theorem cmpS_lt {x y : Int} (h : x < y) : cmpS x y = -1 := by unfold cmpS; rw [if_pos h]
theorem cmpS_gt {x y : Int} (h : y < x) : cmpS x y = 1 := by unfold cmpS; rw [if_neg (by omega), if_pos h]
theorem cmpS_eq {x y : Int} (h : x = y) : cmpS x y = 0 := by unfold cmpS; rw [if_neg (by omega), if_neg (by omega)]
theorem cmpS_mul (x y : Int) {c : Int} (h : 0 < c) : cmpS (x * c) (y * c) = cmpS x y := by
  rcases (by omega : x < y ∨ y < x ∨ x = y) with g | g | rfl
  · rw [cmpS_lt g, cmpS_lt (Int.mul_lt_mul_of_pos_right g h)]
  · rw [cmpS_gt g, cmpS_gt (Int.mul_lt_mul_of_pos_right g h)]
  · rw [cmpS_eq rfl, cmpS_eq rfl]
theorem isnan_u (a : Int) (w : World) : Calls Tryz.prog 192 #[.int .u64 a] w fun e w' => e = .returned (.bool false) ∧ w = w' := by
  go_enter Tryz.func192, Tryz.ntmps192
  go_wp2
  go_ret
  exact ⟨rfl, rfl⟩
theorem isnan_i (a : Int) (w : World) : Calls Tryz.prog 193 #[.int .i64 a] w fun e w' => e = .returned (.bool false) ∧ w = w' := by
  go_enter Tryz.func193, Tryz.ntmps193
  go_wp2
  go_ret
  exact ⟨rfl, rfl⟩
theorem compare_u (a b : Int) (w : World) : Calls Tryz.prog 172 #[.int .u64 a, .int .u64 b] w fun e w' => e = .returned (.int .i64 (cmpS a b)) ∧ w = w' := by
  rcases (by omega : a < b ∨ b < a ∨ a = b) with h | h | rfl
  · rw [cmpS_lt h]
    go_enter Tryz.func172, Tryz.ntmps172
    go_wp2_with (go_at_call 192; refine (isnan_u _ _).mono ?_; rintro e w1 ⟨rfl, rfl⟩)
    go_ret
    exact ⟨rfl, rfl⟩
  · rw [cmpS_gt h]
    have h1 : decide (a < b) = false := by simp; omega
    go_enter Tryz.func172, Tryz.ntmps172
    go_wp2_with (go_at_call 192; refine (isnan_u _ _).mono ?_; rintro e w1 ⟨rfl, rfl⟩)
    go_ret
    exact ⟨rfl, rfl⟩
  · rw [cmpS_eq rfl]
    go_enter Tryz.func172, Tryz.ntmps172
    go_wp2_with (go_at_call 192; refine (isnan_u _ _).mono ?_; rintro e w1 ⟨rfl, rfl⟩)
    go_ret
    exact ⟨rfl, rfl⟩
theorem compare_i (a b : Int) (w : World) : Calls Tryz.prog 173 #[.int .i64 a, .int .i64 b] w fun e w' => e = .returned (.int .i64 (cmpS a b)) ∧ w = w' := by
  rcases (by omega : a < b ∨ b < a ∨ a = b) with h | h | rfl
  · rw [cmpS_lt h]
    go_enter Tryz.func173, Tryz.ntmps173
    go_wp2_with (go_at_call 193; refine (isnan_i _ _).mono ?_; rintro e w1 ⟨rfl, rfl⟩)
    go_ret
    exact ⟨rfl, rfl⟩
  · rw [cmpS_gt h]
    have h1 : decide (a < b) = false := by simp; omega
    go_enter Tryz.func173, Tryz.ntmps173
    go_wp2_with (go_at_call 193; refine (isnan_i _ _).mono ?_; rintro e w1 ⟨rfl, rfl⟩)
    go_ret
    exact ⟨rfl, rfl⟩
  · rw [cmpS_eq rfl]
    go_enter Tryz.func173, Tryz.ntmps173
    go_wp2_with (go_at_call 193; refine (isnan_i _ _).mono ?_; rintro e w1 ⟨rfl, rfl⟩)
    go_ret
    exact ⟨rfl, rfl⟩
theorem worder_i (a b : Int) (w : World) : Calls Tryz.prog 194 #[.int .i64 a, .int .i64 b] w fun e w' => e = .returned (.int .i64 (cmpS a b)) ∧ w = w' := by
  rcases (by omega : a < b ∨ b < a ∨ a = b) with h | h | rfl
  · rw [cmpS_lt h]
    go_enter Tryz.func194, Tryz.ntmps194
    go_wp2
    go_ret
    exact ⟨rfl, rfl⟩
  · rw [cmpS_gt h]
    have h1 : decide (a < b) = false := by simp; omega
    go_enter Tryz.func194, Tryz.ntmps194
    go_wp2
    go_ret
    exact ⟨rfl, rfl⟩
  · rw [cmpS_eq rfl]
    go_enter Tryz.func194, Tryz.ntmps194
    go_wp2
    go_ret
    exact ⟨rfl, rfl⟩
theorem worder_u (a b : Int) (w : World) : Calls Tryz.prog 195 #[.int .u64 a, .int .u64 b] w fun e w' => e = .returned (.int .i64 (cmpS a b)) ∧ w = w' := by
  rcases (by omega : a < b ∨ b < a ∨ a = b) with h | h | rfl
  · rw [cmpS_lt h]
    go_enter Tryz.func195, Tryz.ntmps195
    go_wp2
    go_ret
    exact ⟨rfl, rfl⟩
  · rw [cmpS_gt h]
    have h1 : decide (a < b) = false := by simp; omega
    go_enter Tryz.func195, Tryz.ntmps195
    go_wp2
    go_ret
    exact ⟨rfl, rfl⟩
  · rw [cmpS_eq rfl]
    go_enter Tryz.func195, Tryz.ntmps195
    go_wp2
    go_ret
    exact ⟨rfl, rfl⟩
def keyF (H b : Int) : Int := if b < H then b % H else -(b % H)
theorem keyF_lt {H b : Int} (h : b < H) (h0 : 0 ≤ b) : keyF H b = b ∧ b % H = b := by
  have : b % H = b := Int.emod_eq_of_lt h0 h
  exact ⟨by unfold keyF; rw [if_pos h, this], this⟩
theorem keyF_ge {H b : Int} (h : H ≤ b) (h2 : b < 2 * H) (hH : 0 < H) : keyF H b = -(b - H) ∧ b % H = b - H := by
  have : b % H = b - H := by rw [← Int.sub_emod_right b H]; exact Int.emod_eq_of_lt (by omega) (by omega)
  exact ⟨by unfold keyF; rw [if_neg (by omega), this], this⟩
theorem forder_32 (b : Int) (h0 : 0 ≤ b) (h1 : b < 4294967296) (hn : nan32 b = false) (w : World) : Calls Tryz.prog 191 #[.agg #[.int .i64 24, .int .i64 (-149), .int .i64 32], .int .u64 b] w fun e w' => e = .returned (.tuple #[.int .i64 (keyF 2147483648 b), .bool true]) ∧ Below w.heap.size w w' := by
  unfold nan32 at hn
  have hn : ¬ 2139095040 < b % 2147483648 := by simpa using hn
  have hst := strip_32 b h0 h1
  rcases (by omega : b < 2147483648 ∨ 2147483648 ≤ b) with hb | hb
  · obtain ⟨k1, k2⟩ := keyF_lt hb h0
    rw [k1]
    rw [k2] at hst hn
    have hne : (b != b) = false := by simp
    clear k1 k2
    go_enter Tryz.func191, Tryz.ntmps191
    go_wp2_with (first | (go_at_call 177; refine (sign_32 _).mono ?_; rintro e w1 ⟨rfl, rfl⟩) | (go_at_call 178; refine (inf_32 _).mono ?_; rintro e w2 ⟨rfl, hb2⟩; have HB2 := Aside.mk hb2; clear hb2))
    go_ret2
    exact ⟨rfl, ((below_new w _).trans ((below_new _ _).mono (by simp))).trans (HB2.out.mono (by simp; omega))⟩
  · obtain ⟨k1, k2⟩ := keyF_ge hb (by omega) (by omega)
    rw [k1]
    rw [k2] at hst hn
    have hne : (b != b - 2147483648) = true := by simp; omega
    have hw1 : wrap64 (b - 2147483648) = b - 2147483648 := by unfold wrap64; omega
    have hw2 : wrap64 (-(b - 2147483648)) = -(b - 2147483648) := by unfold wrap64; omega
    clear k1 k2
    go_enter Tryz.func191, Tryz.ntmps191
    go_wp2_with (first | (go_at_call 177; refine (sign_32 _).mono ?_; rintro e w1 ⟨rfl, rfl⟩) | (go_at_call 178; refine (inf_32 _).mono ?_; rintro e w2 ⟨rfl, hb2⟩; have HB2 := Aside.mk hb2; clear hb2))
    go_ret2
    exact ⟨rfl, ((below_new w _).trans ((below_new _ _).mono (by simp))).trans (HB2.out.mono (by simp; omega))⟩
theorem forder_64 (b : Int) (h0 : 0 ≤ b) (h1 : b ≤ 18446744073709551615) (hn : nan64 b = false) (w : World) : Calls Tryz.prog 191 #[.agg #[.int .i64 53, .int .i64 (-1074), .int .i64 64], .int .u64 b] w fun e w' => e = .returned (.tuple #[.int .i64 (keyF 9223372036854775808 b), .bool true]) ∧ Below w.heap.size w w' := by
  unfold nan64 at hn
  have hn : ¬ 9218868437227405312 < b % 9223372036854775808 := by simpa using hn
  have hst := strip_64 b h0 h1
  rcases (by omega : b < 9223372036854775808 ∨ 9223372036854775808 ≤ b) with hb | hb
  · obtain ⟨k1, k2⟩ := keyF_lt hb h0
    rw [k1]
    rw [k2] at hst hn
    have hne : (b != b) = false := by simp
    clear k1 k2
    go_enter Tryz.func191, Tryz.ntmps191
    go_wp2_with (first | (go_at_call 177; refine (sign_64 _).mono ?_; rintro e w1 ⟨rfl, rfl⟩) | (go_at_call 178; refine (inf_64 _).mono ?_; rintro e w2 ⟨rfl, hb2⟩; have HB2 := Aside.mk hb2; clear hb2))
    go_ret2
    exact ⟨rfl, ((below_new w _).trans ((below_new _ _).mono (by simp))).trans (HB2.out.mono (by simp; omega))⟩
  · obtain ⟨k1, k2⟩ := keyF_ge hb (by omega) (by omega)
    rw [k1]
    rw [k2] at hst hn
    have hne : (b != b - 9223372036854775808) = true := by simp; omega
    have hw1 : wrap64 (b - 9223372036854775808) = b - 9223372036854775808 := by unfold wrap64; omega
    have hw2 : wrap64 (-(b - 9223372036854775808)) = -(b - 9223372036854775808) := by unfold wrap64; omega
    clear k1 k2
    go_enter Tryz.func191, Tryz.ntmps191
    go_wp2_with (first | (go_at_call 177; refine (sign_64 _).mono ?_; rintro e w1 ⟨rfl, rfl⟩) | (go_at_call 178; refine (inf_64 _).mono ?_; rintro e w2 ⟨rfl, hb2⟩; have HB2 := Aside.mk hb2; clear hb2))
    go_ret2
    exact ⟨rfl, ((below_new w _).trans ((below_new _ _).mono (by simp))).trans (HB2.out.mono (by simp; omega))⟩
theorem fcmp_32 (a b : Int) (ha0 : 0 ≤ a) (ha1 : a < 4294967296) (hna : nan32 a = false) (hb0 : 0 ≤ b) (hb1 : b < 4294967296) (hnb : nan32 b = false) (w : World) : Calls Tryz.prog 171 #[.int .i64 9, .int .u64 a, .int .u64 b] w fun e w' => e = .returned (.tuple #[.int .i64 (cmpS (keyF 2147483648 a) (keyF 2147483648 b)), .int .i64 0]) ∧ Below w.heap.size w w' := by
  have HA := Aside.mk (fun W => forder_32 a ha0 ha1 hna W)
  have HB := Aside.mk (fun W => forder_32 b hb0 hb1 hnb W)
  have HOA := Aside.mk (fun W => own_32 a ha0 ha1 W)
  have HOB := Aside.mk (fun W => own_32 b hb0 hb1 W)
  clear ha0 ha1 hna hb0 hb1 hnb
  generalize keyF 2147483648 a = x at *
  generalize keyF 2147483648 b = y at *
  go_enter Tryz.func171, Tryz.ntmps171
  go_upto_region 4 with (go_at_call 176; refine (HOA.out _).mono ?_; rintro e w1 ⟨rfl, hb1⟩; have B1 := Aside.mk hb1; clear hb1)
  have hx := heap_alloc_new w1 (.cells #[.int .i64 24, .int .i64 (-149), .int .i64 32] 255)
  have B2 := Aside.mk (below_chain B1.out (below_new w1 (.cells #[.int .i64 24, .int .i64 (-149), .int .i64 32] 255)))
  generalize w1.alloc (.cells #[.int .i64 24, .int .i64 (-149), .int .i64 32] 255) = w2 at *
  have HX := Aside.mk hx
  clear hx
  go_upto_region 7 with (go_at_call 176; refine (HOB.out _).mono ?_; rintro e w3 ⟨rfl, hb3⟩; have B3 := Aside.mk (below_chain B2.out hb3); replace HX := Aside.mk ((hb3.block _ (lt_of_blk HX.out)).trans HX.out); clear hb3)
  obtain ⟨q0, q1, q2⟩ := box3 HX.out
  go_upto_region 8 with (go_at_call 191; refine (HA.out _).mono ?_; rintro e w4 ⟨rfl, hb4⟩; have B4 := Aside.mk (below_chain B3.out hb4); replace HX := Aside.mk ((hb4.block _ (lt_of_blk HX.out)).trans HX.out); clear hb4)
  clear q0 q1 q2
  obtain ⟨q0, q1, q2⟩ := box3 HX.out
  go_upto_region 9 with (go_at_call 191; refine (HB.out _).mono ?_; rintro e w5 ⟨rfl, hb5⟩; have B5 := Aside.mk (below_chain B4.out hb5); clear hb5)
  rcases (by omega : x < y ∨ y < x ∨ x = y) with h | h | rfl
  · go_wp2
    go_ret2
    exact ⟨by rw [cmpS_lt h]; rfl, B5.out⟩
  · have h1 : decide (x < y) = false := by simp; omega
    go_wp2
    go_ret2
    exact ⟨by rw [cmpS_gt h]; rfl, B5.out⟩
  · go_wp2
    go_ret2
    exact ⟨by rw [cmpS_eq rfl]; rfl, B5.out⟩
theorem fcmp_64 (a b : Int) (ha0 : 0 ≤ a) (ha1 : a ≤ 18446744073709551615) (hna : nan64 a = false) (hb0 : 0 ≤ b) (hb1 : b ≤ 18446744073709551615) (hnb : nan64 b = false) (w : World) : Calls Tryz.prog 171 #[.int .i64 10, .int .u64 a, .int .u64 b] w fun e w' => e = .returned (.tuple #[.int .i64 (cmpS (keyF 9223372036854775808 a) (keyF 9223372036854775808 b)), .int .i64 0]) ∧ Below w.heap.size w w' := by
  have HA := Aside.mk (fun W => forder_64 a ha0 ha1 hna W)
  have HB := Aside.mk (fun W => forder_64 b hb0 hb1 hnb W)
  have HOA := Aside.mk (fun W => own_64 a  W)
  have HOB := Aside.mk (fun W => own_64 b  W)
  clear ha0 ha1 hna hb0 hb1 hnb
  generalize keyF 9223372036854775808 a = x at *
  generalize keyF 9223372036854775808 b = y at *
  go_enter Tryz.func171, Tryz.ntmps171
  go_upto_region 4 with (go_at_call 176; refine (HOA.out _).mono ?_; rintro e w1 ⟨rfl, hb1⟩; have B1 := Aside.mk hb1; clear hb1)
  have hx := heap_alloc_new w1 (.cells #[.int .i64 53, .int .i64 (-1074), .int .i64 64] 255)
  have B2 := Aside.mk (below_chain B1.out (below_new w1 (.cells #[.int .i64 53, .int .i64 (-1074), .int .i64 64] 255)))
  generalize w1.alloc (.cells #[.int .i64 53, .int .i64 (-1074), .int .i64 64] 255) = w2 at *
  have HX := Aside.mk hx
  clear hx
  go_upto_region 7 with (go_at_call 176; refine (HOB.out _).mono ?_; rintro e w3 ⟨rfl, hb3⟩; have B3 := Aside.mk (below_chain B2.out hb3); replace HX := Aside.mk ((hb3.block _ (lt_of_blk HX.out)).trans HX.out); clear hb3)
  obtain ⟨q0, q1, q2⟩ := box3 HX.out
  go_upto_region 8 with (go_at_call 191; refine (HA.out _).mono ?_; rintro e w4 ⟨rfl, hb4⟩; have B4 := Aside.mk (below_chain B3.out hb4); replace HX := Aside.mk ((hb4.block _ (lt_of_blk HX.out)).trans HX.out); clear hb4)
  clear q0 q1 q2
  obtain ⟨q0, q1, q2⟩ := box3 HX.out
  go_upto_region 9 with (go_at_call 191; refine (HB.out _).mono ?_; rintro e w5 ⟨rfl, hb5⟩; have B5 := Aside.mk (below_chain B4.out hb5); clear hb5)
  rcases (by omega : x < y ∨ y < x ∨ x = y) with h | h | rfl
  · go_wp2
    go_ret2
    exact ⟨by rw [cmpS_lt h]; rfl, B5.out⟩
  · have h1 : decide (x < y) = false := by simp; omega
    go_wp2
    go_ret2
    exact ⟨by rw [cmpS_gt h]; rfl, B5.out⟩
  · go_wp2
    go_ret2
    exact ⟨by rw [cmpS_eq rfl]; rfl, B5.out⟩
def keyW (k b : Int) : Int := if k ≤ 4 ∧ maxOf (wbits k) < 2 * b then b - (maxOf (wbits k) + 1) else b
theorem wcmp_u (k a b : Int) (hk : 5 ≤ k ∧ k ≤ 8) (ha : a ≤ maxOf (wbits k)) (hb : b ≤ maxOf (wbits k)) (w : World) : Calls Tryz.prog 174 #[.int .i64 k, .int .u64 a, .int .u64 b] w fun e w' => e = .returned (.tuple #[.int .i64 (cmpS (keyW k a) (keyW k b)), .int .i64 0]) ∧ Below w.heap.size w w' := by
  have ea : keyW k a = a := by unfold keyW; rw [if_neg (by omega)]
  have eb : keyW k b = b := by unfold keyW; rw [if_neg (by omega)]
  rw [ea, eb]
  have HW := Aside.mk (fun W => wwidth_yes k W ⟨by omega, hk.2⟩)
  have hk4 : decide (k ≤ 4) = false := by simp; omega
  rw [hk4] at HW
  have HFA := Aside.mk (fun W => wholeFits_yes k a W ⟨by omega, hk.2⟩)
  have HFB := Aside.mk (fun W => wholeFits_yes k b W ⟨by omega, hk.2⟩)
  rw [show decide (a ≤ maxOf (wbits k)) = true by simpa using ha] at HFA
  rw [show decide (b ≤ maxOf (wbits k)) = true by simpa using hb] at HFB
  clear ha hb hk ea eb hk4
  generalize wbits k = wb at *
  go_enter Tryz.func174, Tryz.ntmps174
  go_upto_region 4 with (go_at_call 184; refine (HW.out _).mono ?_; rintro e w1 ⟨rfl, hb1⟩; have B1 := Aside.mk hb1; clear hb1)
  go_wp2_with fail
  refine (HFA.out _).mono ?_
  rintro e w2 ⟨rfl, hb2⟩
  have B2 := Aside.mk (below_chain B1.out hb2)
  clear hb2
  go_wp2_with fail
  refine (HFB.out _).mono ?_
  rintro e w3 ⟨rfl, hb3⟩
  have B3 := Aside.mk (below_chain B2.out hb3)
  clear hb3
  go_wp2_with (go_at_call 195; refine (worder_u _ _ _).mono ?_; rintro e w4 ⟨rfl, rfl⟩)
  go_ret2
  exact ⟨rfl, B3.out⟩
theorem wcmp_s (k a b : Int) (hk : 1 ≤ k ∧ k ≤ 4) (ha0 : 0 ≤ a) (ha : a ≤ maxOf (wbits k)) (hb0 : 0 ≤ b) (hb : b ≤ maxOf (wbits k)) (w : World) : Calls Tryz.prog 174 #[.int .i64 k, .int .u64 a, .int .u64 b] w fun e w' => e = .returned (.tuple #[.int .i64 (cmpS (keyW k a) (keyW k b)), .int .i64 0]) ∧ Below w.heap.size w w' := by
  have HW := Aside.mk (fun W => wwidth_yes k W ⟨hk.1, by omega⟩)
  have HFA := Aside.mk (fun W => wholeFits_yes k a W ⟨hk.1, by omega⟩)
  have HFB := Aside.mk (fun W => wholeFits_yes k b W ⟨hk.1, by omega⟩)
  rw [show decide (a ≤ maxOf (wbits k)) = true by simpa using ha] at HFA
  rw [show decide (b ≤ maxOf (wbits k)) = true by simpa using hb] at HFB
  have HH := Aside.mk (And.intro hk (And.intro ha0 (And.intro ha (And.intro hb0 hb))))
  clear ha hb ha0 hb0
  obtain rfl | rfl | rfl | rfl : k = 1 ∨ k = 2 ∨ k = 3 ∨ k = 4 := by omega
  · simp only [wbits] at HW
    have ha := HH.out.2.2.1
    have hb := HH.out.2.2.2.2
    have ha0 := HH.out.2.1
    have hb0 := HH.out.2.2.2.1
    have hm : maxOf (wbits 1) = 255 := by decide
    have ea : IntKind.i64.wrap (IntKind.u64.wrap (a * 72057594037927936)) = keyW 1 a * 72057594037927936 := by rw [IntWalk.i64_left, IntKind.wrap_u64]; unfold keyW wrap64; rw [hm]; split <;> omega
    have eb : IntKind.i64.wrap (IntKind.u64.wrap (b * 72057594037927936)) = keyW 1 b * 72057594037927936 := by rw [IntWalk.i64_left, IntKind.wrap_u64]; unfold keyW wrap64; rw [hm]; split <;> omega
    clear ha hb ha0 hb0 hm
    go_enter Tryz.func174, Tryz.ntmps174
    go_upto_region 4 with (go_at_call 184; refine (HW.out _).mono ?_; rintro e w1 ⟨rfl, hb1⟩; have B1 := Aside.mk hb1; clear hb1)
    go_wp2_with fail
    refine (HFA.out _).mono ?_
    rintro e w2 ⟨rfl, hb2⟩
    have B2 := Aside.mk (below_chain B1.out hb2)
    clear hb2
    go_wp2_with fail
    refine (HFB.out _).mono ?_
    rintro e w3 ⟨rfl, hb3⟩
    have B3 := Aside.mk (below_chain B2.out hb3)
    clear hb3
    have c1 : IntKind.i64.wrap 56 = 56 := by decide
    go_upto_region 7 with fail
    go_region_with (go_at_call 194; refine (worder_i _ _ _).mono ?_; rintro e w4 ⟨rfl, rfl⟩)
    all_goals
      go_wp2
      go_ret2
      exact ⟨by rw [← cmpS_mul (keyW 1 a) (keyW 1 b) (show (0 : Int) < 72057594037927936 by decide)]; rfl, B3.out.trans (below_drewN _ _ _)⟩
  · simp only [wbits] at HW
    have ha := HH.out.2.2.1
    have hb := HH.out.2.2.2.2
    have ha0 := HH.out.2.1
    have hb0 := HH.out.2.2.2.1
    have hm : maxOf (wbits 2) = 65535 := by decide
    have ea : IntKind.i64.wrap (IntKind.u64.wrap (a * 281474976710656)) = keyW 2 a * 281474976710656 := by rw [IntWalk.i64_left, IntKind.wrap_u64]; unfold keyW wrap64; rw [hm]; split <;> omega
    have eb : IntKind.i64.wrap (IntKind.u64.wrap (b * 281474976710656)) = keyW 2 b * 281474976710656 := by rw [IntWalk.i64_left, IntKind.wrap_u64]; unfold keyW wrap64; rw [hm]; split <;> omega
    clear ha hb ha0 hb0 hm
    go_enter Tryz.func174, Tryz.ntmps174
    go_upto_region 4 with (go_at_call 184; refine (HW.out _).mono ?_; rintro e w1 ⟨rfl, hb1⟩; have B1 := Aside.mk hb1; clear hb1)
    go_wp2_with fail
    refine (HFA.out _).mono ?_
    rintro e w2 ⟨rfl, hb2⟩
    have B2 := Aside.mk (below_chain B1.out hb2)
    clear hb2
    go_wp2_with fail
    refine (HFB.out _).mono ?_
    rintro e w3 ⟨rfl, hb3⟩
    have B3 := Aside.mk (below_chain B2.out hb3)
    clear hb3
    have c1 : IntKind.i64.wrap 48 = 48 := by decide
    go_upto_region 7 with fail
    go_region_with (go_at_call 194; refine (worder_i _ _ _).mono ?_; rintro e w4 ⟨rfl, rfl⟩)
    all_goals
      go_wp2
      go_ret2
      exact ⟨by rw [← cmpS_mul (keyW 2 a) (keyW 2 b) (show (0 : Int) < 281474976710656 by decide)]; rfl, B3.out.trans (below_drewN _ _ _)⟩
  · simp only [wbits] at HW
    have ha := HH.out.2.2.1
    have hb := HH.out.2.2.2.2
    have ha0 := HH.out.2.1
    have hb0 := HH.out.2.2.2.1
    have hm : maxOf (wbits 3) = 4294967295 := by decide
    have ea : IntKind.i64.wrap (IntKind.u64.wrap (a * 4294967296)) = keyW 3 a * 4294967296 := by rw [IntWalk.i64_left, IntKind.wrap_u64]; unfold keyW wrap64; rw [hm]; split <;> omega
    have eb : IntKind.i64.wrap (IntKind.u64.wrap (b * 4294967296)) = keyW 3 b * 4294967296 := by rw [IntWalk.i64_left, IntKind.wrap_u64]; unfold keyW wrap64; rw [hm]; split <;> omega
    clear ha hb ha0 hb0 hm
    go_enter Tryz.func174, Tryz.ntmps174
    go_upto_region 4 with (go_at_call 184; refine (HW.out _).mono ?_; rintro e w1 ⟨rfl, hb1⟩; have B1 := Aside.mk hb1; clear hb1)
    go_wp2_with fail
    refine (HFA.out _).mono ?_
    rintro e w2 ⟨rfl, hb2⟩
    have B2 := Aside.mk (below_chain B1.out hb2)
    clear hb2
    go_wp2_with fail
    refine (HFB.out _).mono ?_
    rintro e w3 ⟨rfl, hb3⟩
    have B3 := Aside.mk (below_chain B2.out hb3)
    clear hb3
    have c1 : IntKind.i64.wrap 32 = 32 := by decide
    go_upto_region 7 with fail
    go_region_with (go_at_call 194; refine (worder_i _ _ _).mono ?_; rintro e w4 ⟨rfl, rfl⟩)
    all_goals
      go_wp2
      go_ret2
      exact ⟨by rw [← cmpS_mul (keyW 3 a) (keyW 3 b) (show (0 : Int) < 4294967296 by decide)]; rfl, B3.out.trans (below_drewN _ _ _)⟩
  · simp only [wbits] at HW
    have ha := HH.out.2.2.1
    have hb := HH.out.2.2.2.2
    have ha0 := HH.out.2.1
    have hb0 := HH.out.2.2.2.1
    have hm : maxOf (wbits 4) = 18446744073709551615 := by decide
    have ea : IntKind.i64.wrap (IntKind.u64.wrap a) = keyW 4 a * 1 := by rw [IntWalk.i64_left, IntKind.wrap_u64]; unfold keyW wrap64; rw [hm]; split <;> omega
    have eb : IntKind.i64.wrap (IntKind.u64.wrap b) = keyW 4 b * 1 := by rw [IntWalk.i64_left, IntKind.wrap_u64]; unfold keyW wrap64; rw [hm]; split <;> omega
    clear ha hb ha0 hb0 hm
    go_enter Tryz.func174, Tryz.ntmps174
    go_upto_region 4 with (go_at_call 184; refine (HW.out _).mono ?_; rintro e w1 ⟨rfl, hb1⟩; have B1 := Aside.mk hb1; clear hb1)
    go_wp2_with fail
    refine (HFA.out _).mono ?_
    rintro e w2 ⟨rfl, hb2⟩
    have B2 := Aside.mk (below_chain B1.out hb2)
    clear hb2
    go_wp2_with fail
    refine (HFB.out _).mono ?_
    rintro e w3 ⟨rfl, hb3⟩
    have B3 := Aside.mk (below_chain B2.out hb3)
    clear hb3
    have c1 : IntKind.i64.wrap 0 = 0 := by decide
    go_upto_region 7 with fail
    go_region_with (go_at_call 194; refine (worder_i _ _ _).mono ?_; rintro e w4 ⟨rfl, rfl⟩)
    all_goals
      go_wp2
      go_ret2
      exact ⟨by rw [← cmpS_mul (keyW 4 a) (keyW 4 b) (show (0 : Int) < 1 by decide)]; rfl, B3.out.trans (below_drewN _ _ _)⟩
end Go.Proofs.YtmhjjhaipcgbiaaGreat
