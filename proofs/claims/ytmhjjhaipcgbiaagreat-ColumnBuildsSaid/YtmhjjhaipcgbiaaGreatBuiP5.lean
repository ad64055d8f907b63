/- Texts of this claim, one behind the other: Each, Words, AddC, AddT, Wakes, BS, Steps, Append, Few, Join, Cut, BuiltC. -/
import Derived.Test.YtmhjjhaipcgbiaaGreatBuiP4
import Derived.Test.YtmhjjhaipcgbiaaGreatBuiP3
import Derived.Laws.BytesArg
import Derived.Test.YtmhjjhaipcgbiaaGreatBuiP2

/- The function that column.Each hands back tells the values of a column, one by one. (Printed by geneach.py.) -/
namespace Go.Proofs.YtmhjjhaipcgbiaaGreat
open Go.RowKit
set_option linter.unusedVariables false
set_option linter.unusedSimpArgs false
set_option maxRecDepth 100000
set_option maxHeartbeats 4000000
attribute [local go_sem] Oper.semAt_some

/-- The i-th value. -/
def valC (c : Col) (i : Nat) : V := if nullB c.bits i then ⟨true, 0, []⟩ else ⟨false, (valueC c i).1, (valueC c i).2⟩
def valV (v : V) (ta : Option Addr) (tc : Nat) : Value := .agg #[.int .u64 (v.bits : Int), .slice ta v.text.length tc, .bool v.null]
/-- What a round is told. -/
def EachD (c : Col) (i : Nat) (v : Value) (W : World) : Prop := ∃ ta tc, v = valV (valC c i) ta tc ∧ Rd W 1 (.slice ta (valC c i).text.length tc) (valC c i).text.length ((valC c i).text.map (.int .u8))
/-- What a round has to keep: the column's rows and its box. -/
def EachG (c : Col) (B D E X : SL) (vals : List Value) (Bs : Nat) (W : World) : Prop := RdC W c B D E X vals ∧ W.heap[Bs]? = some (.cells #[.int .i64 c.k, .int .i64 c.s, .int .i64 c.n, .int .i64 c.m, .slice B.a c.bits.length B.c, .slice D.a c.data.length D.c, .slice E.a c.ends.length E.c, .slice X.a c.words.length X.c] 63 (0, 0))
theorem check_len {c : Col} (h : checkC c = 0) : ∃ N : Nat, c.n = (N : Int) := by
  obtain ⟨_, h2, h3, _⟩ := check_zero h
  have : 0 ≤ c.m := by unfold maskOK at h2; rw [decide_eq_true_eq] at h2; exact h2.1
  exact ⟨c.n.toNat, by omega⟩
theorem eachD_null {c : Col} {i : Nat} (h : nullB c.bits i = true) (W : World) : EachD c i (.agg #[.int .u64 0, .slice none 0 0, .bool true]) W :=
  ⟨none, 0, by simp [valC, h, valV], by simp [valC, h]; exact Rd.nil _ _⟩
theorem eachD_val {c : Col} {i : Nat} (h : nullB c.bits i = false) {W : World} {a : Option Addr} {cap : Nat} (hr : Rd W 1 (.slice a (valueC c i).2.length cap) (valueC c i).2.length ((valueC c i).2.map (.int .u8))) : EachD c i (.agg #[.int .u64 ((valueC c i).1 : Int), .slice a (valueC c i).2.length cap, .bool false]) W :=
  ⟨a, cap, by simp [valC, h, valV], by simpa [valC, h] using hr⟩
theorem box3 {w : World} {b : Nat} {x0 x1 x2 : Value} {T : TypeId} (h : w.heap[b]? = some (.cells #[x0, x1, x2] T (0, 0))) : w.cell? ⟨b, 0, none⟩ = some x0 ∧ w.cell? ⟨b, 1, none⟩ = some x1 ∧ w.cell? ⟨b, 2, none⟩ = some x2 := by
  refine ⟨?_, ?_, ?_⟩ <;> (rw [cell_blk h]; rfl)
theorem box_new (w : World) (x0 x1 x2 : Value) {b : Nat} {o : Obj} (h : w.heap[b]? = some o) :
    Below w.heap.size w (w.alloc (.cells #[x0, x1, x2] 145)) ∧ (w.alloc (.cells #[x0, x1, x2] 145)).heap[w.heap.size]? = some (.cells #[x0, x1, x2] 145 (0, 0)) ∧ (w.alloc (.cells #[x0, x1, x2] 145)).heap[b]? = some o :=
  ⟨(Below.refl _ w).alloc (Nat.le_refl _) _, heap_alloc_new w _, (Below.heap_alloc w _ b (lt_of_blk h)).trans h⟩
theorem each_set {w w3 w4 : World} {v : Value} {n : Nat} {xs : List Value} (hs : w.heap.size < w3.heap.size) (b3 : Below w.heap.size w w3) (b4 : Below w3.heap.size w3 w4) (h : Own w4 w3.heap.size 5 1 v n xs) (x1 x2 x3 : Value) :
    Below w.heap.size w (((w4.setCell ⟨w.heap.size, 0, none⟩ x1).setCell ⟨w.heap.size, 1, none⟩ x2).setCell ⟨w.heap.size, 2, none⟩ x3) ∧ Rd (((w4.setCell ⟨w.heap.size, 0, none⟩ x1).setCell ⟨w.heap.size, 1, none⟩ x2).setCell ⟨w.heap.size, 2, none⟩ x3) 1 v n xs := by
  have hne : v.ownBlock ≠ some w.heap.size := fun e => by have := (h.lt _ e).1; omega
  exact ⟨(((b3.trans (b4.mono b3.size)).setCell (Nat.le_refl _) _).setCell (Nat.le_refl _) _).setCell (Nat.le_refl _) _,
    (((h.set_other (a := ⟨w.heap.size, 0, none⟩) hne _).set_other (a := ⟨w.heap.size, 1, none⟩) hne _).set_other (a := ⟨w.heap.size, 2, none⟩) hne _).rd⟩
theorem of_ck (c : Col) (h : c.k = 16) (w : World) : Calls Tryz.prog 86 #[.agg #[.int .i64 c.k, .int .i64 c.s]] w (IfP (.iface 167 (.agg #[.int .i64 4])) w) := by rw [h]; exact of_c c.s w
theorem of_rk (c : Col) (h : c.k = 15) (w : World) : Calls Tryz.prog 86 #[.agg #[.int .i64 c.k, .int .i64 c.s]] w (IfP (.iface 162 (.agg #[])) w) := by rw [h]; exact of_r c.s w

theorem each1_f (c : Col) (h1 : c.k ≠ 15) (h2 : c.k ≠ 16) {V : Nat} (hW : widthOf c.k = (V : Int)) (hc : COK c) (B D E X : SL) (vals : List Value) (hr : checkC c = 0) (Bs N : Nat) (hn : c.n = (N : Int))
    (hval : ∀ i : Nat, i < N → nullB c.bits i = false → ∀ w2, RdC w2 c B D E X vals → Calls Tryz.prog 221 #[.agg #[.int .i64 (V : Int)], colV c B D E X, .int .i64 (i : Int)] w2 (ValP (valueC c i).1 (valueC c i).2 w2)) :
    SeqV Tryz.prog 150 #[.pointer (some ⟨Bs, 0, none⟩)] (fun k v => #[.int .i64 (k : Int), v]) (EachD c) (EachG c B D E X vals Bs) N := by
  intro l J Jx W hJ hG hY h0
  have HC := Aside.mk hc
  have HR := Aside.mk hr
  have HN := Aside.mk hn
  have hIN : c.n ≤ 9223372036854775807 := hc.n.2
  have hnull := Aside.mk (fun (i : Nat) (hi : i < N) (w2 : World) (h : RdC w2 c B D E X vals) => null_any c B D E X i (check_bits hr (by omega)) hc.bits hc.lb w2 h.bits)
  have hval := Aside.mk hval
  clear hc hr
  dsimp only [colV] at hnull hval
  unfold EachG at hG
  obtain ⟨g1, g2⟩ := hG 0 W h0
  obtain ⟨c0, c1, c2, c3, c4, c5, c6, c7⟩ := box8 g2
  have HG := Aside.mk hG
  have HY := Aside.mk hY
  have HJ := Aside.mk hJ
  have H1 := Aside.mk h1
  have H2 := Aside.mk h2
  have HWW := Aside.mk hW
  clear g1 g2 hG hY hJ h1 h2 hW hn
  show CallsIn Fence.wide 8 Tryz.prog 150 #[.func (.yield l) #[] #[], .pointer (some ⟨Bs, 0, none⟩)] W _
  refine callsIn_of_wp Tryz.func150 rfl trivial ?_ rfl; simp only [Tryz.ntmps150, List.size_toArray, List.length_cons, List.length_nil, Nat.reduceAdd, Nat.reduceSub, Array.replicate_succ, Array.replicate_zero, List.push_toArray, List.append_toArray, List.nil_append, List.cons_append]
  gi_wp2_with (refine ⟨trivial, ?_⟩; gi_at_call 86; refine (callsIn_wide.2 (of_f c.k c.s H1.out H2.out HWW.out _)).mono ?_; rintro e w2 ⟨rfl, hb2⟩; replace h0 := HJ.out _ _ _ h0 hb2; clear c0 c1 c2 c3 c4 c5 c6 c7; obtain ⟨g1, g2⟩ := HG.out 0 w2 h0; obtain ⟨c0, c1, c2, c3, c4, c5, c6, c7⟩ := box8 g2; clear g1 g2)
  gi_loopw [11] (fun i wr => ∃ k : Nat, k ≤ N ∧ i = .int .i64 k ∧ J k wr) (fun i _ => N - (intOf i).toNat)
  case atStart => exact ⟨0, Nat.zero_le _, rfl, h0⟩
  case round =>
    obtain ⟨k, hk, rfl, hJs⟩ := hrel
    clear c0 c1 c2 c3 c4 c5 c6 c7 h0 hb2
    by_cases hlt : k < N
    · have hlt2 : (k : Int) < c.n := by rw [HN.out]; omega
      obtain ⟨g1, g2⟩ := HG.out k wr hJs
      obtain ⟨c0, c1, c2, c3, c4, c5, c6, c7⟩ := box8 g2
      have HGB := Aside.mk g2
      clear g1 g2
      cases hnl : nullB c.bits k with
      | true =>
        have HNL := Aside.mk hnl
        have hnull2 := Aside.mk (hnull.out k hlt)
        rw [hnl] at hnull2
        clear hnl
        obtain ⟨hbA, q, hXA⟩ := box_new wr (.int .u64 0) (.slice none 0 0) (.bool true) HGB.out
        obtain ⟨d0, d1, d2, d3, d4, d5, d6, d7⟩ := box8 hXA
        have HB := Aside.mk hbA
        have HQ := Aside.mk q
        clear hbA q hXA
        gi_wp2_with (refine ⟨trivial, ?_⟩; gi_at_call 129; refine (callsIn_wide.2 (hnull2.out _ (HG.out k _ (HJ.out _ _ _ hJs HB.out)).1)).mono ?_; rintro e w3 ⟨rfl, hb3⟩; obtain ⟨q0, q1, q2⟩ := box3 ((hb3.block _ (lt_of_blk HQ.out)).trans HQ.out); obtain ⟨fn, tmps, assign, body, hy, hR⟩ := HY.out k _ w3 hlt (HJ.out _ _ _ hJs (below_chain HB.out hb3)) (eachD_null HNL.out w3); clear hb3)
        refine hR.mono ?_
        rintro e W3 (⟨rfl, hJ3⟩ | ⟨rfl, hJx3⟩)
        · gi_wp2
          go_roundw
          case rel => exact ⟨k + 1, by omega, by go_num, hJ3⟩
          case measure => simp [intOf]; omega
        · gi_wp2
          refine bodyPost_ret (results_none rfl _ _ _) rfl ?_
          exact ⟨⟨_, rfl⟩, .inr hJx3⟩
      | false =>
        have HNL := Aside.mk hnl
        have hnull2 := Aside.mk (hnull.out k hlt)
        have hval2 := Aside.mk (hval.out k hlt hnl)
        have HED := Aside.mk (fun (W : World) (a : Option Addr) (cap : Nat) => eachD_val (c := c) (i := k) hnl (W := W) (a := a) (cap := cap))
        rw [hnl] at hnull2
        clear hnl
        generalize (valueC c k).1 = vb at hval2 HED
        generalize (valueC c k).2 = vt at hval2 HED
        obtain ⟨hbA, q, hXA⟩ := box_new wr (.int .u64 0) (.slice none 0 0) (.bool true) HGB.out
        obtain ⟨d0, d1, d2, d3, d4, d5, d6, d7⟩ := box8 hXA
        have HB := Aside.mk hbA
        have HQ := Aside.mk q
        have HXA := Aside.mk hXA
        clear hbA q hXA
        have hmeth := meth_f
        gi_wp2_with (first
          | (refine ⟨trivial, ?_⟩; gi_at_call 129; refine (callsIn_wide.2 (hnull2.out _ (HG.out k _ (HJ.out _ _ _ hJs HB.out)).1)).mono ?_; rintro e w3 ⟨rfl, hb3⟩; obtain ⟨e0, e1, e2, e3, e4, e5, e6, e7⟩ := box8 ((hb3.block _ (lt_of_blk HXA.out)).trans HXA.out); have HQ3 := Aside.mk ((hb3.block _ (lt_of_blk HQ.out)).trans HQ.out); have HB3 := Aside.mk (below_chain HB.out hb3); have HS3 := Aside.mk (Nat.lt_of_lt_of_le (lt_of_blk HQ.out) hb3.size); clear hb3)
          | (refine ⟨trivial, ?_⟩; gi_at_call 221; refine (callsIn_wide.2 (hval2.out _ (HG.out k _ (HJ.out _ _ _ hJs HB3.out)).1)).mono ?_; rintro e w4 ⟨va, vc, rfl, ho, hb4⟩; have hq4 := (hb4.block _ (lt_of_blk HQ3.out)).trans HQ3.out; obtain ⟨q0, q1, q2⟩ := box3 hq4; have z0 := frozen_blk (k := 0) hq4; have z1 := frozen_blk (k := 1) hq4; have z2 := frozen_blk (k := 2) hq4; have hlt4 := lt_of_blk hq4; obtain ⟨hJ5, hR5⟩ := each_set HS3.out HB3.out hb4 ho (.int .u64 (vb : Int)) (.slice va vt.length vc) (.bool false); obtain ⟨fn, tmps, assign, body, hy, hR⟩ := HY.out k _ _ hlt (HJ.out _ _ _ hJs hJ5) (HED.out _ _ _ hR5); clear hb4 ho hJ5 hR5 hq4))
        refine hR.mono ?_
        rintro e W3 (⟨rfl, hJ3⟩ | ⟨rfl, hJx3⟩)
        · gi_wp2
          go_roundw
          case rel => exact ⟨k + 1, by omega, by go_num, hJ3⟩
          case measure => simp [intOf]; omega
        · gi_wp2
          refine bodyPost_ret (results_none rfl _ _ _) rfl ?_
          exact ⟨⟨_, rfl⟩, .inr hJx3⟩
    · obtain rfl : k = N := by omega
      have hlt2 : ¬ ((k : Int) < c.n) := by rw [HN.out]; omega
      gi_wp2
      go_end0
      exact ⟨⟨_, rfl⟩, .inl hJs⟩

theorem each1_c (c : Col) (h1 : c.k = 16) (hc : COK c) (B D E X : SL) (vals : List Value) (hr : checkC c = 0) (Bs N : Nat) (hn : c.n = (N : Int))
    (hval : ∀ i : Nat, i < N → nullB c.bits i = false → ∀ w2, RdC w2 c B D E X vals → Calls Tryz.prog 224 #[.agg #[.int .i64 4], colV c B D E X, .int .i64 (i : Int)] w2 (ValP (valueC c i).1 (valueC c i).2 w2)) :
    SeqV Tryz.prog 150 #[.pointer (some ⟨Bs, 0, none⟩)] (fun k v => #[.int .i64 (k : Int), v]) (EachD c) (EachG c B D E X vals Bs) N := by
  intro l J Jx W hJ hG hY h0
  have HC := Aside.mk hc
  have HR := Aside.mk hr
  have HN := Aside.mk hn
  have hIN : c.n ≤ 9223372036854775807 := hc.n.2
  have hnull := Aside.mk (fun (i : Nat) (hi : i < N) (w2 : World) (h : RdC w2 c B D E X vals) => null_any c B D E X i (check_bits hr (by omega)) hc.bits hc.lb w2 h.bits)
  have hval := Aside.mk hval
  clear hc hr
  dsimp only [colV] at hnull hval
  unfold EachG at hG
  obtain ⟨g1, g2⟩ := hG 0 W h0
  obtain ⟨c0, c1, c2, c3, c4, c5, c6, c7⟩ := box8 g2
  have HG := Aside.mk hG
  have HY := Aside.mk hY
  have HJ := Aside.mk hJ
  have H1 := Aside.mk h1
  clear g1 g2 hG hY hJ h1 hn
  show CallsIn Fence.wide 8 Tryz.prog 150 #[.func (.yield l) #[] #[], .pointer (some ⟨Bs, 0, none⟩)] W _
  refine callsIn_of_wp Tryz.func150 rfl trivial ?_ rfl; simp only [Tryz.ntmps150, List.size_toArray, List.length_cons, List.length_nil, Nat.reduceAdd, Nat.reduceSub, Array.replicate_succ, Array.replicate_zero, List.push_toArray, List.append_toArray, List.nil_append, List.cons_append]
  gi_wp2_with (refine ⟨trivial, ?_⟩; gi_at_call 86; refine (callsIn_wide.2 (of_ck c H1.out _)).mono ?_; rintro e w2 ⟨rfl, hb2⟩; replace h0 := HJ.out _ _ _ h0 hb2; clear c0 c1 c2 c3 c4 c5 c6 c7; obtain ⟨g1, g2⟩ := HG.out 0 w2 h0; obtain ⟨c0, c1, c2, c3, c4, c5, c6, c7⟩ := box8 g2; clear g1 g2)
  gi_loopw [11] (fun i wr => ∃ k : Nat, k ≤ N ∧ i = .int .i64 k ∧ J k wr) (fun i _ => N - (intOf i).toNat)
  case atStart => exact ⟨0, Nat.zero_le _, rfl, h0⟩
  case round =>
    obtain ⟨k, hk, rfl, hJs⟩ := hrel
    clear c0 c1 c2 c3 c4 c5 c6 c7 h0 hb2
    by_cases hlt : k < N
    · have hlt2 : (k : Int) < c.n := by rw [HN.out]; omega
      obtain ⟨g1, g2⟩ := HG.out k wr hJs
      obtain ⟨c0, c1, c2, c3, c4, c5, c6, c7⟩ := box8 g2
      have HGB := Aside.mk g2
      clear g1 g2
      cases hnl : nullB c.bits k with
      | true =>
        have HNL := Aside.mk hnl
        have hnull2 := Aside.mk (hnull.out k hlt)
        rw [hnl] at hnull2
        clear hnl
        obtain ⟨hbA, q, hXA⟩ := box_new wr (.int .u64 0) (.slice none 0 0) (.bool true) HGB.out
        obtain ⟨d0, d1, d2, d3, d4, d5, d6, d7⟩ := box8 hXA
        have HB := Aside.mk hbA
        have HQ := Aside.mk q
        clear hbA q hXA
        gi_wp2_with (refine ⟨trivial, ?_⟩; gi_at_call 129; refine (callsIn_wide.2 (hnull2.out _ (HG.out k _ (HJ.out _ _ _ hJs HB.out)).1)).mono ?_; rintro e w3 ⟨rfl, hb3⟩; obtain ⟨q0, q1, q2⟩ := box3 ((hb3.block _ (lt_of_blk HQ.out)).trans HQ.out); obtain ⟨fn, tmps, assign, body, hy, hR⟩ := HY.out k _ w3 hlt (HJ.out _ _ _ hJs (below_chain HB.out hb3)) (eachD_null HNL.out w3); clear hb3)
        refine hR.mono ?_
        rintro e W3 (⟨rfl, hJ3⟩ | ⟨rfl, hJx3⟩)
        · gi_wp2
          go_roundw
          case rel => exact ⟨k + 1, by omega, by go_num, hJ3⟩
          case measure => simp [intOf]; omega
        · gi_wp2
          refine bodyPost_ret (results_none rfl _ _ _) rfl ?_
          exact ⟨⟨_, rfl⟩, .inr hJx3⟩
      | false =>
        have HNL := Aside.mk hnl
        have hnull2 := Aside.mk (hnull.out k hlt)
        have hval2 := Aside.mk (hval.out k hlt hnl)
        have HED := Aside.mk (fun (W : World) (a : Option Addr) (cap : Nat) => eachD_val (c := c) (i := k) hnl (W := W) (a := a) (cap := cap))
        rw [hnl] at hnull2
        clear hnl
        generalize (valueC c k).1 = vb at hval2 HED
        generalize (valueC c k).2 = vt at hval2 HED
        obtain ⟨hbA, q, hXA⟩ := box_new wr (.int .u64 0) (.slice none 0 0) (.bool true) HGB.out
        obtain ⟨d0, d1, d2, d3, d4, d5, d6, d7⟩ := box8 hXA
        have HB := Aside.mk hbA
        have HQ := Aside.mk q
        have HXA := Aside.mk hXA
        clear hbA q hXA
        have hmeth := meth_c
        gi_wp2_with (first
          | (refine ⟨trivial, ?_⟩; gi_at_call 129; refine (callsIn_wide.2 (hnull2.out _ (HG.out k _ (HJ.out _ _ _ hJs HB.out)).1)).mono ?_; rintro e w3 ⟨rfl, hb3⟩; obtain ⟨e0, e1, e2, e3, e4, e5, e6, e7⟩ := box8 ((hb3.block _ (lt_of_blk HXA.out)).trans HXA.out); have HQ3 := Aside.mk ((hb3.block _ (lt_of_blk HQ.out)).trans HQ.out); have HB3 := Aside.mk (below_chain HB.out hb3); have HS3 := Aside.mk (Nat.lt_of_lt_of_le (lt_of_blk HQ.out) hb3.size); clear hb3)
          | (refine ⟨trivial, ?_⟩; gi_at_call 224; refine (callsIn_wide.2 (hval2.out _ (HG.out k _ (HJ.out _ _ _ hJs HB3.out)).1)).mono ?_; rintro e w4 ⟨va, vc, rfl, ho, hb4⟩; have hq4 := (hb4.block _ (lt_of_blk HQ3.out)).trans HQ3.out; obtain ⟨q0, q1, q2⟩ := box3 hq4; have z0 := frozen_blk (k := 0) hq4; have z1 := frozen_blk (k := 1) hq4; have z2 := frozen_blk (k := 2) hq4; have hlt4 := lt_of_blk hq4; obtain ⟨hJ5, hR5⟩ := each_set HS3.out HB3.out hb4 ho (.int .u64 (vb : Int)) (.slice va vt.length vc) (.bool false); obtain ⟨fn, tmps, assign, body, hy, hR⟩ := HY.out k _ _ hlt (HJ.out _ _ _ hJs hJ5) (HED.out _ _ _ hR5); clear hb4 ho hJ5 hR5 hq4))
        refine hR.mono ?_
        rintro e W3 (⟨rfl, hJ3⟩ | ⟨rfl, hJx3⟩)
        · gi_wp2
          go_roundw
          case rel => exact ⟨k + 1, by omega, by go_num, hJ3⟩
          case measure => simp [intOf]; omega
        · gi_wp2
          refine bodyPost_ret (results_none rfl _ _ _) rfl ?_
          exact ⟨⟨_, rfl⟩, .inr hJx3⟩
    · obtain rfl : k = N := by omega
      have hlt2 : ¬ ((k : Int) < c.n) := by rw [HN.out]; omega
      gi_wp2
      go_end0
      exact ⟨⟨_, rfl⟩, .inl hJs⟩

theorem each1_r (c : Col) (h1 : c.k = 15) (hc : COK c) (B D E X : SL) (vals : List Value) (hr : checkC c = 0) (Bs N : Nat) (hn : c.n = (N : Int))
    (hval : ∀ i : Nat, i < N → nullB c.bits i = false → ∀ w2, RdC w2 c B D E X vals → Calls Tryz.prog 219 #[.agg #[], colV c B D E X, .int .i64 (i : Int)] w2 (ValP (valueC c i).1 (valueC c i).2 w2)) :
    SeqV Tryz.prog 150 #[.pointer (some ⟨Bs, 0, none⟩)] (fun k v => #[.int .i64 (k : Int), v]) (EachD c) (EachG c B D E X vals Bs) N := by
  intro l J Jx W hJ hG hY h0
  have HC := Aside.mk hc
  have HR := Aside.mk hr
  have HN := Aside.mk hn
  have hIN : c.n ≤ 9223372036854775807 := hc.n.2
  have hnull := Aside.mk (fun (i : Nat) (hi : i < N) (w2 : World) (h : RdC w2 c B D E X vals) => null_any c B D E X i (check_bits hr (by omega)) hc.bits hc.lb w2 h.bits)
  have hval := Aside.mk hval
  clear hc hr
  dsimp only [colV] at hnull hval
  unfold EachG at hG
  obtain ⟨g1, g2⟩ := hG 0 W h0
  obtain ⟨c0, c1, c2, c3, c4, c5, c6, c7⟩ := box8 g2
  have HG := Aside.mk hG
  have HY := Aside.mk hY
  have HJ := Aside.mk hJ
  have H1 := Aside.mk h1
  clear g1 g2 hG hY hJ h1 hn
  show CallsIn Fence.wide 8 Tryz.prog 150 #[.func (.yield l) #[] #[], .pointer (some ⟨Bs, 0, none⟩)] W _
  refine callsIn_of_wp Tryz.func150 rfl trivial ?_ rfl; simp only [Tryz.ntmps150, List.size_toArray, List.length_cons, List.length_nil, Nat.reduceAdd, Nat.reduceSub, Array.replicate_succ, Array.replicate_zero, List.push_toArray, List.append_toArray, List.nil_append, List.cons_append]
  gi_wp2_with (refine ⟨trivial, ?_⟩; gi_at_call 86; refine (callsIn_wide.2 (of_rk c H1.out _)).mono ?_; rintro e w2 ⟨rfl, hb2⟩; replace h0 := HJ.out _ _ _ h0 hb2; clear c0 c1 c2 c3 c4 c5 c6 c7; obtain ⟨g1, g2⟩ := HG.out 0 w2 h0; obtain ⟨c0, c1, c2, c3, c4, c5, c6, c7⟩ := box8 g2; clear g1 g2)
  gi_loopw [11] (fun i wr => ∃ k : Nat, k ≤ N ∧ i = .int .i64 k ∧ J k wr) (fun i _ => N - (intOf i).toNat)
  case atStart => exact ⟨0, Nat.zero_le _, rfl, h0⟩
  case round =>
    obtain ⟨k, hk, rfl, hJs⟩ := hrel
    clear c0 c1 c2 c3 c4 c5 c6 c7 h0 hb2
    by_cases hlt : k < N
    · have hlt2 : (k : Int) < c.n := by rw [HN.out]; omega
      obtain ⟨g1, g2⟩ := HG.out k wr hJs
      obtain ⟨c0, c1, c2, c3, c4, c5, c6, c7⟩ := box8 g2
      have HGB := Aside.mk g2
      clear g1 g2
      cases hnl : nullB c.bits k with
      | true =>
        have HNL := Aside.mk hnl
        have hnull2 := Aside.mk (hnull.out k hlt)
        rw [hnl] at hnull2
        clear hnl
        obtain ⟨hbA, q, hXA⟩ := box_new wr (.int .u64 0) (.slice none 0 0) (.bool true) HGB.out
        obtain ⟨d0, d1, d2, d3, d4, d5, d6, d7⟩ := box8 hXA
        have HB := Aside.mk hbA
        have HQ := Aside.mk q
        clear hbA q hXA
        gi_wp2_with (refine ⟨trivial, ?_⟩; gi_at_call 129; refine (callsIn_wide.2 (hnull2.out _ (HG.out k _ (HJ.out _ _ _ hJs HB.out)).1)).mono ?_; rintro e w3 ⟨rfl, hb3⟩; obtain ⟨q0, q1, q2⟩ := box3 ((hb3.block _ (lt_of_blk HQ.out)).trans HQ.out); obtain ⟨fn, tmps, assign, body, hy, hR⟩ := HY.out k _ w3 hlt (HJ.out _ _ _ hJs (below_chain HB.out hb3)) (eachD_null HNL.out w3); clear hb3)
        refine hR.mono ?_
        rintro e W3 (⟨rfl, hJ3⟩ | ⟨rfl, hJx3⟩)
        · gi_wp2
          go_roundw
          case rel => exact ⟨k + 1, by omega, by go_num, hJ3⟩
          case measure => simp [intOf]; omega
        · gi_wp2
          refine bodyPost_ret (results_none rfl _ _ _) rfl ?_
          exact ⟨⟨_, rfl⟩, .inr hJx3⟩
      | false =>
        have HNL := Aside.mk hnl
        have hnull2 := Aside.mk (hnull.out k hlt)
        have hval2 := Aside.mk (hval.out k hlt hnl)
        have HED := Aside.mk (fun (W : World) (a : Option Addr) (cap : Nat) => eachD_val (c := c) (i := k) hnl (W := W) (a := a) (cap := cap))
        rw [hnl] at hnull2
        clear hnl
        generalize (valueC c k).1 = vb at hval2 HED
        generalize (valueC c k).2 = vt at hval2 HED
        obtain ⟨hbA, q, hXA⟩ := box_new wr (.int .u64 0) (.slice none 0 0) (.bool true) HGB.out
        obtain ⟨d0, d1, d2, d3, d4, d5, d6, d7⟩ := box8 hXA
        have HB := Aside.mk hbA
        have HQ := Aside.mk q
        have HXA := Aside.mk hXA
        clear hbA q hXA
        have hmeth := meth_r
        gi_wp2_with (first
          | (refine ⟨trivial, ?_⟩; gi_at_call 129; refine (callsIn_wide.2 (hnull2.out _ (HG.out k _ (HJ.out _ _ _ hJs HB.out)).1)).mono ?_; rintro e w3 ⟨rfl, hb3⟩; obtain ⟨e0, e1, e2, e3, e4, e5, e6, e7⟩ := box8 ((hb3.block _ (lt_of_blk HXA.out)).trans HXA.out); have HQ3 := Aside.mk ((hb3.block _ (lt_of_blk HQ.out)).trans HQ.out); have HB3 := Aside.mk (below_chain HB.out hb3); have HS3 := Aside.mk (Nat.lt_of_lt_of_le (lt_of_blk HQ.out) hb3.size); clear hb3)
          | (refine ⟨trivial, ?_⟩; gi_at_call 219; refine (callsIn_wide.2 (hval2.out _ (HG.out k _ (HJ.out _ _ _ hJs HB3.out)).1)).mono ?_; rintro e w4 ⟨va, vc, rfl, ho, hb4⟩; have hq4 := (hb4.block _ (lt_of_blk HQ3.out)).trans HQ3.out; obtain ⟨q0, q1, q2⟩ := box3 hq4; have z0 := frozen_blk (k := 0) hq4; have z1 := frozen_blk (k := 1) hq4; have z2 := frozen_blk (k := 2) hq4; have hlt4 := lt_of_blk hq4; obtain ⟨hJ5, hR5⟩ := each_set HS3.out HB3.out hb4 ho (.int .u64 (vb : Int)) (.slice va vt.length vc) (.bool false); obtain ⟨fn, tmps, assign, body, hy, hR⟩ := HY.out k _ _ hlt (HJ.out _ _ _ hJs hJ5) (HED.out _ _ _ hR5); clear hb4 ho hJ5 hR5 hq4))
        refine hR.mono ?_
        rintro e W3 (⟨rfl, hJ3⟩ | ⟨rfl, hJx3⟩)
        · gi_wp2
          go_roundw
          case rel => exact ⟨k + 1, by omega, by go_num, hJ3⟩
          case measure => simp [intOf]; omega
        · gi_wp2
          refine bodyPost_ret (results_none rfl _ _ _) rfl ?_
          exact ⟨⟨_, rfl⟩, .inr hJx3⟩
    · obtain rfl : k = N := by omega
      have hlt2 : ¬ ((k : Int) < c.n) := by rw [HN.out]; omega
      gi_wp2
      go_end0
      exact ⟨⟨_, rfl⟩, .inl hJs⟩

/-- What column.Each's function tells of any column that may be. -/
theorem each1_any (c : Col) (hc : COK c) (B D E X : SL) (vals : List Value) (hr : checkC c = 0) (hDa : D.a = none ∨ ∃ g off, D.a = some ⟨g, off, none⟩) (Bs N : Nat) (hn : c.n = (N : Int)) :
    SeqV Tryz.prog 150 #[.pointer (some ⟨Bs, 0, none⟩)] (fun k v => #[.int .i64 (k : Int), v]) (EachD c) (EachG c B D E X vals Bs) N := by
  obtain ⟨ho, _, _, _⟩ := check_zero hr
  by_cases h15 : c.k = 15
  · refine each1_r c h15 hc B D E X vals hr Bs N hn (fun i hi hnl w h => ?_)
    obtain ⟨hn2, _⟩ := running_facts hr h15
    have hie : i < c.ends.length := by omega
    obtain ⟨f, t, e1, e2, hft, htd⟩ := check_ends hr h15 i hie
    have ev : valueC c i = (0, (c.data.drop f).take (t - f)) := by
      unfold valueC
      rw [if_pos h15, e1, e2, Int.toNat_natCast]
      congr 2
      omega
    rw [ev]
    rcases hDa with hD | ⟨g, off, hD⟩
    · obtain ⟨_, a, cap, e, _, _, h0, _⟩ := h.data
      simp only [Value.slice.injEq, true_and] at e
      have hd0 := (h0 (by rw [← e.1, hD])).1
      obtain rfl : t = 0 := by omega
      obtain rfl : f = 0 := by omega
      have := value_r0 c hc B D E X vals i hie (by simpa using e1) (by simpa using e2) hD w h
      simpa using this
    · exact value_r c hc B D E X vals i f t hie e1 e2 hft htd g off hD w h
  by_cases h16 : c.k = 16
  · refine each1_c c h16 hc B D E X vals hr Bs N hn (fun i hi hnl w h => ?_)
    have hx := check_code hr h16 (by omega) hnl
    have hs := (coded_facts hr h16).1
    have ev : valueC c i = (0, c.words.getD (wordAt c.data (i * 4) 4) []) := by
      unfold valueC
      rw [if_neg h15, if_pos h16]
    rw [ev]
    exact value_c c hc B D E X vals i (sized_room hs i (by omega)) hx w h
  · obtain ⟨W, hW, hW8⟩ := width_eight ho h15
    refine each1_f c h15 h16 hW hc B D E X vals hr Bs N hn (fun i hi hnl w h => ?_)
    have ev : valueC c i = (wordAt c.data (i * W) W, []) := by
      unfold valueC
      rw [if_neg h15, if_neg h16, hW, Int.toNat_natCast]
    rw [ev]
    exact value_f W hW8 c hc B D E X vals i (check_room hr h15 h16 hW (by omega)) w h

/-- column.Each. -/
theorem each_any (c : Col) (B D E X : SL) (w : World) : Calls Tryz.prog 83 #[colV c B D E X] w fun e w' =>
    e = .returned (.func (.func 150) #[] #[.pointer (some ⟨w.heap.size, 0, none⟩)]) ∧ Below w.heap.size w w' ∧ w'.heap[w.heap.size]? = some (.cells #[.int .i64 c.k, .int .i64 c.s, .int .i64 c.n, .int .i64 c.m, .slice B.a c.bits.length B.c, .slice D.a c.data.length D.c, .slice E.a c.ends.length E.c, .slice X.a c.words.length X.c] 63 (0, 0)) := by
  dsimp only [colV]
  go_enter Tryz.func83, Tryz.ntmps83
  go_wp2
  go_ret
  exact ⟨rfl, (Below.refl _ w).alloc (Nat.le_refl _) _, heap_alloc_new w _⟩
end Go.Proofs.YtmhjjhaipcgbiaaGreat


/- Words: copies of all words. -/
namespace Go.Proofs.YtmhjjhaipcgbiaaGreat
open Go.RowKit Go.Maps
set_option linter.unusedVariables false
set_option linter.unusedSimpArgs false
set_option maxRecDepth 100000
set_option maxHeartbeats 1000000

/-- The first i words lie in rows of their own, from base on. -/
def WOwn (w : World) (base i : Nat) (vals : List Value) (ws : List (List Int)) : Prop :=
  ∀ (j : Nat) t, j < i → ws[j]? = some t → ∃ a cap, vals[j]? = some (.slice a t.length cap) ∧ Own w base 5 1 (.slice a t.length cap) t.length (t.map (.int .u8))
/-- .. each in a block that is no other's. -/
def WSep (i : Nat) (vals : List Value) : Prop := ∀ (j j' : Nat) v v', j < j' → j' < i → vals[j]? = some v → vals[j']? = some v' → ∀ b, v.ownBlock = some b → v'.ownBlock ≠ some b
def WordsP (ws : List (List Int)) (w : World) (e : Ending) (w' : World) : Prop :=
  ∃ a c vals, e = .returned (.slice a ws.length c) ∧ Own w' w.heap.size 43 1 (.slice a ws.length c) ws.length vals ∧ vals.length = ws.length ∧ WOwn w' w.heap.size ws.length vals ws ∧ Below w.heap.size w w' ∧ WSep ws.length vals
def WordsIn (ws : List (List Int)) (i : Nat) (w wr : World) : Prop :=
  ∃ vals, vals.length = ws.length ∧ wr.heap[w.heap.size]? = some (.cells vals.toArray 43 (0, 0)) ∧ WOwn wr w.heap.size i vals ws ∧ Below w.heap.size w wr ∧ WSep i vals

theorem WOwn.kept {w w' : World} {base i : Nat} {vals : List Value} {ws : List (List Int)} {S : Nat → Prop} (h : WOwn w base i vals ws) (hk : Kept S w w') (hS : ∀ k, base ≤ k → k < w.heap.size → (∃ cs, w.heap[k]? = some (.cells cs 5 (0, 0))) → ¬ S k) : WOwn w' base i vals ws := fun j t hj ht => by
  obtain ⟨a, cap, h1, h2⟩ := h j t hj ht
  exact ⟨a, cap, h1, h2.kept hk (fun k e => hS k (h2.lt k e).1 (h2.lt k e).2 (own_blk h2 e))⟩

theorem words_make (n : Nat) (hn : n ≤ 100000000) (w : World) : ∃ cs : List Value, cs.length = n ∧ (Instr.makeSlice 37 (.int .i64 (n : Int)) (.int .i64 (n : Int))).run Tryz.prog w = .ok (.slice (some ⟨w.heap.size, 0, none⟩) n n) (w.alloc (.cells cs.toArray 43)) := by
  obtain ⟨i0, hi, hz0, hz1, hz2⟩ := info_parts bytesinfo
  have h := run_make (P := Tryz.prog) w 37 43 i0 _ Tryz.underlying37 hi hz0 .i64 .i64 (n : Int) (n : Int) (by omega) (Int.le_refl _) (by rw [hz2]; omega) (by omega)
  rw [hz1, Nat.mul_one, Int.toNat_natCast] at h
  refine ⟨(madeCells (Value.slice none 0 0).cells n).toList, by rw [Array.length_toList, size_madeCells], ?_⟩
  rw [h, Array.toArray_toList]
theorem words_store {ws : List (List Int)} {i : Nat} {w wr w3 : World} {t : List Int} {a : Option Addr} {cap : Nat} (hi : i < ws.length) (ht : ws[i]? = some t) (h : WordsIn ws i w wr) (hb : Below wr.heap.size wr w3) (ho : Own w3 wr.heap.size 5 1 (.slice a t.length cap) t.length (t.map (.int .u8))) :
    WordsIn ws (i + 1) w (w3.setCell ⟨w.heap.size, i, none⟩ (.slice a t.length cap)) := by
  obtain ⟨vals, hl, hbk, hw, hbl, hsep⟩ := h
  have hb3 := (hb.block _ (lt_of_blk hbk)).trans hbk
  have hsz := lt_of_blk hbk
  refine ⟨vals.set i (.slice a t.length cap), by simpa using hl, ?_, ?_, (hbl.trans (hb.mono hbl.size)).setCell (Nat.le_refl _) _, ?_⟩
  · have := heap_setCell_at (k := i) hb3 (.slice a t.length cap)
    rw [this]; simp
  · have hne : ∀ k, (Value.slice a t.length cap).ownBlock = some k → k ≠ w.heap.size := fun k e => by have := (ho.lt k e).1; omega
    intro j u hj hu
    rcases Nat.lt_or_ge j i with hlt | hge
    · obtain ⟨a1, c1, h1, h2⟩ := hw j u hlt hu
      refine ⟨a1, c1, by rw [List.getElem?_set_ne (by omega)]; exact h1, (h2.below hb).set_other (fun e => ?_) _⟩
      obtain ⟨cs, hcs⟩ := own_blk (h2.below hb) e
      rw [hb3] at hcs
      cases hcs
    · obtain rfl : j = i := by omega
      rw [ht] at hu
      cases hu
      refine ⟨a, cap, by rw [List.getElem?_set_self (by omega)], (ho.set_other (fun e => hne _ e rfl) _).mono (by omega)⟩
  · intro j j' v v' hjj hji h1 h2 b e
    rcases Nat.lt_or_ge j' i with hlt | hge
    · rw [List.getElem?_set_ne (by omega)] at h1 h2
      exact hsep j j' v v' hjj hlt h1 h2 b e
    · obtain rfl : j' = i := by omega
      rw [List.getElem?_set_ne (by omega)] at h1
      rw [List.getElem?_set_self (by omega)] at h2
      cases h2
      obtain ⟨a1, c1, q1, q2⟩ := hw j _ hjj (List.getElem?_eq_getElem (by omega))
      rw [h1] at q1
      cases q1
      intro e2
      have := (q2.lt b e).2
      have := (ho.lt b e2).1
      omega

theorem words_any (T : Nat → Prop) (lw : Nat) (ws : List (List Int)) (hn : ws.length ≤ 100000000) (hw : ∀ t ∈ ws, t.length ≤ 1000000000) (w : World) (h : WL w T lw ws) : Calls Tryz.prog 93 #[.pointer (some ⟨lw, 0, none⟩)] w (WordsP ws w) := by
  obtain ⟨wv, mb, vals, D, h⟩ := h
  obtain ⟨wa, wc, rfl⟩ := h.row.form
  obtain ⟨cs, hcl, hms⟩ := words_make ws.length hn w
  have hc0 := cell_blk (k := 0) h.blk
  simp at hc0
  have hlw := lt_of_blk h.blk
  have hc2 : (w.alloc (.cells cs.toArray 43)).cell? ⟨lw, 0, none⟩ = some (.slice wa ws.length wc) := ((below_new w _).cell (p := ⟨lw, 0, none⟩) hlw).trans hc0
  have H := Aside.mk h
  have HCL := Aside.mk hcl
  have HW := Aside.mk hw
  clear h hcl hw
  go_enter Tryz.func93, Tryz.ntmps93
  go_wp2
  go_loopw [17] (fun iv wr => ∃ i : Nat, i ≤ ws.length ∧ iv = .int .i64 (i : Int) ∧ Aside (WordsIn ws i w wr)) (fun iv _ => ws.length - (intOf iv).toNat)
  case atStart => exact ⟨0, by omega, rfl, ⟨cs, HCL.out, heap_alloc_new w _, fun j t hj _ => by omega, below_new w _, fun j j' _ _ h1 h2 => by omega⟩⟩
  case round =>
    clear hms hc0 hc2
    obtain ⟨i, hi, rfl, hp⟩ := hrel
    by_cases hlt : i < ws.length
    · obtain ⟨vi, hvi, hvo, _⟩ := H.out.words.2 i _ (List.getElem?_eq_getElem hlt)
      obtain ⟨va, vc, rfl⟩ := hvo.form
      have hvl := H.out.words.1
      obtain ⟨_, _, hbk, _, hbl, _⟩ := hp.out
      obtain ⟨eb, eo, ecap, hs, hel, hecap, hcE⟩ := H.out.row.rd.some_ (by omega)
      simp only [Value.slice.injEq, true_and] at hs
      obtain ⟨rfl, rfl⟩ := hs
      have hce := (hbl.cell (p := ⟨eb, eo + i, none⟩) (World.block_lt_of_cell? _ _ (hcE i _ hvi))).trans (hcE i _ hvi)
      have htl := HW.out _ (List.getElem_mem hlt)
      have HT := Aside.mk (List.getElem?_eq_getElem hlt)
      have HVO := Aside.mk (hvo.rd.below hbl)
      clear hbk hbl hcE hvi hvo hvl
      generalize ws[i] = t at *
      have HCL2 := Aside.mk (clone_bytes (.slice va t.length vc) t.length _ wr htl HVO.out (one_map (fun x : Int => Value.int .u8 x) (fun _ => rfl) t))
      go_wp2_with (go_at_call 91; refine HCL2.out.mono ?_; rintro e w3 ⟨v', rfl, ho, hb3⟩; obtain ⟨ca, cc, rfl⟩ := ho.form; obtain ⟨vals3, hl3, hbk3, _, hbl3, _⟩ := hp.out; have hbk4 := (hb3.block _ (lt_of_blk hbk3)).trans hbk3; have q := cell_blk (k := i) hbk4; have z := frozen_blk (k := i) hbk4; rw [List.getElem?_toArray, List.getElem?_eq_getElem (by omega)] at q; have HS := Aside.mk (words_store hlt HT.out hp.out hb3 ho); clear ho hb3 hbk3 hbk4 hbl3)
      exact ⟨⟨i + 1, by omega, by simp, HS⟩, by simp [intOf]; omega⟩
    · obtain rfl : i = ws.length := by omega
      obtain ⟨vals2, hl2, hbk2, hw2, hbl2, hs2⟩ := hp.out
      go_wp2
      go_ret
      refine ⟨_, _, vals2, rfl, ⟨by rw [hl2]; simp, .inr ⟨w.heap.size, 0, ws.length, vals2.toArray, rfl, Nat.le_refl _, hbk2, Nat.le_refl _, by unfold maxLen; omega, by simp [hl2], fun j hj => by simp⟩⟩, hl2, hw2, hbl2, hs2⟩
end Go.Proofs.YtmhjjhaipcgbiaaGreat


/- add at the kind of words. -/
namespace Go.Proofs.YtmhjjhaipcgbiaaGreat
open Go.RowKit
set_option linter.unusedVariables false
set_option linter.unusedSimpArgs false
set_option maxRecDepth 100000
set_option maxHeartbeats 2000000

theorem assert_running3 (v : Value) (w : World) : (Instr.typeAssert (.iface 167 v) 159 162 true).run Tryz.prog w = .ok (.tuple #[.agg #[], .bool false]) w := by kernel_rfl
theorem assert_coded3 (v : Value) (w : World) : (Instr.typeAssert (.iface 167 v) 159 167 true).run Tryz.prog w = .ok (.tuple #[v, .bool true]) w := by kernel_rfl

/-- A word is in the list, its code laid. -/
def AddCP (bl lw : Nat) (s : Int) (T : Nat → Prop) (nulls : List Bool) (data ends : List Int) (ws : List (List Int)) (nv dv ev : Value) (X : Nat) (ws2 : List (List Int)) (nl : Bool) (w : World) (e : Ending) (w' : World) : Prop :=
  e = .returned (.tuple #[]) ∧ ∃ nv' dv', IsB w' bl lw 0 16 s (nulls ++ [nl]) (data ++ lows X 4) ends nv' dv' ev ∧ WL w' (fun b => T b ∨ w.heap.size ≤ b ∧ b ≠ bl ∧ nv'.ownBlock ≠ some b ∧ dv'.ownBlock ≠ some b) lw ws2 ∧ Kept (fun b => T b ∨ b = bl ∨ dv.ownBlock = some b ∨ nv.ownBlock = some b) w w' ∧
    (dv'.ownBlock = dv.ownBlock ∨ ∃ b, dv'.ownBlock = some b ∧ w.heap.size ≤ b) ∧ (nv'.ownBlock = nv.ownBlock ∨ ∃ b, nv'.ownBlock = some b ∧ w.heap.size ≤ b)

theorem IsB.kept {w w' : World} {bl lw base : Nat} {k s : Int} {nulls : List Bool} {data ends : List Int} {nv dv ev : Value} {S : Nat → Prop} (h : IsB w bl lw base k s nulls data ends nv dv ev) (hk : Kept S w w') (h1 : ¬ S bl) (h3 : ∀ b, nv.ownBlock = some b ∨ dv.ownBlock = some b ∨ ev.ownBlock = some b → ¬ S b) (hl : ∃ mv : Value × Value, w'.heap[lw]? = some (.cells #[mv.1, mv.2] 212 (0, 0))) : IsB w' bl lw base k s nulls data ends nv dv ev :=
  ⟨(hk.block _ (lt_of_blk h.blk) h1).trans h.blk, hl, h.bbl, h.blw, h.nulls.kept hk (fun b e => h3 b (.inl e)), h.data.kept hk (fun b e => h3 b (.inr (.inl e))), h.ends.kept hk (fun b e => h3 b (.inr (.inr e)))⟩
theorem WL.lst {w : World} {T : Nat → Prop} {lw : Nat} {ws : List (List Int)} (h : WL w T lw ws) : ∃ mv : Value × Value, w.heap[lw]? = some (.cells #[mv.1, mv.2] 212 (0, 0)) := by
  obtain ⟨wv, mb, vals, D, h⟩ := h
  exact ⟨(_, _), h.blk⟩


theorem addC_done {w w3 w4 w9 : World} {bl lw : Nat} {s : Int} {T T3 : Nat → Prop} {nulls : List Bool} {data ends : List Int} {ws2 : List (List Int)} {nv dv ev dv' nv' : Value} {X : Nat} {nl : Bool} {o : Obj}
    (h : IsB w bl lw 0 16 s nulls data ends nv dv ev) (hTs : ∀ b, T b → b ≠ bl ∧ nv.ownBlock ≠ some b ∧ dv.ownBlock ≠ some b) (k3 : Kept T w w3) (hL : WL w3 T3 lw ws2) (h3 : ∀ b, T3 b → b < w3.heap.size → T b ∨ w.heap.size ≤ b)
    (k4 : Kept (fun b => b = bl ∨ dv.ownBlock = some b) w3 w4) (o4 : dv'.ownBlock = dv.ownBlock ∨ ∃ b, dv'.ownBlock = some b ∧ w3.heap.size ≤ b)
    (h9 : IsB w9 bl lw 0 16 s (nulls ++ [nl]) (data ++ lows X 4) ends nv' dv' ev ∧ Kept (fun b => b = bl ∨ nv.ownBlock = some b) w4 w9) (a9 : nv'.ownBlock = nv.ownBlock ∨ ∃ b, nv'.ownBlock = some b ∧ (w4.alloc o).drew.heap.size ≤ b) :
    ∃ nv' dv', IsB w9 bl lw 0 16 s (nulls ++ [nl]) (data ++ lows X 4) ends nv' dv' ev ∧ WL w9 (fun b => T b ∨ w.heap.size ≤ b ∧ b ≠ bl ∧ nv'.ownBlock ≠ some b ∧ dv'.ownBlock ≠ some b) lw ws2 ∧ Kept (fun b => T b ∨ b = bl ∨ dv.ownBlock = some b ∨ nv.ownBlock = some b) w w9 ∧
    (dv'.ownBlock = dv.ownBlock ∨ ∃ b, dv'.ownBlock = some b ∧ w.heap.size ≤ b) ∧ (nv'.ownBlock = nv.ownBlock ∨ ∃ b, nv'.ownBlock = some b ∧ w.heap.size ≤ b) := by
  have hbl := lt_of_blk h.blk
  have hs3 := k3.size
  have hs4 := k4.size
  have e4 : (w4.alloc o).drew.heap.size = w4.heap.size + 1 := by show (w4.alloc o).heap.size = _; simp
  have hnb : ∀ b, T3 b → b < w3.heap.size → b ≠ bl ∧ nv.ownBlock ≠ some b ∧ dv.ownBlock ≠ some b := fun b ht hb => by
    rcases h3 b ht hb with h1 | h1
    · exact hTs b h1
    · exact ⟨by omega, fun e => by have := (h.nulls.lt _ e).2; omega, fun e => by have := (h.data.lt _ e).2; omega⟩
  have hL2 : WL w3 (fun b => T3 b ∧ b < w3.heap.size) lw ws2 := hL.mono (fun b h1 h2 => ⟨h1, h2⟩)
  have hL4 := hL2.kept k4 (fun b ht _ => (fun e => e.elim (hnb b ht.1 ht.2).1 (hnb b ht.1 ht.2).2.2))
  have hL9 := hL4.kept h9.2 (fun b ht _ => (fun e => e.elim (hnb b ht.1 ht.2).1 (hnb b ht.1 ht.2).2.1))
  refine ⟨nv', dv', h9.1, hL9.mono (fun b ht _ => ?_), ?_, ?_, ?_⟩
  · rcases h3 b ht.1 ht.2 with h1 | h1
    · exact .inl h1
    · refine .inr ⟨h1, (hnb b ht.1 ht.2).1, fun e => ?_, fun e => ?_⟩
      · rcases a9 with e' | ⟨b', e', h'⟩
        · exact (hnb b ht.1 ht.2).2.1 (e' ▸ e)
        · rw [e'] at e; cases e; have := ht.2; omega
      · rcases o4 with e' | ⟨b', e', h'⟩
        · exact (hnb b ht.1 ht.2).2.2 (e' ▸ e)
        · rw [e'] at e; cases e; have := ht.2; omega
  · refine ((k3.mono (T := fun b => T b ∨ b = bl ∨ dv.ownBlock = some b ∨ nv.ownBlock = some b) (fun b e _ => .inl e)).trans k4 ?_).trans h9.2 ?_
    · rintro b (e | e) _
      · exact .inr (.inl e)
      · exact .inr (.inr (.inl e))
    · rintro b (e | e) _
      · exact .inr (.inl e)
      · exact .inr (.inr (.inr e))
  · exact o4.imp id (fun ⟨b, e, h⟩ => ⟨b, e, by omega⟩)
  · exact a9.imp id (fun ⟨b, e, h⟩ => ⟨b, e, by omega⟩)

theorem add_coded_null (bl lw : Nat) (s : Int) (T : Nat → Prop) (nulls : List Bool) (data ends : List Int) (ws : List (List Int)) (nv dv ev : Value) (bits : Int) (ta : Option Addr) (tn tc : Nat) (hl : data.length ≤ 100000000) (hl2 : nulls.length ≤ 100000000) (w : World) (h : IsB w bl lw 0 16 s nulls data ends nv dv ev) (hL : WL w T lw ws) (hTs : ∀ b, T b → b ≠ bl ∧ nv.ownBlock ≠ some b ∧ dv.ownBlock ≠ some b) :
    Calls Tryz.prog 72 #[.pointer (some ⟨bl, 0, none⟩), .agg #[.int .u64 bits, .slice ta tn tc, .bool true]] w (AddCP bl lw s T nulls data ends ws nv dv ev 0 ws true w) := by
  have hbs := lt_of_blk h.blk
  have hc0 := cell_blk (k := 0) h.blk
  have hc1 := cell_blk (k := 1) h.blk
  simp at hc0 hc1
  have H0 := Aside.mk h
  have HL := Aside.mk hL
  have HTS := Aside.mk hTs
  clear h hL hTs
  have ta1 := assert_running3
  have ta2 := assert_coded3
  go_enter Tryz.func72, Tryz.ntmps72
  go_wp2_with (first | (go_at_call 86; refine (of_coded s _).mono ?_; rintro e w1 ⟨rfl, rfl⟩))
  have B3 : Below w.heap.size w (((w.alloc (.cells #[.int .u64 bits, .slice ta tn tc, .bool true] 145)).alloc (.cells #[.int .i64 16, .int .i64 s] 23)).alloc (.cells #[.int .i64 4] 167)) := (((Below.refl _ _).alloc (Nat.le_refl _) _).alloc (by simp) _).alloc (by simp; omega) _
  have hv3 : (((w.alloc (.cells #[.int .u64 bits, .slice ta tn tc, .bool true] 145)).alloc (.cells #[.int .i64 16, .int .i64 s] 23)).alloc (.cells #[.int .i64 4] 167)).heap[w.heap.size]? = some (.cells #[.int .u64 bits, .slice ta tn tc, .bool true] 145 (0, 0)) := by
    rw [Below.heap_alloc _ _ _ (by simp; omega), Below.heap_alloc _ _ _ (by simp)]
    exact heap_alloc_new _ _
  have hb3 : (((w.alloc (.cells #[.int .u64 bits, .slice ta tn tc, .bool true] 145)).alloc (.cells #[.int .i64 16, .int .i64 s] 23)).alloc (.cells #[.int .i64 4] 167)).heap[w.heap.size + 1 + 1]? = some (.cells #[.int .i64 4] 167 (0, 0)) := by
    simpa using heap_alloc_new ((w.alloc (.cells #[.int .u64 bits, .slice ta tn tc, .bool true] 145)).alloc (.cells #[.int .i64 16, .int .i64 s] 23)) (.cells #[.int .i64 4] 167)
  generalize hw3 : (((w.alloc (.cells #[.int .u64 bits, .slice ta tn tc, .bool true] 145)).alloc (.cells #[.int .i64 16, .int .i64 s] 23)).alloc (.cells #[.int .i64 4] 167)) = w3 at *
  clear hw3
  have H3 := Aside.mk (H0.out.below B3)
  have HV3 := Aside.mk hv3
  have HB3 := Aside.mk hb3
  have BB3 := Aside.mk B3
  have K3 := Aside.mk (show Kept T w w3 from Kept.of_below B3)
  have L3 := Aside.mk (HL.out.below B3)
  have N3 := Aside.mk (show ∀ b, T b → b < w3.heap.size → T b ∨ w.heap.size ≤ b from fun b h _ => .inl h)
  clear B3 hv3 hb3 hc0 hc1 ta1 ta2
  refine (word_any bl lw 0 16 s nulls data ends nv dv ev 0 4 (by decide) (by omega) hl w3 H3.out (Nat.zero_le _)).mono ?_
  rintro e w4 ⟨rfl, dv', h4, k4, o4⟩
  have hdlt := H0.out.data.lt
  have hvb := lt_of_blk HV3.out
  have hv4 := (k4.block w.heap.size hvb (by
    rintro (e | e)
    · omega
    · have := (hdlt _ e).2; omega)).trans HV3.out
  have hcv := cell_blk (k := 2) hv4
  have hcn := cell_blk (k := 2) h4.blk
  have hfn := frozen_blk (k := 2) h4.blk
  simp at hcv hcn
  obtain ⟨a1, c1, rfl⟩ := h4.nulls.form
  have hbs4 := lt_of_blk h4.blk
  have H4 := Aside.mk h4
  have K4 := Aside.mk k4
  have O4 := Aside.mk o4
  have HV4 := Aside.mk hv4
  clear h4 k4 o4 hdlt hv4 hvb
  generalize hm : nulls.length = m at *
  have HM := Aside.mk hm
  clear hm
  go_wp2_with (fail)
  have hown := Aside.mk (own_in (o := .cells #[.bool true] 4) H4.out HM.out)
  have hsrc := Aside.mk (src_one_drew (P := Tryz.prog) (w := w4) Tryz.underlying140 w4.heap.size (.bool true) 4 rfl rfl)
  have h63 := Aside.mk (show m + 1 ≤ maxLen by unfold maxLen; omega)
  have hby := Aside.mk (show (m + 1) * 1 ≤ 140737488355328 by omega)
  go_region_law ((refine step_app (P := Tryz.prog) ((w4.alloc (.cells #[.bool true] 4)).drew) (by rfl) (.tmp 74) (.tmp 77) 140 140 (by rfl) 0 4 (.bool false) 1 1 Tryz.underlying140 boolinfo (by rfl) (.slice a1 m c1) m (nulls.map .bool) (by rfl) hown.out (.slice (some ⟨w4.heap.size, 0, none⟩) 1 1) 1 [.bool true] (by rfl) hsrc.out h63.out hby.out (Nat.zero_le _) ?_; intro v' w5 hown' hgrow _ hat; obtain ⟨a5, c5, rfl⟩ := hown'.form; have hc5 := cell_blk (k := 2) (blk_grown H4.out hgrow); have hf5 := frozen_blk (k := 2) (blk_grown H4.out hgrow); simp at hc5; have HH := Aside.mk (isB_grown H4.out HM.out hgrow hown'); have HAT := Aside.mk hat; clear hown' hgrow hat))
  all_goals
    go_wp2
    refine bodyPost_ret (v := .tuple #[]) (by simp [results, Tryz.results72, go_sem]) rfl ?_
    exact ⟨rfl, addC_done H0.out HTS.out K3.out L3.out N3.out K4.out O4.out HH.out HAT.out⟩

theorem add_coded_word (bl lw : Nat) (s : Int) (T : Nat → Prop) (nulls : List Bool) (data ends : List Int) (ws : List (List Int)) (nv dv ev : Value) (bits : Int) (tx : List Int) (ta : Option Addr) (tc : Nat) (hl : data.length ≤ 100000000) (hl2 : nulls.length ≤ 100000000) (hlw : ws.length ≤ 100000000) (htb : IsBytes tx) (htl : tx.length ≤ 100000000) (w : World) (h : IsB w bl lw 0 16 s nulls data ends nv dv ev) (hL : WL w T lw ws) (hTs : ∀ b, T b → b ≠ bl ∧ nv.ownBlock ≠ some b ∧ dv.ownBlock ≠ some b) (hTe : ∀ b, T b → ev.ownBlock ≠ some b) (hrt : Rd w 1 (.slice ta tx.length tc) tx.length (tx.map (.int .u8))) :
    Calls Tryz.prog 72 #[.pointer (some ⟨bl, 0, none⟩), .agg #[.int .u64 bits, .slice ta tx.length tc, .bool false]] w (AddCP bl lw s T nulls data ends ws nv dv ev (codeOf ws tx) (addWord ws tx) false w) := by
  have hbs := lt_of_blk h.blk
  have hc0 := cell_blk (k := 0) h.blk
  have hc1 := cell_blk (k := 1) h.blk
  simp at hc0 hc1
  have hcb : codeOf ws tx ≤ 100000000 := Nat.le_trans (codeOf_le ws tx) hlw
  have H0 := Aside.mk h
  have HL := Aside.mk hL
  have HTS := Aside.mk hTs
  have HTE := Aside.mk hTe
  have HRT := Aside.mk hrt
  have HTB := Aside.mk htb
  clear h hL hTs hTe hrt htb
  generalize htn : tx.length = tn at *
  have HTN := Aside.mk htn
  clear htn
  have ta1 := assert_running3
  have ta2 := assert_coded3
  go_enter Tryz.func72, Tryz.ntmps72
  go_wp2_with (first | (go_at_call 86; refine (of_coded s _).mono ?_; rintro e w1 ⟨rfl, rfl⟩))
  have B3 : Below w.heap.size w (((w.alloc (.cells #[.int .u64 bits, .slice ta tn tc, .bool false] 145)).alloc (.cells #[.int .i64 16, .int .i64 s] 23)).alloc (.cells #[.int .i64 4] 167)) := (((Below.refl _ _).alloc (Nat.le_refl _) _).alloc (by simp) _).alloc (by simp; omega) _
  have hv3 : (((w.alloc (.cells #[.int .u64 bits, .slice ta tn tc, .bool false] 145)).alloc (.cells #[.int .i64 16, .int .i64 s] 23)).alloc (.cells #[.int .i64 4] 167)).heap[w.heap.size]? = some (.cells #[.int .u64 bits, .slice ta tn tc, .bool false] 145 (0, 0)) := by
    rw [Below.heap_alloc _ _ _ (by simp; omega), Below.heap_alloc _ _ _ (by simp)]
    exact heap_alloc_new _ _
  have hb3 : (((w.alloc (.cells #[.int .u64 bits, .slice ta tn tc, .bool false] 145)).alloc (.cells #[.int .i64 16, .int .i64 s] 23)).alloc (.cells #[.int .i64 4] 167)).heap[w.heap.size + 1 + 1]? = some (.cells #[.int .i64 4] 167 (0, 0)) := by
    simpa using heap_alloc_new ((w.alloc (.cells #[.int .u64 bits, .slice ta tn tc, .bool false] 145)).alloc (.cells #[.int .i64 16, .int .i64 s] 23)) (.cells #[.int .i64 4] 167)
  generalize hw3 : (((w.alloc (.cells #[.int .u64 bits, .slice ta tn tc, .bool false] 145)).alloc (.cells #[.int .i64 16, .int .i64 s] 23)).alloc (.cells #[.int .i64 4] 167)) = w3 at *
  clear hw3
  have H3 := Aside.mk (H0.out.below B3)
  have HV3 := Aside.mk hv3
  have HB3 := Aside.mk hb3
  have BB3 := Aside.mk B3
  have HL3 := Aside.mk (show WL w3.drew (fun b => T b ∧ b < w.heap.size) lw ws from ((HL.out.mono (T' := fun b => T b ∧ b < w.heap.size) (fun b h1 h2 => ⟨h1, h2⟩)).below B3).below (below_drewN _ _ 1))
  have hcode := Aside.mk (show Calls Tryz.prog 134 #[.pointer (some ⟨lw, 0, none⟩), .slice ta tn tc] w3.drew (CodeP (fun b => T b ∧ b < w.heap.size) lw ws tx w3.drew) by
    have := code_any (fun b => T b ∧ b < w.heap.size) lw ws tx ta tc HTB.out (by rw [HTN.out]; exact htl) hlw w3.drew HL3.out (by rw [HTN.out]; exact (HRT.out.below B3).below (below_drewN _ _ 1))
    rw [HTN.out] at this
    exact this)
  have hc5 := cell_blk (k := 5) H3.out.blk
  have hct := cell_blk (k := 1) HV3.out
  simp at hc5 hct
  have HCE := Aside.mk (show codeOf ws tx = codeOf ws tx from rfl)
  clear B3 hv3 hb3 hc0 hc1 ta1 ta2
  go_region_law ((refine step_call (P := Tryz.prog) w3.drew (by rfl) 134 [.tmp 51, .tmp 53] _ (by rfl) [.pointer (some ⟨lw, 0, none⟩), .slice ta tn tc] (by rfl) (fun _ _ => rfl) hcode.out ?_; rintro e wc ⟨rfl, hlc, hkc⟩; have HLC := Aside.mk hlc; have HKC := Aside.mk (show Kept (fun b => T b ∧ b < w.heap.size) w3 wc from ⟨hkc.os, hkc.tape, hkc.output, hkc.size, hkc.block⟩); clear hlc hkc; have hbc := (HKC.out.block (w.heap.size + 1 + 1) (lt_of_blk HB3.out) (fun h => by have := h.2; omega)).trans HB3.out; have hcw := cell_blk (k := 0) hbc; simp at hcw; clear hbc; refine ⟨_, rfl, ?_⟩))
  all_goals
    have H3C := Aside.mk (show IsB wc bl lw 0 16 s nulls data ends nv dv ev from H3.out.kept HKC.out (fun h => (HTS.out _ h.1).1 rfl) (fun b hb h => by
      rcases hb with e | e | e
      · exact (HTS.out _ h.1).2.1 e
      · exact (HTS.out _ h.1).2.2 e
      · exact HTE.out _ h.1 e) HLC.out.lst)
    have HV3C := Aside.mk ((HKC.out.block w.heap.size (lt_of_blk HV3.out) (fun h => by have := h.2; omega)).trans HV3.out)
    have K3 := Aside.mk (show Kept T w wc from (Kept.of_below BB3.out).trans HKC.out (fun b h _ => h.1))
    have hsz3 := BB3.out.size
    have N3 := Aside.mk (show ∀ b, ((T b ∧ b < w.heap.size) ∨ w3.drew.heap.size ≤ b) → b < wc.heap.size → T b ∨ w.heap.size ≤ b from fun b h _ => h.elim (fun h => .inl h.1) (fun h => .inr (Nat.le_trans hsz3 h)))
    have L3 := HLC
    clear hc5 hct
    go_wp2_with fail
    refine (word_any bl lw 0 16 s nulls data ends nv dv ev (codeOf ws tx) 4 (by decide) (by omega) hl wc H3C.out (Nat.zero_le _)).mono ?_
    rintro e w4 ⟨rfl, dv', h4, k4, o4⟩
    have hdlt := H0.out.data.lt
    have hvb := lt_of_blk HV3C.out
    have hv4 := (k4.block w.heap.size hvb (by
      rintro (e | e)
      · omega
      · have := (hdlt _ e).2; omega)).trans HV3C.out
    have hcv := cell_blk (k := 2) hv4
    have hcn := cell_blk (k := 2) h4.blk
    have hfn := frozen_blk (k := 2) h4.blk
    simp at hcv hcn
    obtain ⟨a1, c1, rfl⟩ := h4.nulls.form
    have hbs4 := lt_of_blk h4.blk
    have H4 := Aside.mk h4
    have K4 := Aside.mk k4
    have O4 := Aside.mk o4
    have HV4 := Aside.mk hv4
    clear h4 k4 o4 hdlt hv4 hvb
    generalize hm : nulls.length = m at *
    have HM := Aside.mk hm
    clear hm
    go_wp2_with (fail)
    have hown := Aside.mk (own_in (o := .cells #[.bool false] 4) H4.out HM.out)
    have hsrc := Aside.mk (src_one_drew (P := Tryz.prog) (w := w4) Tryz.underlying140 w4.heap.size (.bool false) 4 rfl rfl)
    have h63 := Aside.mk (show m + 1 ≤ maxLen by unfold maxLen; omega)
    have hby := Aside.mk (show (m + 1) * 1 ≤ 140737488355328 by omega)
    go_region_law ((refine step_app (P := Tryz.prog) ((w4.alloc (.cells #[.bool false] 4)).drew) (by rfl) (.tmp 74) (.tmp 77) 140 140 (by rfl) 0 4 (.bool false) 1 1 Tryz.underlying140 boolinfo (by rfl) (.slice a1 m c1) m (nulls.map .bool) (by rfl) hown.out (.slice (some ⟨w4.heap.size, 0, none⟩) 1 1) 1 [.bool false] (by rfl) hsrc.out h63.out hby.out (Nat.zero_le _) ?_; intro v' w5 hown' hgrow _ hat; obtain ⟨a5, c5, rfl⟩ := hown'.form; have hc5 := cell_blk (k := 2) (blk_grown H4.out hgrow); have hf5 := frozen_blk (k := 2) (blk_grown H4.out hgrow); simp at hc5; have HH := Aside.mk (isB_grown H4.out HM.out hgrow hown'); have HAT := Aside.mk hat; clear hown' hgrow hat))
    all_goals
      go_wp2
      refine bodyPost_ret (v := .tuple #[]) (by simp [results, Tryz.results72, go_sem]) rfl ?_
      exact ⟨rfl, addC_done H0.out HTS.out K3.out L3.out N3.out K4.out O4.out HH.out HAT.out⟩
end Go.Proofs.YtmhjjhaipcgbiaaGreat


/- add at the kind of texts. -/
namespace Go.Proofs.YtmhjjhaipcgbiaaGreat
open Go.RowKit
set_option linter.unusedVariables false
set_option linter.unusedSimpArgs false
set_option maxRecDepth 100000
set_option maxHeartbeats 8000000

/-- A row of the builder has got more elements and is laid into its cell. -/
theorem IsB.app_data0 {wr w5 : World} {bl lw base : Nat} {k s : Int} {nulls : List Bool} {data data' ends : List Int} {nv dv dv' ev : Value} (h : IsB wr bl lw base k s nulls data ends nv dv ev) (hg : wr.grownBy w5 dv.ownBlock) (hown : Own w5 base 5 1 dv' data'.length (data'.map (.int .u8))) :
    IsB (w5.setCell ⟨bl, 3, none⟩ dv') bl lw base k s nulls data' ends nv dv' ev ∧ Kept (fun b => b = bl ∨ dv.ownBlock = some b) wr (w5.setCell ⟨bl, 3, none⟩ dv') := by
  have K1 : Kept (fun b => some b = dv.ownBlock) wr w5 := Kept.of_grown hg
  have hbl := lt_of_blk h.blk
  have nb : dv.ownBlock ≠ some bl := h.data.blk_ne h.blk (by decide)
  have hb5 := (K1.block bl hbl (fun e => nb e.symm)).trans h.blk
  obtain ⟨mv, hl⟩ := h.lst
  have nl : dv.ownBlock ≠ some lw := h.data.blk_ne hl (by decide)
  have hl5 := (K1.block lw (lt_of_blk hl) (fun e => nl e.symm)).trans hl
  have hne : bl ≠ lw := blk_ne h.blk hl (by decide)
  have hn5 : Own w5 base 4 1 nv nulls.length (nulls.map .bool) := h.nulls.kept K1 (fun k hk e => own_ne_own h.nulls h.data (by decide) k hk e.symm)
  have he5 : Own w5 base 3 1 ev ends.length (ends.map (.int .i64)) := h.ends.kept K1 (fun k hk e => own_ne_own h.ends h.data (by decide) k hk e.symm)
  refine ⟨⟨?_, ⟨mv, ?_⟩, h.bbl, h.blw, ?_, ?_, ?_⟩, ?_⟩
  · have := heap_setCell_at (k := 3) hb5 dv'
    simpa using this
  · rw [Below.heap_setCell _ _ _ _ (fun e => hne e.symm)]; exact hl5
  · exact hn5.set_other (hn5.blk_ne hb5 (by decide)) _
  · exact hown.set_other (hown.blk_ne hb5 (by decide)) _
  · exact he5.set_other (he5.blk_ne hb5 (by decide)) _
  · exact (K1.mono (fun k e _ => .inr e.symm)).trans (Kept.setCell _ _ _) (fun k e _ => .inl e)

/-- A row of the builder has got more elements and is laid into its cell. -/
theorem IsB.app_ends {wr w5 : World} {bl lw base : Nat} {k s : Int} {nulls : List Bool} {data ends ends' : List Int} {nv dv ev ev' : Value} (h : IsB wr bl lw base k s nulls data ends nv dv ev) (hg : wr.grownBy w5 ev.ownBlock) (hown : Own w5 base 3 1 ev' ends'.length (ends'.map (.int .i64))) :
    IsB (w5.setCell ⟨bl, 4, none⟩ ev') bl lw base k s nulls data ends' nv dv ev' ∧ Kept (fun b => b = bl ∨ ev.ownBlock = some b) wr (w5.setCell ⟨bl, 4, none⟩ ev') := by
  have K1 : Kept (fun b => some b = ev.ownBlock) wr w5 := Kept.of_grown hg
  have hbl := lt_of_blk h.blk
  have nb : ev.ownBlock ≠ some bl := h.ends.blk_ne h.blk (by decide)
  have hb5 := (K1.block bl hbl (fun e => nb e.symm)).trans h.blk
  obtain ⟨mv, hl⟩ := h.lst
  have nl : ev.ownBlock ≠ some lw := h.ends.blk_ne hl (by decide)
  have hl5 := (K1.block lw (lt_of_blk hl) (fun e => nl e.symm)).trans hl
  have hne : bl ≠ lw := blk_ne h.blk hl (by decide)
  have hn5 : Own w5 base 4 1 nv nulls.length (nulls.map .bool) := h.nulls.kept K1 (fun k hk e => own_ne_own h.nulls h.ends (by decide) k hk e.symm)
  have hd5 : Own w5 base 5 1 dv data.length (data.map (.int .u8)) := h.data.kept K1 (fun k hk e => own_ne_own h.data h.ends (by decide) k hk e.symm)
  refine ⟨⟨?_, ⟨mv, ?_⟩, h.bbl, h.blw, ?_, ?_, ?_⟩, ?_⟩
  · have := heap_setCell_at (k := 4) hb5 ev'
    simpa using this
  · rw [Below.heap_setCell _ _ _ _ (fun e => hne e.symm)]; exact hl5
  · exact hn5.set_other (hn5.blk_ne hb5 (by decide)) _
  · exact hd5.set_other (hd5.blk_ne hb5 (by decide)) _
  · exact hown.set_other (hown.blk_ne hb5 (by decide)) _
  · exact (K1.mono (fun k e _ => .inr e.symm)).trans (Kept.setCell _ _ _) (fun k e _ => .inl e)

theorem intinfo2 : (Tryz.prog.info? 3).map (fun i => (i.zero, i.size, i.bytes)) = some (some (.int .i64 0), 1, 8) := by kernel_rfl
theorem assert_running2 (v : Value) (w : World) : (Instr.typeAssert (.iface 162 v) 159 162 true).run Tryz.prog w = .ok (.tuple #[v, .bool true]) w := by kernel_rfl

def AddTP (bl lw base : Nat) (s : Int) (nulls : List Bool) (data : List Int) (ends : List Int) (nv dv ev : Value) (tx : List Int) (nl : Bool) (w : World) (e : Ending) (w' : World) : Prop :=
  e = .returned (.tuple #[]) ∧ ∃ nv' dv' ev', IsB w' bl lw base 15 s (nulls ++ [nl]) (data ++ tx) (ends ++ [((data ++ tx).length : Int)]) nv' dv' ev' ∧ Kept (fun b => b = bl ∨ dv.ownBlock = some b ∨ nv.ownBlock = some b ∨ ev.ownBlock = some b) w w' ∧
    (dv'.ownBlock = dv.ownBlock ∨ ∃ b, dv'.ownBlock = some b ∧ w.heap.size ≤ b) ∧ (nv'.ownBlock = nv.ownBlock ∨ ∃ b, nv'.ownBlock = some b ∧ w.heap.size ≤ b) ∧ (ev'.ownBlock = ev.ownBlock ∨ ∃ b, ev'.ownBlock = some b ∧ w.heap.size ≤ b)

theorem addT_done {w w3 w5 w6 w8 w9 : World} {bl lw base : Nat} {s : Int} {nulls : List Bool} {data ends tx : List Int} {nl : Bool} {nv dv ev dv5 ev7 nv9 : Value} {o6 o8 : Obj}
    (hs3 : w.heap.size ≤ w3.heap.size) (b3 : Below w.heap.size w w3) (hg5 : w3.drew.grownBy w5 dv.ownBlock) (a5 : dv5.ownBlock = dv.ownBlock ∨ ∃ b, dv5.ownBlock = some b ∧ w3.drew.heap.size ≤ b)
    (h5 : IsB w6 bl lw base 15 s nulls (data ++ tx) ends nv dv5 ev ∧ Kept (fun b => b = bl ∨ dv.ownBlock = some b) w3.drew w6) (hs6 : w3.heap.size ≤ w6.heap.size)
    (a7 : ev7.ownBlock = ev.ownBlock ∨ ∃ b, ev7.ownBlock = some b ∧ (w6.alloc o6).drew.heap.size ≤ b)
    (h7 : IsB w8 bl lw base 15 s nulls (data ++ tx) (ends ++ [((data ++ tx).length : Int)]) nv dv5 ev7 ∧ Kept (fun b => b = bl ∨ ev.ownBlock = some b) ((w6.alloc o6).drewN 1) w8)
    (k8 : Kept (fun b => b = bl ∨ dv.ownBlock = some b ∨ ev.ownBlock = some b) w3 w8)
    (h9 : IsB w9 bl lw base 15 s (nulls ++ [nl]) (data ++ tx) (ends ++ [((data ++ tx).length : Int)]) nv9 dv5 ev7 ∧ Kept (fun b => b = bl ∨ nv.ownBlock = some b) w8 w9)
    (a9 : nv9.ownBlock = nv.ownBlock ∨ ∃ b, nv9.ownBlock = some b ∧ (w8.alloc o8).drew.heap.size ≤ b) :
    ∃ nv' dv' ev', IsB w9 bl lw base 15 s (nulls ++ [nl]) (data ++ tx) (ends ++ [((data ++ tx).length : Int)]) nv' dv' ev' ∧ Kept (fun b => b = bl ∨ dv.ownBlock = some b ∨ nv.ownBlock = some b ∨ ev.ownBlock = some b) w w9 ∧
    (dv'.ownBlock = dv.ownBlock ∨ ∃ b, dv'.ownBlock = some b ∧ w.heap.size ≤ b) ∧ (nv'.ownBlock = nv.ownBlock ∨ ∃ b, nv'.ownBlock = some b ∧ w.heap.size ≤ b) ∧ (ev'.ownBlock = ev.ownBlock ∨ ∃ b, ev'.ownBlock = some b ∧ w.heap.size ≤ b) := by
  have hs8 := k8.size
  have e3 : w3.drew.heap.size = w3.heap.size := rfl
  have e6 : (w6.alloc o6).drew.heap.size = w6.heap.size + 1 := by show (w6.alloc o6).heap.size = _; simp
  have e8 : (w8.alloc o8).drew.heap.size = w8.heap.size + 1 := by show (w8.alloc o8).heap.size = _; simp
  refine ⟨nv9, dv5, ev7, h9.1, ?_, ?_, ?_, ?_⟩
  · refine ((Kept.of_below b3).trans k8 ?_).trans h9.2 ?_
    · rintro b (e | e | e) _
      · exact .inl e
      · exact .inr (.inl e)
      · exact .inr (.inr (.inr e))
    · rintro b (e | e) _
      · exact .inl e
      · exact .inr (.inr (.inl e))
  · exact a5.imp id (fun ⟨b, e, h⟩ => ⟨b, e, by omega⟩)
  · exact a9.imp id (fun ⟨b, e, h⟩ => ⟨b, e, by omega⟩)
  · exact a7.imp id (fun ⟨b, e, h⟩ => ⟨b, e, by omega⟩)

theorem add_running (bl lw base : Nat) (s : Int) (nulls : List Bool) (data : List Int) (ends : List Int) (nv dv ev : Value) (bits : Int) (ta : Option Addr) (tn tc : Nat) (tx : List Int) (nl : Bool) (hl : data.length + tx.length ≤ 100000000) (hl2 : nulls.length ≤ 100000000) (hl3 : ends.length ≤ 100000000) (w : World) (h : IsB w bl lw base 15 s nulls data ends nv dv ev) (hb : base ≤ w.heap.size) (ht : Rd w 1 (.slice ta tn tc) tn (tx.map (.int .u8))) (htn : tx.length = tn) :
    Calls Tryz.prog 72 #[.pointer (some ⟨bl, 0, none⟩), .agg #[.int .u64 bits, .slice ta tn tc, .bool nl]] w (AddTP bl lw base s nulls data ends nv dv ev tx nl w) := by
  have hbs := lt_of_blk h.blk
  have hc0 := cell_blk (k := 0) h.blk
  have hc1 := cell_blk (k := 1) h.blk
  have hc3 := cell_blk (k := 3) h.blk
  have hf3 := frozen_blk (k := 3) h.blk
  simp at hc0 hc1 hc3
  have H0 := Aside.mk h
  have HT := Aside.mk (And.intro ht htn)
  clear h ht
  have ta1 := assert_running2
  go_enter Tryz.func72, Tryz.ntmps72
  go_wp2_with (first | (go_at_call 86; refine (of_running s _).mono ?_; rintro e w1 ⟨rfl, rfl⟩))
  have B3 : Below w.heap.size w (((w.alloc (.cells #[.int .u64 bits, .slice ta tn tc, .bool nl] 145)).alloc (.cells #[.int .i64 15, .int .i64 s] 23)).alloc (.cells #[] 162)) := (((Below.refl _ _).alloc (Nat.le_refl _) _).alloc (by simp) _).alloc (by simp; omega) _
  have hv3 : ((((w.alloc (.cells #[.int .u64 bits, .slice ta tn tc, .bool nl] 145)).alloc (.cells #[.int .i64 15, .int .i64 s] 23)).alloc (.cells #[] 162))).heap[w.heap.size]? = some (.cells #[.int .u64 bits, .slice ta tn tc, .bool nl] 145 (0, 0)) := by
    rw [Below.heap_alloc _ _ _ (by simp; omega), Below.heap_alloc _ _ _ (by simp)]
    exact heap_alloc_new _ _
  generalize hw3 : (((w.alloc (.cells #[.int .u64 bits, .slice ta tn tc, .bool nl] 145)).alloc (.cells #[.int .i64 15, .int .i64 s] 23)).alloc (.cells #[] 162)) = w3 at *
  clear hw3 hc0 hc1 hc3 hf3 ta1
  have hs3 := B3.size
  have H3 := Aside.mk (H0.out.below B3)
  have hc3 := cell_blk (k := 3) H3.out.blk
  have hf3 := frozen_blk (k := 3) H3.out.blk
  have hcv := cell_blk (k := 1) hv3
  simp at hc3 hcv
  obtain ⟨a1, c1, rfl⟩ := H3.out.data.form
  have hown := Aside.mk (show Own w3.drew base 5 1 (.slice a1 data.length c1) data.length (data.map (.int .u8)) from H3.out.data)
  have hsrc := Aside.mk ((show Rd w3.drew 1 (.slice ta tn tc) tn (tx.map (.int .u8)) from HT.out.1.below (B3.trans (below_drewN w3 _ 1))).src (tx := 43) (P := Tryz.prog) Tryz.underlying43 (fun u hu => by obtain ⟨x, _, rfl⟩ := List.mem_map.1 hu; rfl))
  have hbase := Aside.mk (show base ≤ w3.drew.heap.size from Nat.le_trans hb hs3)
  have h63 := Aside.mk (show data.length + tn ≤ maxLen by unfold maxLen; omega)
  have hby := Aside.mk (show (data.length + tn) * 1 ≤ 140737488355328 by omega)
  have HB3 := Aside.mk B3
  have HV3 := Aside.mk hv3
  clear B3 hv3
  go_region_law ((refine step_app (P := Tryz.prog) w3.drew (by rfl) (.tmp 22) (.tmp 24) 43 43 (by rfl) base 5 (.int .u8 0) 1 1 Tryz.underlying43 u8info (by rfl) (.slice a1 data.length c1) data.length (data.map (.int .u8)) (by rfl) hown.out (.slice ta tn tc) tn (tx.map (.int .u8)) (by rfl) hsrc.out h63.out hby.out hbase.out ?_; intro v' w5 hown' hgrow _ hat; obtain ⟨a5, c5, rfl⟩ := hown'.form; have hb5 := (hgrow.block bl (lt_of_blk H3.out.blk) (fun e => H3.out.data.blk_ne H3.out.blk (by decide) e.symm)).trans H3.out.blk; have hc5 := cell_blk (k := 3) hb5; have hf5 := frozen_blk (k := 3) hb5; simp at hc5; have HG := Aside.mk (And.intro hown' (And.intro hgrow hat)); clear hown' hgrow hat hb5))
  all_goals
    have hown5 : Own w5 base 5 1 (.slice a5 (data.length + tn) c5) (data ++ tx).length ((data ++ tx).map (.int .u8)) := by
      have := HG.out.1
      rw [List.length_append, List.map_append, HT.out.2]
      exact this
    have h5 := (show IsB w3.drew bl lw base 15 s nulls data ends nv (.slice a1 data.length c1) ev from H3.out.drewN 1).app_data0 HG.out.2.1 hown5
    have H5 := Aside.mk h5
    clear h5 hown5
    generalize hw6 : w5.setCell ⟨bl, 3, none⟩ (.slice a5 (data.length + tn) c5) = w6 at *
    clear hc5 hf5 hc3 hf3
    obtain ⟨ea, ec, rfl⟩ := H5.out.1.ends.form
    have hc3 := cell_blk (k := 3) H5.out.1.blk
    have hc4 := cell_blk (k := 4) H5.out.1.blk
    have hf4 := frozen_blk (k := 4) H5.out.1.blk
    simp at hc3 hc4
    have hown6 := Aside.mk (show Own (w6.alloc (.cells #[.int .i64 ((data.length : Int) + tn)] 3)).drew base 3 1 (.slice ea ends.length ec) ends.length (ends.map (.int .i64)) from (H5.out.1.ends.alloc (.cells #[.int .i64 ((data.length : Int) + tn)] 3)))
    have hsrc6 := Aside.mk (src_one_drew (P := Tryz.prog) (w := w6) Tryz.underlying61 w6.heap.size (.int .i64 ((data.length : Int) + tn)) 3 rfl rfl)
    have hbs6 : bl < w6.heap.size := lt_of_blk H5.out.1.blk
    have hs6 : w3.heap.size ≤ w6.heap.size := H5.out.2.size
    have hbase6 := Aside.mk (show base ≤ ((w6.alloc (.cells #[.int .i64 ((data.length : Int) + tn)] 3)).drew).heap.size by show base ≤ (w6.alloc _).heap.size; simp; omega)
    have h636 := Aside.mk (show ends.length + 1 ≤ maxLen by unfold maxLen; omega)
    have hby6 := Aside.mk (show (ends.length + 1) * 8 ≤ 140737488355328 by omega)
    go_wp2
    go_region_law ((refine step_app (P := Tryz.prog) ((w6.alloc (.cells #[.int .i64 ((data.length : Int) + tn)] 3)).drew) (by rfl) (.tmp 32) (.tmp 38) 61 61 (by rfl) base 3 (.int .i64 0) 1 8 Tryz.underlying61 intinfo2 (by rfl) (.slice ea ends.length ec) ends.length (ends.map (.int .i64)) (by rfl) hown6.out (.slice (some ⟨w6.heap.size, 0, none⟩) 1 1) 1 [.int .i64 ((data.length : Int) + tn)] (by rfl) hsrc6.out h636.out hby6.out hbase6.out ?_; intro v' w7 hown' hgrow _ hat; obtain ⟨a7, c7, rfl⟩ := hown'.form; have hb7 := (hgrow.block bl (Nat.lt_of_lt_of_le (lt_of_blk H5.out.1.blk) (by show _ ≤ (w6.alloc _).heap.size; simp)) (fun e => H5.out.1.ends.blk_ne H5.out.1.blk (by decide) e.symm)).trans ((Below.heap_alloc w6 (.cells #[.int .i64 ((data.length : Int) + tn)] 3) _ (lt_of_blk H5.out.1.blk)).trans H5.out.1.blk); have hc7 := cell_blk (k := 4) hb7; have hf7 := frozen_blk (k := 4) hb7; simp at hc7; have HG7 := Aside.mk (And.intro hown' (And.intro hgrow hat)); clear hown' hgrow hat hb7))
    all_goals
      have hown7 : Own w7 base 3 1 (.slice a7 (ends.length + 1) c7) (ends ++ [((data ++ tx).length : Int)]).length ((ends ++ [((data ++ tx).length : Int)]).map (.int .i64)) := by
        have := HG7.out.1
        have e : ((data ++ tx).length : Int) = (data.length : Int) + (tn : Int) := by rw [List.length_append, HT.out.2]; omega
        rw [List.length_append, List.map_append, e]
        exact this
      have h7 := ((H5.out.1.below (below_new w6 (.cells #[.int .i64 ((data.length : Int) + tn)] 3))).drewN 1).app_ends HG7.out.2.1 hown7
      have H7 := Aside.mk h7
      clear h7 hown7 hc7 hf7 hc3 hc4 hf4
      generalize hw8 : w7.setCell ⟨bl, 4, none⟩ (.slice a7 (ends.length + 1) c7) = w8 at *
      clear hw8
      have K8 : Kept (fun b => b = bl ∨ Value.ownBlock (.slice a1 data.length c1) = some b ∨ Value.ownBlock (.slice ea ends.length ec) = some b) w3 w8 :=
        ((Kept.of_below (below_drewN w3 _ 1)).trans H5.out.2 (fun b e _ => e.elim .inl (fun e => .inr (.inl e)))).trans ((Kept.of_below ((below_new w6 (.cells #[.int .i64 ((data.length : Int) + tn)] 3)).trans (below_drewN _ _ 1))).trans H7.out.2 (fun _ e _ => e)) (fun b e _ => e.elim .inl (fun e => .inr (.inr e)))
      have hv8 := (K8.block w.heap.size (lt_of_blk HV3.out) (by
        rintro (e | e | e)
        · have := lt_of_blk H0.out.blk; omega
        · have := (H0.out.data.lt _ e).2; omega
        · have := (H0.out.ends.lt _ e).2; omega)).trans HV3.out
      have HK8 := Aside.mk K8
      have hcv := cell_blk (k := 2) hv8
      simp at hcv
      obtain ⟨na, nc, rfl⟩ := H7.out.1.nulls.form
      have hcn := cell_blk (k := 2) H7.out.1.blk
      have hfn := frozen_blk (k := 2) H7.out.1.blk
      simp at hcn
      have hbs8 := lt_of_blk H7.out.1.blk
      clear hv8 K8
      generalize hm : nulls.length = m at *
      have HM := Aside.mk hm
      clear hm
      go_wp2_with (fail)
      have hown8 := Aside.mk (own_in (o := .cells #[.bool nl] 4) H7.out.1 HM.out)
      have hsrc8 := Aside.mk (src_one_drew (P := Tryz.prog) (w := w8) Tryz.underlying140 w8.heap.size (.bool nl) 4 rfl rfl)
      have hbase8 := Aside.mk (show base ≤ ((w8.alloc (.cells #[.bool nl] 4)).drew).heap.size by have := HK8.out.size; show base ≤ (w8.alloc _).heap.size; simp; omega)
      have h638 := Aside.mk (show m + 1 ≤ maxLen by unfold maxLen; omega)
      have hby8 := Aside.mk (show (m + 1) * 1 ≤ 140737488355328 by omega)
      go_region_law ((refine step_app (P := Tryz.prog) ((w8.alloc (.cells #[.bool nl] 4)).drew) (by rfl) (.tmp 74) (.tmp 77) 140 140 (by rfl) base 4 (.bool false) 1 1 Tryz.underlying140 boolinfo (by rfl) (.slice na m nc) m (nulls.map .bool) (by rfl) hown8.out (.slice (some ⟨w8.heap.size, 0, none⟩) 1 1) 1 [.bool nl] (by rfl) hsrc8.out h638.out hby8.out hbase8.out ?_; intro v' w9 hown' hgrow _ hat; obtain ⟨a9, c9, rfl⟩ := hown'.form; have hc9 := cell_blk (k := 2) (blk_grown H7.out.1 hgrow); have hf9 := frozen_blk (k := 2) (blk_grown H7.out.1 hgrow); simp at hc9; have HH := Aside.mk (isB_grown H7.out.1 HM.out hgrow hown'); have HAT := Aside.mk hat; clear hown' hgrow hat))
      all_goals
        go_wp2
        refine bodyPost_ret (v := .tuple #[]) (by simp [results, Tryz.results72, go_sem]) rfl ?_
        exact ⟨rfl, addT_done hs3 HB3.out HG.out.2.1 HG.out.2.2 H5.out hs6 HG7.out.2.2 H7.out HK8.out HH.out HAT.out⟩
end Go.Proofs.YtmhjjhaipcgbiaaGreat


/- wakes. -/
namespace Go.Proofs.YtmhjjhaipcgbiaaGreat
open Go.RowKit
set_option linter.unusedVariables false
set_option linter.unusedSimpArgs false
set_option maxRecDepth 100000
set_option maxHeartbeats 2000000

theorem conv_rd (v : Value) (n : Nat) (xs : List Int) (hn : xs.length = n) (h0 : 0 < n) (w : World) (h : Rd w 1 v n (xs.map (.int .u8))) : (convert 43 9 v).run Tryz.prog w = .ok (.string (strOfNums xs)) w := by
  obtain ⟨g, o, d, rfl, _, _, hc⟩ := h.some_ (by rw [List.length_map]; omega)
  exact run_convert_bytes_arg w 43 5 Tryz.underlying43 Tryz.underlying5 g o n d xs hn (fun i hi => hc i _ (by
    have : i < xs.length := by omega
    simp [List.getElem?_eq_getElem this, List.getD])) 9 Tryz.underlying9

theorem same_eq (a b : Option Addr) (n ca cb : Nat) (xs : List Int) (hn : xs.length = n) (h0 : 0 < n) (w : World) (ha : Rd w 1 (.slice a n ca) n (xs.map (.int .u8))) (hb : Rd w 1 (.slice b n cb) n (xs.map (.int .u8))) : Calls Tryz.prog 47 #[.slice a n ca, .slice b n cb] w fun e w' => e = .returned (.bool true) ∧ w = w' := by
  have h1 := conv_rd _ n xs hn h0 w ha
  have h2 := conv_rd _ n xs hn h0 w hb
  clear ha hb
  go_enter Tryz.func47, Tryz.ntmps47
  go_wp2
  go_ret
  exact ⟨rfl, rfl⟩

theorem rd_blk {w : World} {g n : Nat} {cs : Array Value} {T : TypeId} {fr : Nat × Nat} (h : w.heap[g]? = some (.cells cs T fr)) (hn : cs.size = n) (hm : n ≤ maxLen) : Rd w 1 (.slice (some ⟨g, 0, none⟩) n n) n cs.toList :=
  ⟨by simp [hn], some ⟨g, 0, none⟩, n, rfl, Nat.le_refl _, hm, (fun e => by cases e), fun j u hu => ⟨g, 0, rfl, by rw [cell_blk h, Nat.zero_add, ← Array.getElem?_toList]; exact hu⟩⟩

theorem num_err (x : Int) (w : World) : Calls Tryz.prog 12 #[.int .i64 x] w fun e w' => e = .returned (.int .i64 x) ∧ w = w' := num_any x w

theorem wakes_any (w : World) : Calls Tryz.prog 14 #[] w fun e w' => e = .returned (.bool true) ∧ Below w.heap.size w w' := by
  go_enter Tryz.func14, Tryz.ntmps14
  go_wp2_with (first | (go_at_call 11; refine (new_yes 6 0 _ (by decide)).mono ?_; rintro e w1 ⟨bl, lw, rfl, h1, b1, _, mvv, hl1⟩; have H1 := Aside.mk h1; have B1 := Aside.mk b1; have HL1 := Aside.mk hl1; clear h1 b1 hl1) | (go_at_call 12; refine (num_any _ _).mono ?_; rintro e wn ⟨rfl, rfl⟩))
  refine (put_fixed bl lw w.heap.size 6 0 (by decide) (by decide) [] [] [] _ _ _ 258 (by decide) (by decide) (by decide) (by decide) w1 H1.out B1.out.size).mono ?_
  rintro e w2 ⟨rfl, _, nv2, dv2, h2, k2, _, _⟩
  have H2 := Aside.mk h2
  have HL2 := Aside.mk (H1.out.lw_kept HL1.out k2)
  have B2 := Aside.mk (B1.out.trans (k2.to_below B1.out.size (by
    rintro b (e | e | e)
    · subst e; exact H1.out.bbl
    · exact (H1.out.data.lt _ e).1
    · exact (H1.out.nulls.lt _ e).1)))
  clear h2 k2
  go_wp2_with (fail)
  refine (null_fixed bl lw w.heap.size 6 0 (by decide) (by decide) _ _ _ _ _ _ (by decide) (by decide) w2 H2.out B2.out.size).mono ?_
  rintro e w3 ⟨rfl, nv3, dv3, h3, k3, _, _⟩
  have H3 := Aside.mk h3
  have HL3 := Aside.mk (H2.out.lw_kept HL2.out k3)
  have B3 := Aside.mk (B2.out.trans (k3.to_below B2.out.size (by
    rintro b (e | e | e)
    · subst e; exact H2.out.bbl
    · exact (H2.out.data.lt _ e).1
    · exact (H2.out.nulls.lt _ e).1)))
  clear h3 k3
  go_wp2_with (fail)
  have hcol := column_any (fun _ v _ => ∃ a n c, v = .slice a n c) bl lw w.heap.size 6 0 _ _ _ _ _ _ w3 H3.out.blk H3.out.nulls H3.out.data H3.out.ends (by decide) (by decide) (by decide) (fun _ v w1 w2 _ h _ => h) (fun w5 hb _ => by
    refine (words_empty lw mvv w5 ((hb.block _ (lt_of_blk HL3.out)).trans HL3.out)).mono ?_
    rintro e w6 ⟨v', rfl, ho, hb6⟩
    obtain ⟨a, c, rfl⟩ := ho.form
    exact ⟨a, 0, c, rfl, hb6, a, 0, c, rfl⟩)
  refine hcol.mono ?_
  clear hcol
  rintro e w4 ⟨mv, dv', ev', wv, rfl, hm, hd, he, ⟨_, _, ⟨wa, wn, wcc, rfl⟩, _⟩, hb4⟩
  have em : mof ([] ++ [false] ++ [true]) = [2] := by decide
  have ed : ([] ++ lows 258 (widthOf 6).toNat ++ lows 0 (widthOf 6).toNat) = [2, 1, 0, 0] := by decide
  rw [em] at hm
  rw [ed] at hd
  obtain ⟨ma, mc, rfl⟩ := hm.form
  obtain ⟨da, dc, rfl⟩ := hd.form
  obtain ⟨ea, ec, rfl⟩ := he.form
  have HM := Aside.mk hm
  have HD := Aside.mk hd
  have B4 := Aside.mk (B3.out.trans (hb4.mono B3.out.size))
  clear hm hd he hb4 H1 H2 H3 B1 B2 B3
  simp only [List.length_append, List.length_cons, List.length_nil]
  go_wp2_with (first | (go_at_call 12; refine (num_any _ _).mono ?_; rintro e wn ⟨rfl, rfl⟩))
  have hB5 : Below w4.heap.size w4 ((w4.alloc (.cells #[.int .i64 6, .int .i64 0, .int .i64 2, .int .i64 2, .slice ma 1 mc, .slice da 4 dc, .slice ea 0 ec, .slice wa wn wcc] 63)).alloc (.cells #[.int .u8 2, .int .u8 1, .int .u8 0, .int .u8 0] 5)) := ((Below.refl _ _).alloc (Nat.le_refl _) _).alloc (by simp) _
  have hB6 : Below w4.heap.size w4 (((w4.alloc (.cells #[.int .i64 6, .int .i64 0, .int .i64 2, .int .i64 2, .slice ma 1 mc, .slice da 4 dc, .slice ea 0 ec, .slice wa wn wcc] 63)).alloc (.cells #[.int .u8 2, .int .u8 1, .int .u8 0, .int .u8 0] 5)).alloc (.cells #[.int .u8 2] 5)) := hB5.alloc (by simp; omega) _
  refine (same_eq da _ 4 dc _ [2, 1, 0, 0] rfl (by decide) _ (HD.out.below hB5).rd ?_).mono ?_
  · have := heap_alloc_new (w4.alloc (.cells #[.int .i64 6, .int .i64 0, .int .i64 2, .int .i64 2, .slice ma 1 mc, .slice da 4 dc, .slice ea 0 ec, .slice wa wn wcc] 63)) (.cells #[.int .u8 2, .int .u8 1, .int .u8 0, .int .u8 0] 5)
    exact rd_blk (n := 4) (by simpa using this) rfl (by decide)
  rintro e w5 ⟨rfl, rfl⟩
  go_wp2_with (fail)
  refine (same_eq ma _ 1 mc _ [2] rfl (by decide) _ (HM.out.below hB6).rd ?_).mono ?_
  · have := heap_alloc_new ((w4.alloc (.cells #[.int .i64 6, .int .i64 0, .int .i64 2, .int .i64 2, .slice ma 1 mc, .slice da 4 dc, .slice ea 0 ec, .slice wa wn wcc] 63)).alloc (.cells #[.int .u8 2, .int .u8 1, .int .u8 0, .int .u8 0] 5)) (.cells #[.int .u8 2] 5)
    exact rd_blk (n := 1) (by simpa using this) rfl (by decide)
  rintro e w6 ⟨rfl, rfl⟩
  go_wp2_with (fail)
  go_ret
  exact ⟨rfl, B4.out.trans (hB6.mono B4.out.size)⟩
end Go.Proofs.YtmhjjhaipcgbiaaGreat


/- A builder as a whole: its blocks are among S; add at every kind. -/
namespace Go.Proofs.YtmhjjhaipcgbiaaGreat
open Go.RowKit
set_option linter.unusedVariables false
set_option linter.unusedSimpArgs false
set_option maxRecDepth 100000
set_option maxHeartbeats 1000000

/-- A builder's blocks, apart from each other. -/
structure BSx (w : World) (S : Nat → Prop) (bl : Nat) (k s : Int) (c : CS) (lw : Nat) (nv dv ev : Value) (T : Nat → Prop) : Prop where
  b : IsB w bl lw 0 k s c.nulls c.data c.ends nv dv ev
  l : WL w T lw c.words
  ts : ∀ x, T x → S x ∧ x < w.heap.size ∧ x ≠ bl ∧ nv.ownBlock ≠ some x ∧ dv.ownBlock ≠ some x ∧ ev.ownBlock ≠ some x
  sb : S bl
  sn : ∀ x, nv.ownBlock = some x ∨ dv.ownBlock = some x ∨ ev.ownBlock = some x → S x
/-- A builder at block bl that holds c: its blocks are among S. -/
def BS (w : World) (S : Nat → Prop) (bl : Nat) (k s : Int) (c : CS) : Prop := ∃ lw nv dv ev T, BSx w S bl k s c lw nv dv ev T

theorem BS.kept {w w' : World} {S R : Nat → Prop} {bl : Nat} {k s : Int} {c : CS} (h : BS w S bl k s c) (hk : Kept R w w') (hR : ∀ b, S b → b < w.heap.size → ¬ R b) : BS w' S bl k s c := by
  obtain ⟨lw, nv, dv, ev, T, h⟩ := h
  have hL := h.l.kept hk (fun b hb hlt => hR b (h.ts b hb).1 hlt)
  refine ⟨lw, nv, dv, ev, T, h.b.kept hk (hR bl h.sb (lt_of_blk h.b.blk)) (fun b hb => hR b (h.sn b hb) ?_) hL.lst, hL, fun x hx => ?_, h.sb, h.sn⟩
  · rcases hb with e | e | e
    · exact (h.b.nulls.lt b e).2
    · exact (h.b.data.lt b e).2
    · exact (h.b.ends.lt b e).2
  · obtain ⟨h1, h2, h3⟩ := h.ts x hx
    exact ⟨h1, Nat.lt_of_lt_of_le h2 hk.size, h3⟩
theorem BS.below {w w' : World} {S : Nat → Prop} {bl : Nat} {k s : Int} {c : CS} (h : BS w S bl k s c) (hb : Below w.heap.size w w') : BS w' S bl k s c :=
  h.kept (Kept.of_below (S := fun _ => False) hb) (fun _ _ _ e => e)
theorem BS.mono {w : World} {S S' : Nat → Prop} {bl : Nat} {k s : Int} {c : CS} (h : BS w S bl k s c) (hS : ∀ b, S b → b < w.heap.size → S' b) : BS w S' bl k s c := by
  obtain ⟨lw, nv, dv, ev, T, h⟩ := h
  refine ⟨lw, nv, dv, ev, T, h.b, h.l, fun x hx => ?_, hS bl h.sb (lt_of_blk h.b.blk), fun x hx => hS x (h.sn x hx) ?_⟩
  · obtain ⟨h1, h2, h3⟩ := h.ts x hx
    exact ⟨hS x h1 h2, h2, h3⟩
  · rcases hx with e | e | e
    · exact (h.b.nulls.lt x e).2
    · exact (h.b.data.lt x e).2
    · exact (h.b.ends.lt x e).2

/-- What a step of a builder leaves. -/
def StepP (S : Nat → Prop) (bl : Nat) (k s : Int) (c' : CS) (r : Value) (w : World) (e : Ending) (w' : World) : Prop :=
  e = .returned r ∧ BS w' (fun b => S b ∨ w.heap.size ≤ b) bl k s c' ∧ Kept S w w'

/-- Small enough for one value more. -/
def Room (c : CS) (v : V) : Prop := c.data.length + v.text.length ≤ 100000000 ∧ c.nulls.length ≤ 100000000 ∧ c.ends.length ≤ 100000000 ∧ c.words.length ≤ 100000000 ∧ IsBytes v.text ∧ v.bits < 18446744073709551616

theorem own_new {v v' : Value} {w : World} {S : Nat → Prop} (h : v'.ownBlock = v.ownBlock ∨ ∃ b, v'.ownBlock = some b ∧ w.heap.size ≤ b) (hS : ∀ x, v.ownBlock = some x → S x) : ∀ x, v'.ownBlock = some x → S x ∨ w.heap.size ≤ x := fun x e => by
  rcases h with h | ⟨b, h, hb⟩
  · exact .inl (hS x (h ▸ e))
  · rw [h] at e; cases e; exact .inr hb
theorem own_apart {v v' : Value} {w : World} {x : Nat} (h : v'.ownBlock = v.ownBlock ∨ ∃ b, v'.ownBlock = some b ∧ w.heap.size ≤ b) (hx : x < w.heap.size) (hn : v.ownBlock ≠ some x) : v'.ownBlock ≠ some x := fun e => by
  rcases h with h | ⟨b, h, hb⟩
  · exact hn (h ▸ e)
  · rw [h] at e; cases e; omega

theorem add_BS (S : Nat → Prop) (bl : Nat) (k s : Int) (c : CS) (v : V) (ta : Option Addr) (tc : Nat) (hr : Room c v) (w : World) (h : BS w S bl k s c) (ht : Rd w 1 (.slice ta v.text.length tc) v.text.length (v.text.map (.int .u8))) :
    Calls Tryz.prog 72 #[.pointer (some ⟨bl, 0, none⟩), .agg #[.int .u64 (v.bits : Int), .slice ta v.text.length tc, .bool v.null]] w (StepP S bl k s (c.add k v) (.tuple #[]) w) := by
  obtain ⟨lw, nv, dv, ev, T, h⟩ := h
  obtain ⟨r1, r2, r3, r4, r5, r6⟩ := hr
  have hn := h.sn
  by_cases h15 : k = 15
  · subst h15
    refine (add_running bl lw 0 s c.nulls c.data c.ends nv dv ev v.bits ta v.text.length tc v.text v.null r1 r2 r3 w h.b (Nat.zero_le _) ht rfl).mono ?_
    rintro e w' ⟨rfl, nv', dv', ev', hb, hk, od, on, oe⟩
    refine ⟨rfl, ⟨lw, nv', dv', ev', T, ?_, ?_, ?_, .inl h.sb, ?_⟩, hk.mono ?_⟩
    · show IsB w' bl lw 0 15 s (CS.add 15 c v).nulls (CS.add 15 c v).data (CS.add 15 c v).ends nv' dv' ev'
      simpa [CS.add] using hb
    · show WL w' T lw (CS.add 15 c v).words
      have : (CS.add 15 c v).words = c.words := by simp [CS.add]
      rw [this]
      exact h.l.kept hk (fun b hb _ e => by
        obtain ⟨_, _, a1, a2, a3, a4⟩ := h.ts b hb
        rcases e with e | e | e | e
        · exact a1 e
        · exact a3 e
        · exact a2 e
        · exact a4 e)
    · intro x hx
      obtain ⟨a0, a5, a1, a2, a3, a4⟩ := h.ts x hx
      exact ⟨.inl a0, Nat.lt_of_lt_of_le a5 hk.size, a1, own_apart on a5 a2, own_apart od a5 a3, own_apart oe a5 a4⟩
    · rintro x (e | e | e)
      · exact own_new on (fun y e => hn y (.inl e)) x e
      · exact own_new od (fun y e => hn y (.inr (.inl e))) x e
      · exact own_new oe (fun y e => hn y (.inr (.inr e))) x e
    · rintro b (e | e | e | e) _
      · rw [e]; exact h.sb
      · exact hn b (.inr (.inl e))
      · exact hn b (.inl e)
      · exact hn b (.inr (.inr e))
  by_cases h16 : k = 16
  · subst h16
    have hts : ∀ b, T b → b ≠ bl ∧ nv.ownBlock ≠ some b ∧ dv.ownBlock ≠ some b := fun b hb => ⟨(h.ts b hb).2.2.1, (h.ts b hb).2.2.2.1, (h.ts b hb).2.2.2.2.1⟩
    have hte : ∀ b, T b → ev.ownBlock ≠ some b := fun b hb => (h.ts b hb).2.2.2.2.2
    have fin : ∀ (X : Nat) (ws2 : List (List Int)) (e : Ending) (w' : World), AddCP bl lw s T c.nulls c.data c.ends c.words nv dv ev X ws2 v.null w e w' → c.add 16 v = ⟨c.nulls ++ [v.null], c.data ++ lows X 4, c.ends, ws2⟩ → StepP S bl 16 s (c.add 16 v) (.tuple #[]) w e w' := by
      rintro X ws2 e w' ⟨rfl, nv', dv', hb, hl, hk, od, on⟩ hc
      rw [hc]
      have hl2 := hl.mono (T' := fun b => (T b ∨ w.heap.size ≤ b ∧ b ≠ bl ∧ nv'.ownBlock ≠ some b ∧ dv'.ownBlock ≠ some b) ∧ b < w'.heap.size) (fun b h1 h2 => ⟨h1, h2⟩)
      refine ⟨rfl, ⟨lw, nv', dv', ev, _, hb, hl2, ?_, .inl h.sb, ?_⟩, hk.mono ?_⟩
      · rintro x ⟨hx | hx, hlt⟩
        · obtain ⟨a0, a5, a1, a2, a3, a4⟩ := h.ts x hx
          exact ⟨.inl a0, hlt, a1, own_apart on a5 a2, own_apart od a5 a3, a4⟩
        · exact ⟨.inr hx.1, hlt, hx.2.1, hx.2.2.1, hx.2.2.2, fun e => by have := (h.b.ends.lt x e).2; omega⟩
      · rintro x (e | e | e)
        · exact own_new on (fun y e => hn y (.inl e)) x e
        · exact own_new od (fun y e => hn y (.inr (.inl e))) x e
        · exact .inl (hn x (.inr (.inr e)))
      · rintro b (e | e | e | e) _
        · exact (h.ts b e).1
        · rw [e]; exact h.sb
        · exact hn b (.inr (.inl e))
        · exact hn b (.inl e)
    cases hv : v.null with
    | true =>
      refine (add_coded_null bl lw s T c.nulls c.data c.ends c.words nv dv ev v.bits ta v.text.length tc (by omega) r2 w h.b h.l hts).mono ?_
      intro e w' hp
      refine fin 0 c.words e w' (by rw [hv]; exact hp) ?_
      simp [CS.add, hv]
    | false =>
      refine (add_coded_word bl lw s T c.nulls c.data c.ends c.words nv dv ev v.bits v.text ta tc (by omega) r2 r4 r5 (by omega) w h.b h.l hts hte ht).mono ?_
      intro e w' hp
      refine fin (codeOf c.words v.text) (addWord c.words v.text) e w' (by rw [hv]; exact hp) ?_
      simp [CS.add, hv]
  · have q1 : (k == 15) = false := by simpa using h15
    have q2 : (k == 16) = false := by simpa using h16
    refine (add_fixed bl lw 0 k s q1 q2 c.nulls c.data c.ends nv dv ev v.bits (.slice ta v.text.length tc) v.null r6 (by omega) r2 w h.b (Nat.zero_le _)).mono ?_
    rintro e w' ⟨rfl, nv', dv', hb, hk, od, on⟩
    have hc : c.add k v = ⟨c.nulls ++ [v.null], c.data ++ lows v.bits (widthOf k).toNat, c.ends, c.words⟩ := by simp [CS.add, h15, h16]
    rw [hc]
    refine ⟨rfl, ⟨lw, nv', dv', ev, T, hb, ?_, ?_, .inl h.sb, ?_⟩, hk.mono ?_⟩
    · exact h.l.kept hk (fun b hb _ e => by
        obtain ⟨_, _, a1, a2, a3, a4⟩ := h.ts b hb
        rcases e with e | e | e
        · exact a1 e
        · exact a3 e
        · exact a2 e)
    · intro x hx
      obtain ⟨a0, a5, a1, a2, a3, a4⟩ := h.ts x hx
      exact ⟨.inl a0, Nat.lt_of_lt_of_le a5 hk.size, a1, own_apart on a5 a2, own_apart od a5 a3, a4⟩
    · rintro x (e | e | e)
      · exact own_new on (fun y e => hn y (.inl e)) x e
      · exact own_new od (fun y e => hn y (.inr (.inl e))) x e
      · exact .inl (hn x (.inr (.inr e)))
    · rintro b (e | e | e) _
      · rw [e]; exact h.sb
      · exact hn b (.inr (.inl e))
      · exact hn b (.inl e)
end Go.Proofs.YtmhjjhaipcgbiaaGreat


/- A builder's steps: New, Null, Put, Text, Column. -/
namespace Go.Proofs.YtmhjjhaipcgbiaaGreat
open Go.RowKit
set_option linter.unusedVariables false
set_option linter.unusedSimpArgs false
set_option maxRecDepth 100000
set_option maxHeartbeats 1000000

def NewBP (k s : Int) (w : World) (e : Ending) (w' : World) : Prop := ∃ bl, e = .returned (.tuple #[.pointer (some ⟨bl, 0, none⟩), .int .i64 0]) ∧ BS w' (fun b => w.heap.size ≤ b) bl k s CS.zero ∧ Below w.heap.size w w'
theorem new_BS (k s : Int) (w : World) (h : okType k s = true) : Calls Tryz.prog 11 #[.agg #[.int .i64 k, .int .i64 s]] w (NewBP k s w) := by
  refine (new_yes k s w h).mono ?_
  rintro e w' ⟨bl, lw, rfl, hb, hbl, hl, _⟩
  refine ⟨bl, rfl, ⟨lw, _, _, _, _, ⟨hb.blk, hb.lst, Nat.zero_le _, Nat.zero_le _, hb.nulls.mono (Nat.zero_le _), hb.data.mono (Nat.zero_le _), hb.ends.mono (Nat.zero_le _)⟩, hl.mono (T' := fun b => (w.heap.size ≤ b ∧ b ≠ bl) ∧ b < w'.heap.size) (fun b h1 h2 => ⟨h1, h2⟩), ?_, hb.bbl, ?_⟩, hbl⟩
  · rintro x ⟨⟨h1, h2⟩, h3⟩
    exact ⟨h1, h3, h2, by simp [Value.ownBlock], by simp [Value.ownBlock], by simp [Value.ownBlock]⟩
  · rintro x (e | e | e) <;> cases e

theorem null_BS (S : Nat → Prop) (bl : Nat) (k s : Int) (c : CS) (hr : Room c ⟨true, 0, []⟩) (w : World) (h : BS w S bl k s c) :
    Calls Tryz.prog 16 #[.pointer (some ⟨bl, 0, none⟩)] w (StepP S bl k s (c.add k ⟨true, 0, []⟩) (.tuple #[]) w) := by
  have HA := Aside.mk (show Calls Tryz.prog 72 #[.pointer (some ⟨bl, 0, none⟩), .agg #[.int .u64 0, .slice none 0 0, .bool true]] w (StepP S bl k s (c.add k ⟨true, 0, []⟩) (.tuple #[]) w) from add_BS S bl k s c ⟨true, 0, []⟩ none 0 hr w h (Rd.nil w 1))
  clear h
  go_enter Tryz.func16, Tryz.ntmps16
  go_wp2_with (go_at_call 72; refine HA.out.mono ?_; rintro e w1 ⟨rfl, hp⟩; have HP := Aside.mk hp; clear hp)
  exact bodyPost_ret (v := .tuple #[]) (by simp [results, Tryz.results16, go_sem]) rfl ⟨rfl, HP.out⟩

theorem texts_BS (S : Nat → Prop) (bl : Nat) (k s : Int) (c : CS) (w : World) (h : BS w S bl k s c) : Calls Tryz.prog 73 #[.pointer (some ⟨bl, 0, none⟩)] w fun e w' => e = .returned (.bool (wordedB k)) ∧ w = w' := by
  obtain ⟨lw, nv, dv, ev, T, h⟩ := h
  have hc0 := cell_blk (k := 0) h.b.blk
  simp at hc0
  clear h
  cases h15 : (k == 15) with
  | true =>
    have HW := Aside.mk (show true = wordedB k by unfold wordedB; rw [h15]; rfl)
    go_enter Tryz.func73, Tryz.ntmps73
    go_wp2
    go_ret
    exact ⟨ret_bool HW.out, rfl⟩
  | false =>
    have HW := Aside.mk (show (k == 16) = wordedB k by unfold wordedB; rw [h15]; simp)
    go_enter Tryz.func73, Tryz.ntmps73
    go_wp2
    go_ret
    exact ⟨ret_bool HW.out, rfl⟩

def StepBP (S : Nat → Prop) (bl : Nat) (k s : Int) (c' : CS) (r : Value) (w : World) (e : Ending) (w' : World) : Prop :=
  e = .returned r ∧ BS w' (fun b => S b ∨ w.heap.size ≤ b) bl k s c' ∧ Kept S w w'

theorem put_BS (S : Nat → Prop) (bl : Nat) (k s : Int) (c : CS) (X : Nat) (hk : wordedB k = false) (hf : fitsB k s X = true) (hr : Room c ⟨false, X, []⟩) (w : World) (h : BS w S bl k s c) :
    Calls Tryz.prog 17 #[.pointer (some ⟨bl, 0, none⟩), .int .u64 (X : Int)] w (StepP S bl k s (c.add k ⟨false, X, []⟩) (.int .i64 0) w) := by
  have HT := Aside.mk (texts_BS S bl k s c w h)
  have hX : X < 18446744073709551616 := hr.2.2.2.2.2
  have HA := Aside.mk (fun (w2 : World) (hb : Below w.heap.size w w2) => show Calls Tryz.prog 72 #[.pointer (some ⟨bl, 0, none⟩), .agg #[.int .u64 (X : Int), .slice none 0 0, .bool false]] w2 (StepP S bl k s (c.add k ⟨false, X, []⟩) (.tuple #[]) w2) from add_BS S bl k s c ⟨false, X, []⟩ none 0 hr w2 (h.below hb) (Rd.nil w2 1))
  have hc0 : w.cell? ⟨bl, 0, none⟩ = some (.int .i64 k) := by obtain ⟨lw, nv, dv, ev, T, h⟩ := h; rw [cell_blk h.b.blk]; rfl
  have hc1 : w.cell? ⟨bl, 1, none⟩ = some (.int .i64 s) := by obtain ⟨lw, nv, dv, ev, T, h⟩ := h; rw [cell_blk h.b.blk]; rfl
  have HF := Aside.mk hf
  have HK := Aside.mk hk
  clear h hf hk hr
  go_enter Tryz.func17, Tryz.ntmps17
  go_wp2_with (first | (go_at_call 73; refine HT.out.mono ?_; rintro e w1 ⟨rfl, rfl⟩; rw [HK.out]) | (go_at_call 74; refine (fits_any k s X (by omega) (by omega) _).mono ?_; rintro e w2 ⟨rfl, hb2⟩; rw [HF.out]; have B2 := Aside.mk hb2; clear hb2) | (go_at_call 72; refine (HA.out _ B2.out).mono ?_; rintro e w3 ⟨rfl, hp⟩; have HP := Aside.mk hp; clear hp))
  go_ret
  have hs := B2.out.size
  exact ⟨rfl, HP.out.1.mono (fun b hb _ => hb.elim .inl (fun h => .inr (by omega))), (Kept.of_below B2.out).trans HP.out.2 (fun _ e _ => e)⟩

theorem text_BS (S : Nat → Prop) (bl : Nat) (k s : Int) (c : CS) (tx : List Int) (ta : Option Addr) (tc : Nat) (hk : wordedB k = true) (hr : Room c ⟨false, 0, tx⟩) (w : World) (h : BS w S bl k s c) (ht : Rd w 1 (.slice ta tx.length tc) tx.length (tx.map (.int .u8))) :
    Calls Tryz.prog 21 #[.pointer (some ⟨bl, 0, none⟩), .slice ta tx.length tc] w (StepP S bl k s (c.add k ⟨false, 0, tx⟩) (.int .i64 0) w) := by
  have HT := Aside.mk (texts_BS S bl k s c w h)
  have HA := Aside.mk (show Calls Tryz.prog 72 #[.pointer (some ⟨bl, 0, none⟩), .agg #[.int .u64 0, .slice ta tx.length tc, .bool false]] w (StepP S bl k s (c.add k ⟨false, 0, tx⟩) (.tuple #[]) w) from add_BS S bl k s c ⟨false, 0, tx⟩ ta tc hr w h ht)
  have HK := Aside.mk hk
  clear h hk hr ht
  go_enter Tryz.func21, Tryz.ntmps21
  go_wp2_with (first | (go_at_call 73; refine HT.out.mono ?_; rintro e w1 ⟨rfl, rfl⟩; rw [HK.out]) | (go_at_call 72; refine HA.out.mono ?_; rintro e w3 ⟨rfl, hp⟩; have HP := Aside.mk hp; clear hp))
  go_ret
  exact ⟨rfl, HP.out⟩

/-- Rows of one kind, each in a block of its own. -/
structure SepC (B D : SL) (vals : List Value) : Prop where
  bd : ∀ b, (Value.slice B.a 0 0).ownBlock = some b → (Value.slice D.a 0 0).ownBlock ≠ some b
  bw : ∀ v ∈ vals, ∀ b, v.ownBlock = some b → (Value.slice B.a 0 0).ownBlock ≠ some b ∧ (Value.slice D.a 0 0).ownBlock ≠ some b
  ww : WSep vals.length vals
theorem own_len00 (a : Option Addr) (x y : Nat) : (Value.slice a x y).ownBlock = (Value.slice a 0 0).ownBlock := by cases a <;> rfl
/-- A column in rows of its own, from base on. -/
structure OwnC (w : World) (base : Nat) (c : Col) (B D E W : SL) (vals : List Value) : Prop where
  bits : Own w base 5 1 (.slice B.a c.bits.length B.c) c.bits.length (c.bits.map (.int .u8))
  data : Own w base 5 1 (.slice D.a c.data.length D.c) c.data.length (c.data.map (.int .u8))
  ends : Own w base 3 1 (.slice E.a c.ends.length E.c) c.ends.length (c.ends.map (.int .i64))
  words : Own w base 43 1 (.slice W.a c.words.length W.c) c.words.length vals
  len : vals.length = c.words.length
  each : WOwn w base c.words.length vals c.words
  sep : SepC B D vals
theorem OwnC.rd {w : World} {base : Nat} {c : Col} {B D E W : SL} {vals : List Value} (h : OwnC w base c B D E W vals) : RdC w c B D E W vals :=
  ⟨h.bits.rd, h.data.rd, h.ends.rd, h.words.rd, h.len, fun i t hi => by
    obtain ⟨a, cap, h1, h2⟩ := h.each i t (List.getElem?_eq_some_iff.1 hi).1 hi
    exact ⟨a, cap, h1, h2.rd⟩⟩

def ColBP (c : Col) (w : World) (e : Ending) (w' : World) : Prop := ∃ B D E W vals, e = .returned (colV c B D E W) ∧ OwnC w' w.heap.size c B D E W vals ∧ Below w.heap.size w w'

theorem WOwn.mono {w : World} {base base' i : Nat} {vals : List Value} {ws : List (List Int)} (h : WOwn w base i vals ws) (hb : base' ≤ base) : WOwn w base' i vals ws := fun j t hj ht => by
  obtain ⟨a, cap, h1, h2⟩ := h j t hj ht
  exact ⟨a, cap, h1, h2.mono hb⟩

theorem column_BS (S : Nat → Prop) (bl : Nat) (k s : Int) (c : CS) (h1 : c.nulls.length ≤ 100000000) (h2 : c.data.length ≤ 100000000) (h3 : c.ends.length ≤ 100000000) (h4 : c.words.length ≤ 100000000) (h5 : ∀ t ∈ c.words, t.length ≤ 100000000) (w : World) (h : BS w S bl k s c) :
    Calls Tryz.prog 34 #[.pointer (some ⟨bl, 0, none⟩)] w (ColBP (c.col k s) w) := by
  obtain ⟨lw, nv, dv, ev, T, h⟩ := h
  refine (column_any (fun n v w' => ∃ a cp vals, v = .slice a c.words.length cp ∧ Own w' (w.heap.size + 1) 43 1 (.slice a c.words.length cp) c.words.length vals ∧ vals.length = c.words.length ∧ WOwn w' n c.words.length vals c.words ∧ WSep vals.length vals)
    bl lw 0 k s c.nulls c.data c.ends nv dv ev w h.b.blk h.b.nulls h.b.data h.b.ends h1 (by omega) (by omega) ?_ ?_).mono ?_
  · rintro n v w1 w2 hn ⟨a, cp, vals, rfl, ho, hl, hw, hs⟩ hk
    refine ⟨a, cp, vals, rfl, ho.kept hk (fun b e h => by have := (ho.lt b e).1; omega), hl, fun j t hj ht => ?_, hs⟩
    obtain ⟨a, cap, q1, q2⟩ := hw j t hj ht
    exact ⟨a, cap, q1, q2.kept hk (fun b e h => by have := (q2.lt b e).1; omega)⟩
  · intro w2 hb hsz
    refine (words_any T lw c.words h4 (fun t ht => Nat.le_trans (h5 t ht) (by decide)) w2 (h.l.below hb)).mono ?_
    rintro e w' ⟨a, cp, vals, rfl, ho, hl, hw, hb2, hs⟩
    exact ⟨a, _, cp, rfl, hb2, a, cp, vals, rfl, ho.mono hsz, hl, hw, by rw [hl]; exact hs⟩
  · rintro e w' ⟨mv, dv', ev', wv, rfl, hm, hd, he, ⟨n, hwn, ⟨a, cp, vals, rfl, ho, hl, hw, hs⟩, s1, s2, s3⟩, hb⟩
    obtain ⟨ma, mc, rfl⟩ := hm.form
    obtain ⟨da, dc, rfl⟩ := hd.form
    obtain ⟨ea, ec, rfl⟩ := he.form
    refine ⟨⟨ma, mc⟩, ⟨da, dc⟩, ⟨ea, ec⟩, ⟨a, cp⟩, vals, rfl, ⟨hm, hd, he, ho.mono (by omega), hl, hw.mono (Nat.le_of_lt hwn), ⟨fun b e e2 => ?_, fun v hv b e => ?_, hs⟩⟩, hb⟩
    · rw [← own_len00 ma _ mc] at e
      rw [← own_len00 da _ dc] at e2
      exact s3 b e e2
    · obtain ⟨i, hi, rfl⟩ := List.mem_iff_getElem.1 hv
      obtain ⟨a', cap', q1, q2⟩ := hw i _ (by omega) (List.getElem?_eq_getElem (by omega))
      rw [List.getElem?_eq_getElem hi] at q1
      have q1 := Option.some.inj q1
      rw [q1] at e
      have := (q2.lt b e).1
      refine ⟨fun e2 => ?_, fun e2 => ?_⟩
      · rw [← own_len00 ma _ mc] at e2
        have := s1 b e2; omega
      · rw [← own_len00 da _ dc] at e2
        have := s2 b e2; omega
end Go.Proofs.YtmhjjhaipcgbiaaGreat


/- (*column.Builder).Append of a column that may be, of the builder's type. -/
namespace Go.Proofs.YtmhjjhaipcgbiaaGreat
open Go.RowKit Go.Shelf
set_option linter.unusedVariables false
set_option linter.unusedSimpArgs false
set_option maxRecDepth 100000
set_option maxHeartbeats 4000000
attribute [local go_sem] Oper.semAt_some

def CS.app (k : Int) (cs : CS) (l : List V) : CS := l.foldl (CS.add k) cs
theorem CS.app_snoc (k : Int) (cs : CS) (l : List V) (v : V) : CS.app k cs (l ++ [v]) = (CS.app k cs l).add k v := by simp [CS.app, List.foldl_append]
def valsC (c : Col) (n : Nat) : List V := (List.range n).map (valC c)
theorem valsC_snoc (c : Col) (n : Nat) : valsC c (n + 1) = valsC c n ++ [valC c n] := by simp [valsC, List.range_succ]
theorem app_next (c : Col) (cs : CS) (n : Nat) : CS.app c.k cs (valsC c (n + 1)) = (CS.app c.k cs (valsC c n)).add c.k (valC c n) := by rw [valsC_snoc, CS.app_snoc]

/-- What the loop holds. -/
structure AppI (c : Col) (B D E X : SL) (vals : List Value) (cs : CS) (S : Nat → Prop) (bl Bs b0 : Nat) (w w1 : World) (i : Nat) (W : World) : Prop where
  bs : BS W (fun b => S b ∧ b < w.heap.size ∨ w1.heap.size + 2 ≤ b) bl c.k c.s (CS.app c.k cs (valsC c i))
  kept : Kept (fun b => S b ∧ b < w.heap.size) w W
  b0 : W.heap[b0]? = some (.cells #[.pointer (some ⟨bl, 0, none⟩)] 25 (0, 0))
  bx : W.heap[Bs]? = some (.cells #[.int .i64 c.k, .int .i64 c.s, .int .i64 c.n, .int .i64 c.m, .slice B.a c.bits.length B.c, .slice D.a c.data.length D.c, .slice E.a c.ends.length E.c, .slice X.a c.words.length X.c] 63 (0, 0))
theorem AppI.moved {c : Col} {B D E X : SL} {vals : List Value} {cs : CS} {S : Nat → Prop} {bl Bs b0 : Nat} {w w1 A A' : World} {i : Nat} (hs : w.heap.size ≤ w1.heap.size) (h0 : b0 < w1.heap.size) (h1 : Bs < w1.heap.size)
    (h : AppI c B D E X vals cs S bl Bs b0 w w1 i A) (hk : Kept (fun k => k = w1.heap.size ∨ k = w1.heap.size + 1) A A') : AppI c B D E X vals cs S bl Bs b0 w w1 i A' :=
  ⟨h.bs.kept hk (fun b hb _ e => by omega), h.kept.trans hk (fun b hb hlt => by omega), (hk.block _ (lt_of_blk h.b0) (by omega)).trans h.b0, (hk.block _ (lt_of_blk h.bx) (by omega)).trans h.bx⟩

theorem append_BS (S : Nat → Prop) (bl : Nat) (c : Col) (hc : COK c) (B D E X : SL) (vals : List Value) (hr : checkC c = 0) (hDa : D.a = none ∨ ∃ g off, D.a = some ⟨g, off, none⟩) (N : Nat) (hn : c.n = (N : Int)) (cs : CS)
    (hroom : ∀ i, i < N → Room (CS.app c.k cs (valsC c i)) (valC c i)) (w : World) (h : BS w S bl c.k c.s cs) (hcol : ∀ w', Kept S w w' → RdC w' c B D E X vals) :
    Calls Tryz.prog 28 #[.pointer (some ⟨bl, 0, none⟩), colV c B D E X] w (StepP S bl c.k c.s (CS.app c.k cs (valsC c N)) (.int .i64 0) w) := by
  have HB0 := Aside.mk (h.mono (S' := fun b => S b ∧ b < w.heap.size) (fun b h1 h2 => ⟨h1, h2⟩))
  have hck := Aside.mk (fun (w2 : World) (hb : Below w.heap.size w w2) => check_any c hc B D E X vals w2 (hcol w2 (Kept.of_below hb)))
  have HE := Aside.mk (fun Bs => each1_any c hc B D E X vals hr hDa Bs N hn)
  have hea := Aside.mk (fun w2 => each_any c B D E X w2)
  rw [hr] at hck
  have HCOL := Aside.mk hcol
  have HRM := Aside.mk hroom
  have HN := Aside.mk hn
  have HLT := Aside.mk (show bl < w.heap.size by obtain ⟨lw, nv, dv, ev, T, h⟩ := h; exact lt_of_blk h.b.blk)
  have HBC := Aside.mk (fun (w2 : World) (hb : Below w.heap.size w w2) => show w2.cell? ⟨bl, 0, none⟩ = some (.int .i64 c.k) ∧ w2.cell? ⟨bl, 1, none⟩ = some (.int .i64 c.s) by
    obtain ⟨lw, nv, dv, ev, T, h⟩ := h.below hb
    constructor <;> (rw [cell_blk h.b.blk]; rfl))
  clear h hcol hroom hr hc hn hDa
  dsimp only [colV] at hck hea ⊢
  refine calls_of_marks Tryz.func28 rfl ?_; simp only [Tryz.ntmps28, List.size_toArray, List.length_cons, List.length_nil, Nat.reduceAdd, Nat.reduceSub, Array.replicate_succ, Array.replicate_zero, List.push_toArray, List.append_toArray, List.nil_append, List.cons_append]
  go_wp2_with fail
  obtain ⟨t1, t2, t3, t4⟩ := below_two w (.cells #[.pointer (some ⟨bl, 0, none⟩)] 25 (0, 0)) (.cells #[.int .i64 c.k, .int .i64 c.s, .int .i64 c.n, .int .i64 c.m, .slice B.a c.bits.length B.c, .slice D.a c.data.length D.c, .slice E.a c.ends.length E.c, .slice X.a c.words.length X.c] 63 (0, 0))
  have hg : ∀ W', ((w.alloc (.cells #[.pointer (some ⟨bl, 0, none⟩)] 25)).alloc (.cells #[.int .i64 c.k, .int .i64 c.s, .int .i64 c.n, .int .i64 c.m, .slice B.a c.bits.length B.c, .slice D.a c.data.length D.c, .slice E.a c.ends.length E.c, .slice X.a c.words.length X.c] 63)) = W' → Below w.heap.size w W' ∧ W'.heap.size = w.heap.size + 2 ∧ W'.heap[w.heap.size]? = some (.cells #[.pointer (some ⟨bl, 0, none⟩)] 25 (0, 0)) ∧ W'.heap[w.heap.size + 1]? = some (.cells #[.int .i64 c.k, .int .i64 c.s, .int .i64 c.n, .int .i64 c.m, .slice B.a c.bits.length B.c, .slice D.a c.data.length D.c, .slice E.a c.ends.length E.c, .slice X.a c.words.length X.c] 63 (0, 0)) := fun W' e => by rw [← e]; exact ⟨t1, t2, t3, t4⟩
  clear t1 t2 t3 t4
  generalize ((w.alloc (.cells #[.pointer (some ⟨bl, 0, none⟩)] 25)).alloc (.cells #[.int .i64 c.k, .int .i64 c.s, .int .i64 c.n, .int .i64 c.m, .slice B.a c.bits.length B.c, .slice D.a c.data.length D.c, .slice E.a c.ends.length E.c, .slice X.a c.words.length X.c] 63)) = w2 at *
  obtain ⟨t1, t2, t3, t4⟩ := hg w2 rfl
  have B2 := Aside.mk t1
  have HS2 := Aside.mk t2
  have H3 := Aside.mk t3
  have H4 := Aside.mk t4
  clear t1 t2 t3 t4 hg
  refine (hck.out _ B2.out).mono ?_
  rintro e w3 ⟨rfl, hb3⟩
  have B3 := Aside.mk (below_chain B2.out hb3)
  replace H3 := Aside.mk ((hb3.block _ (lt_of_blk H3.out)).trans H3.out)
  replace H4 := Aside.mk ((hb3.block _ (lt_of_blk H4.out)).trans H4.out)
  have HS3 := Aside.mk hb3.size
  clear hb3
  obtain ⟨c0, c1, c2, c3, c4, c5, c6, c7⟩ := box8 H4.out
  have d0 : w3.cell? ⟨w.heap.size, 0, none⟩ = some (.pointer (some ⟨bl, 0, none⟩)) := by rw [cell_blk H3.out]; rfl
  obtain ⟨e0, e1⟩ := HBC.out w3 B3.out
  go_wp2_with fail
  go_quiet (fail)
  clear c0 c1 c2 c3 c4 c5 c6 c7 d0 e0 e1
  generalize hq : w3.drewN _ = w4
  have B4 : Aside (Below w.heap.size w w4) := Aside.mk (by rw [← hq]; exact B3.out.trans (below_drewN _ _ _))
  have H3' : Aside (w4.heap[w.heap.size]? = some (.cells #[.pointer (some ⟨bl, 0, none⟩)] 25 (0, 0))) := Aside.mk (by rw [← hq]; exact H3.out)
  have H4' : Aside (w4.heap[w.heap.size + 1]? = some (.cells #[.int .i64 c.k, .int .i64 c.s, .int .i64 c.n, .int .i64 c.m, .slice B.a c.bits.length B.c, .slice D.a c.data.length D.c, .slice E.a c.ends.length E.c, .slice X.a c.words.length X.c] 63 (0, 0))) := Aside.mk (by rw [← hq]; exact H4.out)
  clear hq H3 H4 B3 HS3
  obtain ⟨c0, c1, c2, c3, c4, c5, c6, c7⟩ := box8 H4'.out
  go_wp2_with (go_at_call 83; refine (hea.out _).mono ?_; rintro e w5 ⟨rfl, hb5, hbx⟩; have B5 := Aside.mk (below_chain B4.out hb5); have H3 := Aside.mk ((hb5.block _ (lt_of_blk H3'.out)).trans H3'.out); have HBX := Aside.mk hbx; clear hb5 hbx)
  have HL0 := Aside.mk (show w.heap.size < w4.heap.size from lt_of_blk H3'.out)
  have HS45 := Aside.mk (lt_of_blk HBX.out)
  refine wp_seq (gf := 150) (lb := #[.pointer (some ⟨w4.heap.size, 0, none⟩)]) rfl (enters_of Tryz.func150 (by kernel_rfl) rfl) (HE.out w4.heap.size) (fun _ _ => rfl)
    (AppI c B D E X vals cs S bl w4.heap.size w.heap.size w w5) (fun _ _ => False)
    (fun k A h => ⟨HCOL.out A (h.kept.mono (fun b hb _ => hb.1)), h.bx⟩)
    (fun k A A' hk h => h.moved B5.out.size (by have := HL0.out; have := HS45.out; omega) HS45.out hk) (fun _ _ _ _ h => h)
    (fun W hb hs => ⟨(HB0.out.below (below_chain B5.out hb)).mono (fun b h _ => .inl h), Kept.of_below (below_chain B5.out hb), (hb.block _ (lt_of_blk H3.out)).trans H3.out, (hb.block _ (lt_of_blk HBX.out)).trans HBX.out⟩) ?round ?done ?stop
  case stop => exact fun _ _ h _ => h.elim
  case round =>
    rintro l i v W hi hI ⟨ta, tc, rfl, hrd⟩ hlt hmk
    have HMK := Aside.mk hmk
    clear hmk
    dsimp only [valV]
    have HI := Aside.mk hI
    have HRD := Aside.mk hrd
    clear hI hrd
    have HLT5 := Aside.mk hlt
    clear hlt
    gi_wp2
    refine ⟨fun k hk => Below.heap_alloc W _ k (by have := HLT5.out; omega), fun W₂ hk hsz => ?_⟩
    have hWsz := HLT5.out
    have hsz2 : W₂.heap.size = W.heap.size + 1 := by rw [hsz]; simp
    have hkW : Kept (fun k => k = w5.heap.size ∨ k = w5.heap.size + 1) W W₂ := (Kept.of_below ((Below.refl _ W).alloc (Nat.le_refl _) _)).trans hk (fun _ h _ => h)
    have HI2 := Aside.mk (HI.out.moved B5.out.size (by have := HL0.out; have := HS45.out; omega) HS45.out hkW)
    have hvb := (hk.block W.heap.size (by simp) (by omega)).trans (heap_alloc_new W (.cells #[.int .u64 ((valC c i).bits : Int), .slice ta (valC c i).text.length tc, .bool (valC c i).null] 145))
    obtain ⟨q0, q1, q2⟩ := box3 hvb
    have d0 : W₂.cell? ⟨w.heap.size, 0, none⟩ = some (.pointer (some ⟨bl, 0, none⟩)) := by rw [cell_blk HI2.out.b0]; rfl
    have hrd2 := HRD.out.marks HMK.out hkW
    have HADD := Aside.mk (add_BS _ bl c.k c.s _ (valC c i) ta tc (HRM.out i hi) W₂ HI2.out.bs hrd2)
    have HS2' := Aside.mk hsz2
    clear hvb hrd2 hsz hsz2 hkW hWsz
    generalize hvc : valC c i = vc at *
    have HVC := Aside.mk hvc
    clear hvc
    gi_wp2_with (refine ⟨trivial, ?_⟩; gi_at_call 72; refine (CallsIn.inRound l (callsIn_wide.2 HADD.out)).mono ?_; rintro e w6 ⟨rfl, hb6, hk6⟩; have HB6 := Aside.mk hb6; have HK6 := Aside.mk hk6; clear hb6 hk6)
    refine ⟨fun k hk => HK6.out.block k (by have := HLT5.out; have := HS2'.out; omega) (fun e => by have := B5.out.size; omega), ?_, ?_, ?_, ?_⟩
    · rw [app_next, HVC.out]
      exact HB6.out.mono (fun b hb _ => hb.elim id (fun h => .inr (by have := HLT5.out; have := HS2'.out; omega)))
    · exact HI2.out.kept.trans HK6.out (fun b hb hlt => hb.elim id (fun h => by have := B5.out.size; omega))
    · exact (HK6.out.block _ (lt_of_blk HI2.out.b0) (by have := HL0.out; have := HS45.out; omega)).trans HI2.out.b0
    · exact (HK6.out.block _ (lt_of_blk HI2.out.bx) (by have := HL0.out; have := HS45.out; omega)).trans HI2.out.bx
  case done =>
    rintro W hI hK
    have HI := Aside.mk hI
    have HK := Aside.mk hK
    clear hI hK
    go_wp2
    refine left_marks HK.out (v := .int .i64 0) ?_ ⟨rfl, ?_, ?_⟩
    · simp [results, Tryz.results28, go_sem]
    · exact (HI.out.bs.kept (kept_putObj (.inl rfl)) (fun b hb _ e => by have := B5.out.size; omega)).mono (fun b hb _ => hb.elim (fun h => .inl h.1) (fun h => .inr (by have := B5.out.size; omega)))
    · exact (HI.out.kept.mono (fun b hb _ => hb.1)).trans (kept_putObj (.inl rfl)) (fun b hb hlt => by have := B5.out.size; omega)
end Go.Proofs.YtmhjjhaipcgbiaaGreat


/- Rows of values in memory; what a column of values is at most. -/
namespace Go.Proofs.YtmhjjhaipcgbiaaGreat
open Go.RowKit
set_option linter.unusedVariables false
set_option linter.unusedSimpArgs false
set_option maxRecDepth 100000
set_option maxHeartbeats 2000000

/-- A row of values that is read. -/
def RdVs (w : World) (A : SL) (l : List V) : Prop :=
  ∃ xs, Rd w 3 (.slice A.a l.length A.c) l.length xs ∧ ∀ (i : Nat) v, l[i]? = some v → ∃ ta tc, xs[i * 3]? = some (.bool v.null) ∧ xs[i * 3 + 1]? = some (.int .u64 (v.bits : Int)) ∧ xs[i * 3 + 2]? = some (.slice ta v.text.length tc) ∧ Rd w 1 (.slice ta v.text.length tc) v.text.length (v.text.map (.int .u8))
theorem RdVs.below {w w' : World} {A : SL} {l : List V} (h : RdVs w A l) (hb : Below w.heap.size w w') : RdVs w' A l := by
  obtain ⟨xs, h1, h2⟩ := h
  exact ⟨xs, h1.below hb, fun i v hi => by obtain ⟨ta, tc, a, b, c, d⟩ := h2 i v hi; exact ⟨ta, tc, a, b, c, d.below hb⟩⟩
theorem RdVs.at {w : World} {A : SL} {l : List V} (h : RdVs w A l) {i : Nat} (hi : i < l.length) : ∃ b off cap ta tc, A.a = some ⟨b, off, none⟩ ∧ A.c = cap ∧ l.length ≤ cap ∧ cap ≤ 9223372036854775807 ∧ w.cell? ⟨b, off + i * 3, none⟩ = some (.bool l[i].null) ∧ w.cell? ⟨b, off + i * 3 + 1, none⟩ = some (.int .u64 (l[i].bits : Int)) ∧ w.cell? ⟨b, off + i * 3 + 2, none⟩ = some (.slice ta l[i].text.length tc) ∧ Rd w 1 (.slice ta l[i].text.length tc) l[i].text.length (l[i].text.map (.int .u8)) := by
  obtain ⟨xs, h1, h2⟩ := h
  obtain ⟨ta, tc, a, b, c, d⟩ := h2 i _ (List.getElem?_eq_getElem hi)
  obtain ⟨g, off, cap, e, q1, q2, hc⟩ := h1.some_ (by rw [h1.len]; omega)
  simp only [Value.slice.injEq, true_and] at e
  obtain ⟨e1, e2⟩ := e
  exact ⟨g, off, cap, ta, tc, e1, e2, q1, q2, hc _ _ a, by rw [Nat.add_assoc]; exact hc _ _ b, by rw [Nat.add_assoc]; exact hc _ _ c, d⟩

/-- Few values, small texts. -/
def Few (l : List V) : Prop := l.length ≤ 20000 ∧ ∀ v ∈ l, v.text.length ≤ 4900

theorem of_sizes (k : Int) (l : List V) (hl : ∀ v ∈ l, v.text.length ≤ 4900) : (CS.of k l).data.length ≤ l.length * 4900 ∧ (CS.of k l).nulls.length = l.length ∧ (CS.of k l).ends.length ≤ l.length ∧ (CS.of k l).words.length ≤ l.length := by
  induction l using snoc_ind with
  | h0 => exact ⟨Nat.le_refl _, rfl, Nat.le_refl _, Nat.le_refl _⟩
  | h1 l v ih =>
    obtain ⟨h1, h2, h3, h4⟩ := ih (fun v hv => hl v (List.mem_append_left _ hv))
    have hv := hl v (by simp)
    have hw8 : (widthOf k).toNat ≤ 8 := by
      unfold widthOf
      split
      · decide
      split
      · decide
      split
      · decide
      split <;> decide
    rw [CS.of_snoc]
    unfold CS.add
    split
    · refine ⟨?_, ?_, ?_, ?_⟩ <;> simp <;> omega
    split
    · refine ⟨?_, ?_, ?_, ?_⟩
      · simp [lows_len]; omega
      · simp; omega
      · simp; omega
      · dsimp only
        split
        · simp; omega
        · have := addWord_len (CS.of k l).words v.text; simp; omega
    · refine ⟨?_, ?_, ?_, ?_⟩
      · simp [lows_len]; omega
      · simp; omega
      · simp; omega
      · simp; omega
theorem of_words (k : Int) (l : List V) (hl : ∀ v ∈ l, v.text.length ≤ 4900) : ∀ t ∈ (CS.of k l).words, t.length ≤ 4900 := by
  induction l using snoc_ind with
  | h0 => intro t ht; cases ht
  | h1 l v ih =>
    have ih := ih (fun v hv => hl v (List.mem_append_left _ hv))
    have hv := hl v (by simp)
    rw [CS.of_snoc]
    unfold CS.add
    split
    · exact ih
    split
    · dsimp only
      split
      · exact ih
      · unfold addWord
        split
        · exact ih
        · intro t ht
          rcases List.mem_append.1 ht with h | h
          · exact ih t h
          · simp at h; subst h; exact hv
    · exact ih
theorem of_room {k s : Int} {l : List V} (hf : Few l) (hl : ∀ v ∈ l, vOK k s v) {i : Nat} (hi : i < l.length) : Room (CS.of k (l.take i)) l[i] := by
  have hm := List.getElem_mem hi
  obtain ⟨h1, h2, h3, h4⟩ := of_sizes k (l.take i) (fun v hv => hf.2 v (List.mem_of_mem_take hv))
  have h5 := hf.2 _ hm
  have h6 := hf.1
  rw [List.length_take] at h1 h2 h3 h4
  exact ⟨by omega, by omega, by omega, by omega, (hl _ hm).1, (hl _ hm).2.1⟩
theorem of_next (k : Int) (l : List V) {i : Nat} (hi : i < l.length) : CS.of k (l.take (i + 1)) = (CS.of k (l.take i)).add k l[i] := by
  rw [List.take_succ_eq_append_getElem hi, CS.of_snoc]

theorem kept8 (w : World) (b : Nat) (x0 x1 x2 x3 x4 x5 x6 x7 : Value) : Kept (fun k => k = b) w ((((((((w.setCell ⟨b, 0, none⟩ x0).setCell ⟨b, 1, none⟩ x1).setCell ⟨b, 2, none⟩ x2).setCell ⟨b, 3, none⟩ x3).setCell ⟨b, 4, none⟩ x4).setCell ⟨b, 5, none⟩ x5).setCell ⟨b, 6, none⟩ x6).setCell ⟨b, 7, none⟩ x7) := by
  repeat (refine Kept.trans ?_ (Kept.setCell _ _ _) (fun _ e _ => e))
  exact Kept.refl _ _
theorem OwnC.kept {w w' : World} {base : Nat} {c : Col} {B D E W : SL} {vals : List Value} {S : Nat → Prop} (h : OwnC w base c B D E W vals) (hk : Kept S w w') (hS : ∀ b, base ≤ b → ¬ S b) : OwnC w' base c B D E W vals :=
  ⟨h.bits.kept hk (fun b e => hS b (h.bits.lt b e).1), h.data.kept hk (fun b e => hS b (h.data.lt b e).1), h.ends.kept hk (fun b e => hS b (h.ends.lt b e).1), h.words.kept hk (fun b e => hS b (h.words.lt b e).1), h.len, fun i t hi ht => by
    obtain ⟨a, cap, q1, q2⟩ := h.each i t hi ht
    exact ⟨a, cap, q1, q2.kept hk (fun b e => hS b (q2.lt b e).1)⟩, h.sep⟩
theorem OwnC.keptL {w w' : World} {base : Nat} {c : Col} {B D E W : SL} {vals : List Value} {S : Nat → Prop} (h : OwnC w base c B D E W vals) (hk : Kept S w w') (hS : ∀ b, base ≤ b → b < w.heap.size → ¬ S b) : OwnC w' base c B D E W vals :=
  ⟨h.bits.kept hk (fun b e => hS b (h.bits.lt b e).1 (h.bits.lt b e).2), h.data.kept hk (fun b e => hS b (h.data.lt b e).1 (h.data.lt b e).2), h.ends.kept hk (fun b e => hS b (h.ends.lt b e).1 (h.ends.lt b e).2), h.words.kept hk (fun b e => hS b (h.words.lt b e).1 (h.words.lt b e).2), h.len, fun i t hi ht => by
    obtain ⟨a, cap, q1, q2⟩ := h.each i t hi ht
    exact ⟨a, cap, q1, q2.kept hk (fun b e => hS b (q2.lt b e).1 (q2.lt b e).2)⟩, h.sep⟩
theorem OwnC.mono {w : World} {base base' : Nat} {c : Col} {B D E W : SL} {vals : List Value} (h : OwnC w base c B D E W vals) (hb : base' ≤ base) : OwnC w base' c B D E W vals :=
  ⟨h.bits.mono hb, h.data.mono hb, h.ends.mono hb, h.words.mono hb, h.len, WOwn.mono h.each hb, h.sep⟩
theorem OwnC.below {w w' : World} {base : Nat} {c : Col} {B D E W : SL} {vals : List Value} (h : OwnC w base c B D E W vals) (hb : Below w.heap.size w w') : OwnC w' base c B D E W vals :=
  h.kept (Kept.of_below (S := fun _ => False) hb) (fun _ _ e => e)

end Go.Proofs.YtmhjjhaipcgbiaaGreat


/- column.Join of two columns that may be, of one type. (Printed by genjoin.py.) -/
namespace Go.Proofs.YtmhjjhaipcgbiaaGreat
open Go.RowKit Go.Shelf
set_option linter.unusedVariables false
set_option linter.unusedSimpArgs false
set_option maxRecDepth 100000
set_option maxHeartbeats 4000000

/-- A column in new memory, and no error. -/
def ColEP (c : Col) (w : World) (e : Ending) (w' : World) : Prop := ∃ B D E W vals, e = .returned (.tuple #[colV c B D E W, .int .i64 0]) ∧ OwnC w' w.heap.size c B D E W vals ∧ Below w.heap.size w w'
/-- Small enough to be told. -/
def Small (c : CS) : Prop := c.nulls.length ≤ 100000000 ∧ c.data.length ≤ 100000000 ∧ c.ends.length ≤ 100000000 ∧ c.words.length ≤ 100000000 ∧ ∀ t ∈ c.words, t.length ≤ 100000000
theorem below_three (w : World) (o1 o2 o3 : Obj) : Below w.heap.size w (((w.alloc o1).alloc o2).alloc o3) ∧ (((w.alloc o1).alloc o2).alloc o3).heap.size = w.heap.size + 3 ∧
    (((w.alloc o1).alloc o2).alloc o3).heap[w.heap.size]? = some o1 ∧ (((w.alloc o1).alloc o2).alloc o3).heap[w.heap.size + 1]? = some o2 ∧ (((w.alloc o1).alloc o2).alloc o3).heap[w.heap.size + 2]? = some o3 := by
  obtain ⟨h1, h2, h3, h4⟩ := below_two w o1 o2
  refine ⟨h1.alloc (by omega) _, by rw [World.size_alloc, h2], ?_, ?_, ?_⟩
  · exact (Below.heap_alloc _ _ _ (by omega)).trans h3
  · exact (Below.heap_alloc _ _ _ (by omega)).trans h4
  · have := World.alloc_heap_new ((w.alloc o1).alloc o2) o3
    rwa [h2] at this
theorem RdC.keptN {w wN w' : World} {c : Col} {B D E X : SL} {vals : List Value} {S : Nat → Prop} (h : RdC w c B D E X vals) (hb : Below w.heap.size w wN) (hS : ∀ b, S b → w.heap.size ≤ b) (hk : Kept S wN w') : RdC w' c B D E X vals :=
  h.below (hb.trans (hk.to_below hb.size hS))

theorem idx_pair {x0 x1 x2 x3 x4 x5 x6 x7 y0 y1 y2 y3 y4 y5 y6 y7 : Value} (w : World) :
    (Instr.index 209 (.agg #[x0, x1, x2, x3, x4, x5, x6, x7, y0, y1, y2, y3, y4, y5, y6, y7]) (.int .i64 0)).run Tryz.prog w = .ok (.agg #[x0, x1, x2, x3, x4, x5, x6, x7]) w ∧
    (Instr.index 209 (.agg #[x0, x1, x2, x3, x4, x5, x6, x7, y0, y1, y2, y3, y4, y5, y6, y7]) (.int .i64 1)).run Tryz.prog w = .ok (.agg #[y0, y1, y2, y3, y4, y5, y6, y7]) w := by
  constructor <;> kernel_rfl

theorem join_yes (a b : Col) (ha : COK a) (hb : COK b) (B D E X B2 D2 E2 X2 : SL) (va vb : List Value) (hra : checkC a = 0) (hrb : checkC b = 0) (hk : a.k = b.k) (hs : a.s = b.s)
    (hDa : D.a = none ∨ ∃ g off, D.a = some ⟨g, off, none⟩) (hDb : D2.a = none ∨ ∃ g off, D2.a = some ⟨g, off, none⟩) (Na Nb : Nat) (hna : a.n = (Na : Int)) (hnb : b.n = (Nb : Int))
    (hr1 : ∀ i, i < Na → Room (CS.app a.k CS.zero (valsC a i)) (valC a i)) (hr2 : ∀ i, i < Nb → Room (CS.app a.k (CS.app a.k CS.zero (valsC a Na)) (valsC b i)) (valC b i)) (hsm : Small (CS.app a.k (CS.app a.k CS.zero (valsC a Na)) (valsC b Nb)))
    (w : World) (h : RdC w a B D E X va) (h2 : RdC w b B2 D2 E2 X2 vb) :
    Calls Tryz.prog 68 #[colV a B D E X, colV b B2 D2 E2 X2] w (ColEP ((CS.app a.k (CS.app a.k CS.zero (valsC a Na)) (valsC b Nb)).col a.k a.s) w) := by
  have hVB : colV b B2 D2 E2 X2 = .agg #[.int .i64 a.k, .int .i64 a.s, .int .i64 b.n, .int .i64 b.m, .slice B2.a b.bits.length B2.c, .slice D2.a b.data.length D2.c, .slice E2.a b.ends.length E2.c, .slice X2.a b.words.length X2.c] := by unfold colV; rw [hk, hs]
  have hca := Aside.mk (fun (w2 : World) (hb : Below w.heap.size w w2) => check_any a ha B D E X va w2 (h.below hb))
  have hcb := Aside.mk (fun (w2 : World) (hw : Below w.heap.size w w2) => check_any b hb B2 D2 E2 X2 vb w2 (h2.below hw))
  have HO := Aside.mk (check_zero hra).1
  have hapA := Aside.mk (fun (wN : World) (bl n0 : Nat) (hn0 : w.heap.size ≤ n0) (hw : Below w.heap.size w wN) (hB : BS wN (fun b => n0 ≤ b) bl a.k a.s CS.zero) => append_BS (fun b => n0 ≤ b) bl a ha B D E X va hra hDa Na hna CS.zero hr1 wN hB (fun w' hk => h.keptN hw (fun b hb => Nat.le_trans hn0 hb) hk))
  have hapB := Aside.mk (fun (wN : World) (bl n0 : Nat) (hn0 : w.heap.size ≤ n0) (hw : Below w.heap.size w wN) (hB : BS wN (fun b => n0 ≤ b) bl b.k b.s (CS.app a.k CS.zero (valsC a Na))) => append_BS (fun b => n0 ≤ b) bl b hb B2 D2 E2 X2 vb hrb hDb Nb hnb (CS.app a.k CS.zero (valsC a Na)) (hk ▸ hr2) wN hB (fun w' hk => h2.keptN hw (fun b hb => Nat.le_trans hn0 hb) hk))
  rw [hra] at hca
  rw [hrb] at hcb
  rw [hVB] at hcb hapB ⊢
  rw [← hk, ← hs] at hapB
  generalize CS.app a.k CS.zero (valsC a Na) = J1 at *
  generalize CS.app a.k J1 (valsC b Nb) = J2 at *
  have HSM := Aside.mk hsm
  clear h h2 hra hrb ha hb hDa hDb hna hnb hr1 hr2 hsm hVB hk hs
  dsimp only [colV] at hca hapA ⊢
  go_enter Tryz.func68, Tryz.ntmps68
  go_wp2_with fail
  have hg : ∀ W', ((((w.alloc (.cells #[.int .i64 a.k, .int .i64 a.s, .int .i64 a.n, .int .i64 a.m, .slice B.a a.bits.length B.c, .slice D.a a.data.length D.c, .slice E.a a.ends.length E.c, .slice X.a a.words.length X.c] 63)).alloc (.cells #[.int .i64 a.k, .int .i64 a.s, .int .i64 b.n, .int .i64 b.m, .slice B2.a b.bits.length B2.c, .slice D2.a b.data.length D2.c, .slice E2.a b.ends.length E2.c, .slice X2.a b.words.length X2.c] 63)).alloc (.cells #[.int .i64 0, .int .i64 0, .int .i64 0, .int .i64 0, .slice none 0 0, .slice none 0 0, .slice none 0 0, .slice none 0 0] 63)) = W' → Below w.heap.size w W' ∧ W'.heap.size = w.heap.size + 3 ∧ W'.heap[w.heap.size]? = some (.cells #[.int .i64 a.k, .int .i64 a.s, .int .i64 a.n, .int .i64 a.m, .slice B.a a.bits.length B.c, .slice D.a a.data.length D.c, .slice E.a a.ends.length E.c, .slice X.a a.words.length X.c] 63 (0, 0)) ∧ W'.heap[w.heap.size + 1]? = some (.cells #[.int .i64 a.k, .int .i64 a.s, .int .i64 b.n, .int .i64 b.m, .slice B2.a b.bits.length B2.c, .slice D2.a b.data.length D2.c, .slice E2.a b.ends.length E2.c, .slice X2.a b.words.length X2.c] 63 (0, 0)) ∧ W'.heap[w.heap.size + 1 + 1]? = some (.cells #[.int .i64 0, .int .i64 0, .int .i64 0, .int .i64 0, .slice none 0 0, .slice none 0 0, .slice none 0 0, .slice none 0 0] 63 (0, 0))) := fun W' e => by rw [← e]; exact below_three w _ _ _
  generalize (((w.alloc (.cells #[.int .i64 a.k, .int .i64 a.s, .int .i64 a.n, .int .i64 a.m, .slice B.a a.bits.length B.c, .slice D.a a.data.length D.c, .slice E.a a.ends.length E.c, .slice X.a a.words.length X.c] 63)).alloc (.cells #[.int .i64 a.k, .int .i64 a.s, .int .i64 b.n, .int .i64 b.m, .slice B2.a b.bits.length B2.c, .slice D2.a b.data.length D2.c, .slice E2.a b.ends.length E2.c, .slice X2.a b.words.length X2.c] 63)).alloc (.cells #[.int .i64 0, .int .i64 0, .int .i64 0, .int .i64 0, .slice none 0 0, .slice none 0 0, .slice none 0 0, .slice none 0 0] 63)) = w3 at *
  obtain ⟨t1, t2, t3, t4, t5⟩ := hg w3 rfl
  have B3 := Aside.mk t1
  have HS3 := Aside.mk t2
  have HA := Aside.mk t3
  have HB := Aside.mk t4
  have HZ := Aside.mk t5
  clear t1 t2 t3 t4 t5 hg
  go_loopw [14] (fun iv wr => ∃ i : Nat, i ≤ 2 ∧ iv = .int .i64 (i : Int) ∧ Aside (Below w3.heap.size w3 wr)) (fun iv _ => 2 - (intOf iv).toNat)
  case atStart => exact ⟨0, by omega, rfl, ⟨Below.refl _ _⟩⟩
  case round =>
    obtain ⟨i, hi, rfl, hp⟩ := hrel
    have hix0 := fun w => (@idx_pair (.int .i64 a.k) (.int .i64 a.s) (.int .i64 a.n) (.int .i64 a.m) (.slice B.a a.bits.length B.c) (.slice D.a a.data.length D.c) (.slice E.a a.ends.length E.c) (.slice X.a a.words.length X.c) (.int .i64 a.k) (.int .i64 a.s) (.int .i64 b.n) (.int .i64 b.m) (.slice B2.a b.bits.length B2.c) (.slice D2.a b.data.length D2.c) (.slice E2.a b.ends.length E2.c) (.slice X2.a b.words.length X2.c) w).1
    have hix1 := fun w => (@idx_pair (.int .i64 a.k) (.int .i64 a.s) (.int .i64 a.n) (.int .i64 a.m) (.slice B.a a.bits.length B.c) (.slice D.a a.data.length D.c) (.slice E.a a.ends.length E.c) (.slice X.a a.words.length X.c) (.int .i64 a.k) (.int .i64 a.s) (.int .i64 b.n) (.int .i64 b.m) (.slice B2.a b.bits.length B2.c) (.slice D2.a b.data.length D2.c) (.slice E2.a b.ends.length E2.c) (.slice X2.a b.words.length X2.c) w).2
    obtain rfl | rfl | rfl : i = 0 ∨ i = 1 ∨ i = 2 := by omega
    · go_wp2_with (go_at_call 82; refine (hca.out _ (below_chain B3.out (hp.out.alloc hp.out.size _))).mono ?_; rintro e w5 ⟨rfl, hb5⟩; have H5 := Aside.mk (below_chain (hp.out.alloc hp.out.size _) hb5); clear hb5)
      exact ⟨⟨1, by omega, by simp, H5⟩, by simp [intOf]⟩
    · go_wp2_with (go_at_call 82; refine (hcb.out _ (below_chain B3.out (hp.out.alloc hp.out.size _))).mono ?_; rintro e w5 ⟨rfl, hb5⟩; have H5 := Aside.mk (below_chain (hp.out.alloc hp.out.size _) hb5); clear hb5)
      exact ⟨⟨2, by omega, by simp, H5⟩, by simp [intOf]⟩
    · clear hix0 hix1
      have hWR := Aside.mk (below_chain B3.out hp.out)
      replace HA := Aside.mk ((hp.out.block _ (lt_of_blk HA.out)).trans HA.out)
      replace HB := Aside.mk ((hp.out.block _ (lt_of_blk HB.out)).trans HB.out)
      replace HZ := Aside.mk ((hp.out.block _ (lt_of_blk HZ.out)).trans HZ.out)
      have HSR := Aside.mk (Nat.le_trans (Nat.le_of_eq HS3.out.symm) hp.out.size)
      clear hp
      obtain ⟨c0, c1, c2, c3, c4, c5, c6, c7⟩ := box8 HA.out
      obtain ⟨d0, d1, d2, d3, d4, d5, d6, d7⟩ := box8 HB.out
      go_wp2_with fail
      refine (new_BS a.k a.s wr HO.out).mono ?_
      rintro e wN ⟨bl, rfl, hbs, hbN⟩
      have HN := Aside.mk hbN
      replace HA := Aside.mk ((hbN.block _ (lt_of_blk HA.out)).trans HA.out)
      replace HB := Aside.mk ((hbN.block _ (lt_of_blk HB.out)).trans HB.out)
      replace HZ := Aside.mk ((hbN.block _ (lt_of_blk HZ.out)).trans HZ.out)
      have HC1 := Aside.mk (hapA.out wN bl wr.heap.size hWR.out.size (below_chain hWR.out hbN) hbs)
      clear hbs hbN c0 c1 c2 c3 c4 c5 c6 c7 d0 d1 d2 d3 d4 d5 d6 d7
      obtain ⟨c0, c1, c2, c3, c4, c5, c6, c7⟩ := box8 HA.out
      go_wp2_with fail
      refine HC1.out.mono ?_
      rintro e w6 ⟨rfl, hbs6, hk6⟩
      replace HB := Aside.mk ((hk6.block _ (lt_of_blk HB.out) (by have := HSR.out; omega)).trans HB.out)
      replace HZ := Aside.mk ((hk6.block _ (lt_of_blk HZ.out) (by have := HSR.out; omega)).trans HZ.out)
      have HN6 := Aside.mk (HN.out.trans (hk6.to_below HN.out.size (fun _ h => h)))
      have HC2 := Aside.mk (hapB.out w6 bl wr.heap.size hWR.out.size (below_chain hWR.out HN6.out) (hbs6.mono (fun b hb _ => by have := HN.out.size; omega)))
      clear hbs6 hk6 c0 c1 c2 c3 c4 c5 c6 c7
      obtain ⟨d0, d1, d2, d3, d4, d5, d6, d7⟩ := box8 HB.out
      go_wp2_with fail
      refine HC2.out.mono ?_
      rintro e w7 ⟨rfl, hbs7, hk7⟩
      replace HZ := Aside.mk ((hk7.block _ (lt_of_blk HZ.out) (by have := HSR.out; omega)).trans HZ.out)
      have HN7 := Aside.mk (HN6.out.trans (hk7.to_below HN6.out.size (fun _ h => h)))
      have HCOL := Aside.mk (column_BS _ bl a.k a.s J2 HSM.out.1 HSM.out.2.1 HSM.out.2.2.1 HSM.out.2.2.2.1 HSM.out.2.2.2.2 w7 hbs7)
      clear hbs7 hk7 d0 d1 d2 d3 d4 d5 d6 d7
      go_wp2_with (go_at_call 34; refine HCOL.out.mono ?_; rintro e w4 ⟨B', D', E', X', vals, rfl, hoc, hb4⟩; have HOC := Aside.mk hoc; have HB4 := Aside.mk hb4; have hr4 := (hb4.block _ (lt_of_blk HZ.out)).trans HZ.out; obtain ⟨r0, r1, r2, r3, r4, r5, r6, r7⟩ := box8 hr4; have f0 := frozen_blk (k := 0) hr4; have f1 := frozen_blk (k := 1) hr4; have f2 := frozen_blk (k := 2) hr4; have f3 := frozen_blk (k := 3) hr4; have f4 := frozen_blk (k := 4) hr4; have f5 := frozen_blk (k := 5) hr4; have f6 := frozen_blk (k := 6) hr4; have f7 := frozen_blk (k := 7) hr4; have HR4 := Aside.mk hr4; clear hoc hb4 hr4; dsimp only [colV, CS.col])
      refine bodyPost_ret (v := .tuple #[.agg #[.int .i64 a.k, .int .i64 a.s, .int .i64 (J2.nulls.length : Int), .int .i64 (J2.nulls.length : Int), .slice B'.a (mof J2.nulls).length B'.c, .slice D'.a J2.data.length D'.c, .slice E'.a J2.ends.length E'.c, .slice X'.a J2.words.length X'.c], .int .i64 0]) (by simp [results, Tryz.results68, go_sem, r0, r1, r2, r3, r4, r5, r6, r7]) rfl ?_
      have hsz := HSR.out
      have K8 : Kept (fun b => b = w.heap.size + 1 + 1) w4 _ := kept8 w4 (w.heap.size + 1 + 1) (.int .i64 a.k) (.int .i64 a.s) (.int .i64 (J2.nulls.length : Int)) (.int .i64 (J2.nulls.length : Int)) (.slice B'.a (mof J2.nulls).length B'.c) (.slice D'.a J2.data.length D'.c) (.slice E'.a J2.ends.length E'.c) (.slice X'.a J2.words.length X'.c)
      have h7 := HN7.out.size
      refine ⟨B', D', E', X', vals, rfl, (HOC.out.kept K8 (fun b h => by omega)).mono (by omega), ?_⟩
      have BF := (below_chain hWR.out HN7.out).trans (HB4.out.mono (by omega))
      exact BF.trans (K8.to_below BF.size (fun b e => by omega))
end Go.Proofs.YtmhjjhaipcgbiaaGreat


/- column.Cut of a column that may be, within it. (Printed by gencut.py.) -/
namespace Go.Proofs.YtmhjjhaipcgbiaaGreat
open Go.RowKit Go.Shelf
set_option linter.unusedVariables false
set_option linter.unusedSimpArgs false
set_option maxRecDepth 100000
set_option maxHeartbeats 4000000
attribute [local go_sem] Oper.semAt_some

def pieceC (c : Col) (f i : Nat) : List V := (valsC c i).drop f
theorem valsC_len (c : Col) (n : Nat) : (valsC c n).length = n := by simp [valsC]
theorem piece_add (c : Col) (cs : CS) (f i : Nat) (h : f ≤ i) : CS.app c.k cs (pieceC c f (i + 1)) = (CS.app c.k cs (pieceC c f i)).add c.k (valC c i) := by
  unfold pieceC
  rw [valsC_snoc, List.drop_append_of_le_length (by rw [valsC_len]; exact h), CS.app_snoc]
theorem piece_none (c : Col) (f i : Nat) (h : i < f) : pieceC c f (i + 1) = pieceC c f i := by
  unfold pieceC
  rw [List.drop_eq_nil_of_le (by rw [valsC_len]; omega), List.drop_eq_nil_of_le (by rw [valsC_len]; omega)]

/-- What the loop holds. -/
structure CutI (c : Col) (B D E X : SL) (f t : Nat) (bl Bs b0 n0 : Nat) (w w1 : World) (i : Nat) (W : World) : Prop where
  le : i ≤ t
  bs : BS W (fun b => n0 ≤ b ∧ b < b0 ∨ w1.heap.size + 2 ≤ b) bl c.k c.s (CS.app c.k CS.zero (pieceC c f i))
  bel : Below w.heap.size w W
  bf : W.heap[w.heap.size + 1]? = some (.cells #[.int .i64 (f : Int)] 3 (0, 0))
  bt : W.heap[w.heap.size + 1 + 1]? = some (.cells #[.int .i64 (t : Int)] 3 (0, 0))
  bz : W.heap[w.heap.size + 1 + 1 + 1]? = some (.cells #[.int .i64 0, .int .i64 0, .int .i64 0, .int .i64 0, .slice none 0 0, .slice none 0 0, .slice none 0 0, .slice none 0 0] 63 (0, 0))
  b0 : W.heap[b0]? = some (.cells #[.pointer (some ⟨bl, 0, none⟩)] 25 (0, 0))
  bx : W.heap[Bs]? = some (.cells #[.int .i64 c.k, .int .i64 c.s, .int .i64 c.n, .int .i64 c.m, .slice B.a c.bits.length B.c, .slice D.a c.data.length D.c, .slice E.a c.ends.length E.c, .slice X.a c.words.length X.c] 63 (0, 0))

/-- How the blocks lie. -/
structure CutL (n0 b0 Bs : Nat) (w w1 : World) : Prop where
  h0 : w.heap.size + 4 ≤ n0
  h1 : n0 ≤ b0
  h2 : b0 < Bs
  h3 : Bs < w1.heap.size
theorem CutI.moved {c : Col} {B D E X : SL} {f t bl Bs b0 n0 : Nat} {w w1 A A' : World} {i : Nat} (hl : CutL n0 b0 Bs w w1) (h : CutI c B D E X f t bl Bs b0 n0 w w1 i A) (hk : Kept (fun k => k = w1.heap.size ∨ k = w1.heap.size + 1) A A') : CutI c B D E X f t bl Bs b0 n0 w w1 i A' := by
  obtain ⟨l0, l1, l2, l3⟩ := hl
  exact ⟨h.le, h.bs.kept hk (fun b hb _ e => by omega), h.bel.trans (hk.to_below h.bel.size (fun b e => by omega)), (hk.block _ (lt_of_blk h.bf) (by omega)).trans h.bf, (hk.block _ (lt_of_blk h.bt) (by omega)).trans h.bt, (hk.block _ (lt_of_blk h.bz) (by omega)).trans h.bz,
    (hk.block _ (lt_of_blk h.b0) (by omega)).trans h.b0, (hk.block _ (lt_of_blk h.bx) (by omega)).trans h.bx⟩

theorem set8 {w : World} {b : Nat} {x0 x1 x2 x3 x4 x5 x6 x7 : Value} {T : TypeId} (h : w.heap[b]? = some (.cells #[x0, x1, x2, x3, x4, x5, x6, x7] T (0, 0))) (y0 y1 y2 y3 y4 y5 y6 y7 : Value) :
    ((((((((w.setCell ⟨b, 0, none⟩ y0).setCell ⟨b, 1, none⟩ y1).setCell ⟨b, 2, none⟩ y2).setCell ⟨b, 3, none⟩ y3).setCell ⟨b, 4, none⟩ y4).setCell ⟨b, 5, none⟩ y5).setCell ⟨b, 6, none⟩ y6).setCell ⟨b, 7, none⟩ y7).heap[b]? = some (.cells #[y0, y1, y2, y3, y4, y5, y6, y7] T (0, 0)) := by
  have h := heap_setCell_at (k := 7) (heap_setCell_at (k := 6) (heap_setCell_at (k := 5) (heap_setCell_at (k := 4) (heap_setCell_at (k := 3) (heap_setCell_at (k := 2) (heap_setCell_at (k := 1) (heap_setCell_at (k := 0) h y0) y1) y2) y3) y4) y5) y6) y7
  simpa using h

theorem kept_put1 {W : World} {l : Nat} {o : Obj} : Kept (fun k => k = l) W (W.putObj l o) := ⟨rfl, rfl, rfl, by simp, fun k _ hn => World.putObj_heap_other hn⟩

theorem below_four (w : World) (o1 o2 o3 o4 : Obj) : Below w.heap.size w ((((w.alloc o1).alloc o2).alloc o3).alloc o4) ∧ ((((w.alloc o1).alloc o2).alloc o3).alloc o4).heap.size = w.heap.size + 4 ∧
    ((((w.alloc o1).alloc o2).alloc o3).alloc o4).heap[w.heap.size]? = some o1 ∧ ((((w.alloc o1).alloc o2).alloc o3).alloc o4).heap[w.heap.size + 1]? = some o2 ∧ ((((w.alloc o1).alloc o2).alloc o3).alloc o4).heap[w.heap.size + 1 + 1]? = some o3 ∧ ((((w.alloc o1).alloc o2).alloc o3).alloc o4).heap[w.heap.size + 1 + 1 + 1]? = some o4 := by
  obtain ⟨h1, h2, h3, h4, h5⟩ := below_three w o1 o2 o3
  refine ⟨h1.alloc (by omega) _, by rw [World.size_alloc, h2], ?_, ?_, ?_, ?_⟩
  · exact (Below.heap_alloc _ _ _ (by omega)).trans h3
  · exact (Below.heap_alloc _ _ _ (by omega)).trans h4
  · exact (Below.heap_alloc _ _ _ (by omega)).trans h5
  · have := World.alloc_heap_new (((w.alloc o1).alloc o2).alloc o3) o4
    rwa [h2] at this

theorem cut_yes (c : Col) (hc : COK c) (B D E X : SL) (vals : List Value) (hr : checkC c = 0) (hDa : D.a = none ∨ ∃ g off, D.a = some ⟨g, off, none⟩) (N : Nat) (hn : c.n = (N : Int)) (f t : Nat) (hft : f ≤ t) (htn : t ≤ N)
    (hroom : ∀ i, f ≤ i → i < t → Room (CS.app c.k CS.zero (pieceC c f i)) (valC c i)) (hsm : Small (CS.app c.k CS.zero (pieceC c f t))) (w : World) (h : RdC w c B D E X vals) :
    Calls Tryz.prog 109 #[colV c B D E X, .int .i64 (f : Int), .int .i64 (t : Int)] w (ColEP ((CS.app c.k CS.zero (pieceC c f t)).col c.k c.s) w) := by
  have hck := Aside.mk (fun (w2 : World) (hb : Below w.heap.size w w2) => check_any c hc B D E X vals w2 (h.below hb))
  have HE := Aside.mk (fun Bs => each1_any c hc B D E X vals hr hDa Bs N hn)
  have hea := Aside.mk (fun w2 => each_any c B D E X w2)
  have HO := Aside.mk (check_zero hr).1
  rw [hr] at hck
  have HR := Aside.mk h
  have HRM := Aside.mk hroom
  have HSM := Aside.mk hsm
  have HN := Aside.mk hn
  have hfl : (t : Int) ≤ c.n := by rw [hn]; omega
  have hcn : c.n ≤ 9223372036854775807 := hc.n.2
  clear h hr hc hn hDa hroom hsm
  dsimp only [colV] at hck hea ⊢
  refine calls_of_marks Tryz.func109 rfl ?_; simp only [Tryz.ntmps109, List.size_toArray, List.length_cons, List.length_nil, Nat.reduceAdd, Nat.reduceSub, Array.replicate_succ, Array.replicate_zero, List.push_toArray, List.append_toArray, List.nil_append, List.cons_append]
  go_wp2_with fail
  have hg : ∀ W', (((((w.alloc (.cells #[.int .i64 c.k, .int .i64 c.s, .int .i64 c.n, .int .i64 c.m, .slice B.a c.bits.length B.c, .slice D.a c.data.length D.c, .slice E.a c.ends.length E.c, .slice X.a c.words.length X.c] 63)).alloc (.cells #[.int .i64 (f : Int)] 3)).alloc (.cells #[.int .i64 (t : Int)] 3)).alloc (.cells #[.int .i64 0, .int .i64 0, .int .i64 0, .int .i64 0, .slice none 0 0, .slice none 0 0, .slice none 0 0, .slice none 0 0] 63)) = W' → Below w.heap.size w W' ∧ W'.heap.size = w.heap.size + 4 ∧ W'.heap[w.heap.size]? = some (.cells #[.int .i64 c.k, .int .i64 c.s, .int .i64 c.n, .int .i64 c.m, .slice B.a c.bits.length B.c, .slice D.a c.data.length D.c, .slice E.a c.ends.length E.c, .slice X.a c.words.length X.c] 63 (0, 0)) ∧ W'.heap[w.heap.size + 1]? = some (.cells #[.int .i64 (f : Int)] 3 (0, 0)) ∧ W'.heap[w.heap.size + 1 + 1]? = some (.cells #[.int .i64 (t : Int)] 3 (0, 0)) ∧ W'.heap[w.heap.size + 1 + 1 + 1]? = some (.cells #[.int .i64 0, .int .i64 0, .int .i64 0, .int .i64 0, .slice none 0 0, .slice none 0 0, .slice none 0 0, .slice none 0 0] 63 (0, 0))) := fun W' e => by rw [← e]; exact below_four w _ _ _ _
  generalize ((((w.alloc (.cells #[.int .i64 c.k, .int .i64 c.s, .int .i64 c.n, .int .i64 c.m, .slice B.a c.bits.length B.c, .slice D.a c.data.length D.c, .slice E.a c.ends.length E.c, .slice X.a c.words.length X.c] 63)).alloc (.cells #[.int .i64 (f : Int)] 3)).alloc (.cells #[.int .i64 (t : Int)] 3)).alloc (.cells #[.int .i64 0, .int .i64 0, .int .i64 0, .int .i64 0, .slice none 0 0, .slice none 0 0, .slice none 0 0, .slice none 0 0] 63)) = w2 at *
  obtain ⟨t1, t2, t3, t4, t5, t6⟩ := hg w2 rfl
  have B2 := Aside.mk t1
  have HS2 := Aside.mk t2
  clear hg
  refine (hck.out _ B2.out).mono ?_
  rintro e w3 ⟨rfl, hb3⟩
  have B3 := Aside.mk (below_chain B2.out hb3)
  have HS3 := Aside.mk (Nat.le_trans (Nat.le_of_eq t2.symm) hb3.size)
  replace t3 := (hb3.block _ (lt_of_blk t3)).trans t3
  replace t4 := (hb3.block _ (lt_of_blk t4)).trans t4
  replace t5 := (hb3.block _ (lt_of_blk t5)).trans t5
  replace t6 := (hb3.block _ (lt_of_blk t6)).trans t6
  obtain ⟨c0, c1, c2, c3, c4, c5, c6, c7⟩ := box8 t3
  have d0 : w3.cell? ⟨w.heap.size + 1, 0, none⟩ = some (.int .i64 (f : Int)) := by rw [cell_blk t4]; rfl
  have d1 : w3.cell? ⟨w.heap.size + 1 + 1, 0, none⟩ = some (.int .i64 (t : Int)) := by rw [cell_blk t5]; rfl
  have H3 := Aside.mk t3
  have H4 := Aside.mk t4
  have H5 := Aside.mk t5
  have H6 := Aside.mk t6
  clear t1 t2 t3 t4 t5 t6 hb3
  go_wp2_with fail
  refine (new_BS c.k c.s w3 HO.out).mono ?_
  rintro e w4 ⟨bl, rfl, hbs, hb4⟩
  have HBS := Aside.mk hbs
  have HB4 := Aside.mk hb4
  replace H3 := Aside.mk ((hb4.block _ (lt_of_blk H3.out)).trans H3.out)
  replace H4 := Aside.mk ((hb4.block _ (lt_of_blk H4.out)).trans H4.out)
  replace H5 := Aside.mk ((hb4.block _ (lt_of_blk H5.out)).trans H5.out)
  replace H6 := Aside.mk ((hb4.block _ (lt_of_blk H6.out)).trans H6.out)
  clear hbs hb4 c0 c1 c2 c3 c4 c5 c6 c7 d0 d1
  have hbA := (Below.refl _ w4).alloc (Nat.le_refl _) (.cells #[.pointer (some ⟨bl, 0, none⟩)] 25)
  have HA0 := Aside.mk (heap_alloc_new w4 (.cells #[.pointer (some ⟨bl, 0, none⟩)] 25))
  replace H3 := Aside.mk ((hbA.block _ (lt_of_blk H3.out)).trans H3.out)
  replace H4 := Aside.mk ((hbA.block _ (lt_of_blk H4.out)).trans H4.out)
  replace H5 := Aside.mk ((hbA.block _ (lt_of_blk H5.out)).trans H5.out)
  replace H6 := Aside.mk ((hbA.block _ (lt_of_blk H6.out)).trans H6.out)
  obtain ⟨c0, c1, c2, c3, c4, c5, c6, c7⟩ := box8 H3.out
  have HBA := Aside.mk hbA
  clear hbA
  go_wp2_with (go_at_call 83; refine (hea.out _).mono ?_; rintro e w6 ⟨rfl, hb6, hbx⟩; have HB6 := Aside.mk hb6; have HX6 := Aside.mk hbx; clear hb6 hbx)
  have HL : Aside (CutL w3.heap.size w4.heap.size (w4.heap.size + 1) w w6) := ⟨HS3.out, HB4.out.size, by omega, by have := lt_of_blk HX6.out; simpa using this⟩
  have hsA : (w4.alloc (.cells #[.pointer (some ⟨bl, 0, none⟩)] 25)).heap.size = w4.heap.size + 1 := World.size_alloc _ _
  rw [hsA] at HX6
  have B4 := Aside.mk (below_chain B3.out HB4.out)
  have B6 := Aside.mk (below_chain (below_chain B4.out HBA.out) HB6.out)
  clear hsA c0 c1 c2 c3 c4 c5 c6 c7
  refine wp_seq (gf := 150) (lb := #[.pointer (some ⟨w4.heap.size + 1, 0, none⟩)]) rfl (enters_of Tryz.func150 (by kernel_rfl) rfl) (HE.out (w4.heap.size + 1)) (fun _ _ => rfl)
    (CutI c B D E X f t bl (w4.heap.size + 1) w4.heap.size w3.heap.size w w6) (fun x W => x = .exit 1 ∧ CutI c B D E X f t bl (w4.heap.size + 1) w4.heap.size w3.heap.size w w6 t W)
    (fun k A h => ⟨HR.out.below h.bel, h.bx⟩)
    (fun k A A' hk h => h.moved HL.out hk) (fun _ A A' hk h => ⟨h.1, h.2.moved HL.out hk⟩)
    (fun W hb hs => ⟨Nat.zero_le _, (by rw [show pieceC c f 0 = [] by simp [pieceC, valsC]]; exact ((HBS.out.mono (S' := fun b => w3.heap.size ≤ b ∧ b < w4.heap.size) (fun b h1 h2 => ⟨h1, h2⟩)).below (below_chain (below_chain HBA.out HB6.out) hb)).mono (fun b h _ => .inl h)), below_chain B6.out hb,
      (hb.block _ (Nat.lt_of_lt_of_le (lt_of_blk H4.out) HB6.out.size)).trans ((HB6.out.block _ (lt_of_blk H4.out)).trans H4.out), (hb.block _ (Nat.lt_of_lt_of_le (lt_of_blk H5.out) HB6.out.size)).trans ((HB6.out.block _ (lt_of_blk H5.out)).trans H5.out), (hb.block _ (Nat.lt_of_lt_of_le (lt_of_blk H6.out) HB6.out.size)).trans ((HB6.out.block _ (lt_of_blk H6.out)).trans H6.out),
      (hb.block _ (Nat.lt_of_lt_of_le (lt_of_blk HA0.out) HB6.out.size)).trans ((HB6.out.block _ (lt_of_blk HA0.out)).trans HA0.out), (hb.block _ (lt_of_blk HX6.out)).trans HX6.out⟩) ?round ?done ?stop
  case round =>
    rintro l i v W hi hI ⟨ta, tc, rfl, hrd⟩ hlt hmk
    have HMK := Aside.mk hmk
    dsimp only [valV]
    have HI := Aside.mk hI
    have HRD := Aside.mk hrd
    have HLT5 := Aside.mk hlt
    clear hI hrd hlt hmk
    gi_wp2
    refine ⟨fun k hk => Below.heap_alloc W _ k (by have := HLT5.out; omega), fun W₂ hk hsz => ?_⟩
    have hWsz := HLT5.out
    have hsz2 : W₂.heap.size = W.heap.size + 1 := by rw [hsz]; simp
    have hkW : Kept (fun k => k = w6.heap.size ∨ k = w6.heap.size + 1) W W₂ := (Kept.of_below ((Below.refl _ W).alloc (Nat.le_refl _) _)).trans hk (fun _ h _ => h)
    have HI2 := Aside.mk (HI.out.moved HL.out hkW)
    have hvb := (hk.block W.heap.size (by simp) (by omega)).trans (heap_alloc_new W (.cells #[.int .u64 ((valC c i).bits : Int), .slice ta (valC c i).text.length tc, .bool (valC c i).null] 145))
    obtain ⟨q0, q1, q2⟩ := box3 hvb
    have d0 : W₂.cell? ⟨w4.heap.size, 0, none⟩ = some (.pointer (some ⟨bl, 0, none⟩)) := by rw [cell_blk HI2.out.b0]; rfl
    have d1 : W₂.cell? ⟨w.heap.size + 1, 0, none⟩ = some (.int .i64 (f : Int)) := by rw [cell_blk HI2.out.bf]; rfl
    have d2 : W₂.cell? ⟨w.heap.size + 1 + 1, 0, none⟩ = some (.int .i64 (t : Int)) := by rw [cell_blk HI2.out.bt]; rfl
    have hrd2 := HRD.out.marks HMK.out hkW
    have HS2' := Aside.mk hsz2
    by_cases hit : i < t
    · by_cases hif : f ≤ i
      · have HADD := Aside.mk (add_BS _ bl c.k c.s _ (valC c i) ta tc (HRM.out i hif hit) W₂ HI2.out.bs hrd2)
        clear hvb hrd2 hsz hsz2 hkW hWsz
        generalize hvc : valC c i = vc at *
        have HVC := Aside.mk hvc
        clear hvc
        gi_wp2_with (refine ⟨trivial, ?_⟩; gi_at_call 72; refine (CallsIn.inRound l (callsIn_wide.2 HADD.out)).mono ?_; rintro e w7 ⟨rfl, hb7, hk7⟩; have HB7 := Aside.mk hb7; have HK7 := Aside.mk hk7; clear hb7 hk7)
        obtain ⟨l0, l1, l2, l3⟩ := HL.out
        have hB := HI2.out.bel.size
        refine ⟨fun k hk => HK7.out.block k (by have := HLT5.out; have := HS2'.out; omega) (fun e => by omega), hit, ?_, HI2.out.bel.trans (HK7.out.to_below hB (fun b e => by omega)), ?_, ?_, ?_, ?_, ?_⟩
        · rw [piece_add _ _ _ _ hif, HVC.out]
          exact HB7.out.mono (fun b hb _ => hb.elim id (fun h => .inr (by have := HLT5.out; have := HS2'.out; omega)))
        · exact (HK7.out.block _ (lt_of_blk HI2.out.bf) (by omega)).trans HI2.out.bf
        · exact (HK7.out.block _ (lt_of_blk HI2.out.bt) (by omega)).trans HI2.out.bt
        · exact (HK7.out.block _ (lt_of_blk HI2.out.bz) (by omega)).trans HI2.out.bz
        · exact (HK7.out.block _ (lt_of_blk HI2.out.b0) (by omega)).trans HI2.out.b0
        · exact (HK7.out.block _ (lt_of_blk HI2.out.bx) (by omega)).trans HI2.out.bx
      · have HPN := Aside.mk (piece_none c f i (by omega))
        clear hvb hrd2 hsz hsz2 hkW hWsz
        gi_wp2
        have h2 := HI2.out
        refine ⟨fun k hk => rfl, hit, ?_, h2.bel, h2.bf, h2.bt, h2.bz, h2.b0, h2.bx⟩
        rw [HPN.out]
        exact h2.bs
    · have hle := HI.out.le
      obtain rfl : i = t := by omega
      clear hvb hrd2 hsz hsz2 hkW hWsz
      gi_wp2
      exact ⟨fun k hk => rfl, rfl, HI2.out⟩
  case done =>
    rintro W hI hK
    have hle := hI.le
    obtain rfl : t = N := by omega
    have HI := Aside.mk hI
    have HK := Aside.mk hK
    clear hI hK hle
    have HCOL := Aside.mk (column_BS _ bl c.k c.s _ HSM.out.1 HSM.out.2.1 HSM.out.2.2.1 HSM.out.2.2.2.1 HSM.out.2.2.2.2 W HI.out.bs)
    generalize CS.app c.k CS.zero (pieceC c f t) = J2 at *
    have d0 : W.cell? ⟨w4.heap.size, 0, none⟩ = some (.pointer (some ⟨bl, 0, none⟩)) := by rw [cell_blk HI.out.b0]; rfl
    go_wp2_with (go_at_call 34; refine HCOL.out.mono ?_; rintro e w7 ⟨B', D', E', X', vals, rfl, hoc, hb7⟩; have HOC := Aside.mk hoc; have HB7 := Aside.mk hb7; have hr4 := (hb7.block _ (lt_of_blk HI.out.bz)).trans HI.out.bz; obtain ⟨r0, r1, r2, r3, r4, r5, r6, r7⟩ := box8 hr4; have f0 := frozen_blk (k := 0) hr4; have f1 := frozen_blk (k := 1) hr4; have f2 := frozen_blk (k := 2) hr4; have f3 := frozen_blk (k := 3) hr4; have f4 := frozen_blk (k := 4) hr4; have f5 := frozen_blk (k := 5) hr4; have f6 := frozen_blk (k := 6) hr4; have f7 := frozen_blk (k := 7) hr4; have HR4 := Aside.mk hr4; clear hoc hb7 hr4; dsimp only [colV, CS.col])
    have K8 : Kept (fun b => b = w.heap.size + 1 + 1 + 1) w7 _ := kept8 w7 (w.heap.size + 1 + 1 + 1) (.int .i64 c.k) (.int .i64 c.s) (.int .i64 (J2.nulls.length : Int)) (.int .i64 (J2.nulls.length : Int)) (.slice B'.a (mof J2.nulls).length B'.c) (.slice D'.a J2.data.length D'.c) (.slice E'.a J2.ends.length E'.c) (.slice X'.a J2.words.length X'.c)
    have hs8 := set8 HR4.out (.int .i64 c.k) (.int .i64 c.s) (.int .i64 (J2.nulls.length : Int)) (.int .i64 (J2.nulls.length : Int)) (.slice B'.a (mof J2.nulls).length B'.c) (.slice D'.a J2.data.length D'.c) (.slice E'.a J2.ends.length E'.c) (.slice X'.a J2.words.length X'.c)
    obtain ⟨l0, l1, l2, l3⟩ := HL.out
    have hWs := lt_of_blk HI.out.bx
    have hKs := lt_of_blk HK.out
    have hK7 := (HB7.out.block _ (lt_of_blk HK.out)).trans HK.out
    have hK8 := (K8.block _ (lt_of_blk hK7) (by omega)).trans hK7
    obtain ⟨z0, z1, z2, z3, z4, z5, z6, z7⟩ := box8 ((World.putObj_heap_other (r := w6.heap.size) (o := .deferred none) (by omega)).trans hs8)
    refine left_marks hK8 (v := .tuple #[.agg #[.int .i64 c.k, .int .i64 c.s, .int .i64 (J2.nulls.length : Int), .int .i64 (J2.nulls.length : Int), .slice B'.a (mof J2.nulls).length B'.c, .slice D'.a J2.data.length D'.c, .slice E'.a J2.ends.length E'.c, .slice X'.a J2.words.length X'.c], .int .i64 0]) (by simp [results, Tryz.results109, go_sem, z0, z1, z2, z3, z4, z5, z6, z7]) ?_
    refine ⟨B', D', E', X', vals, rfl, (((HOC.out.kept K8 (fun b h => by omega)).kept kept_put1 (fun b h => by omega))).mono (by omega), ?_⟩
    have hw7 := HB7.out.size
    exact ((HI.out.bel.trans (HB7.out.mono (by omega))).trans (K8.to_below (by omega) (fun b e => by omega))).trans (kept_put1.to_below (by have := K8.size; omega) (fun b e => by omega))
  case stop =>
    rintro x W ⟨rfl, hI⟩ hK
    have HI := Aside.mk hI
    have HK := Aside.mk hK
    clear hI hK
    have HCOL := Aside.mk (column_BS _ bl c.k c.s _ HSM.out.1 HSM.out.2.1 HSM.out.2.2.1 HSM.out.2.2.2.1 HSM.out.2.2.2.2 W HI.out.bs)
    generalize CS.app c.k CS.zero (pieceC c f t) = J2 at *
    have d0 : W.cell? ⟨w4.heap.size, 0, none⟩ = some (.pointer (some ⟨bl, 0, none⟩)) := by rw [cell_blk HI.out.b0]; rfl
    go_wp2_with (go_at_call 34; refine HCOL.out.mono ?_; rintro e w7 ⟨B', D', E', X', vals, rfl, hoc, hb7⟩; have HOC := Aside.mk hoc; have HB7 := Aside.mk hb7; have hr4 := (hb7.block _ (lt_of_blk HI.out.bz)).trans HI.out.bz; obtain ⟨r0, r1, r2, r3, r4, r5, r6, r7⟩ := box8 hr4; have f0 := frozen_blk (k := 0) hr4; have f1 := frozen_blk (k := 1) hr4; have f2 := frozen_blk (k := 2) hr4; have f3 := frozen_blk (k := 3) hr4; have f4 := frozen_blk (k := 4) hr4; have f5 := frozen_blk (k := 5) hr4; have f6 := frozen_blk (k := 6) hr4; have f7 := frozen_blk (k := 7) hr4; have HR4 := Aside.mk hr4; clear hoc hb7 hr4; dsimp only [colV, CS.col])
    have K8 : Kept (fun b => b = w.heap.size + 1 + 1 + 1) w7 _ := kept8 w7 (w.heap.size + 1 + 1 + 1) (.int .i64 c.k) (.int .i64 c.s) (.int .i64 (J2.nulls.length : Int)) (.int .i64 (J2.nulls.length : Int)) (.slice B'.a (mof J2.nulls).length B'.c) (.slice D'.a J2.data.length D'.c) (.slice E'.a J2.ends.length E'.c) (.slice X'.a J2.words.length X'.c)
    have hs8 := set8 HR4.out (.int .i64 c.k) (.int .i64 c.s) (.int .i64 (J2.nulls.length : Int)) (.int .i64 (J2.nulls.length : Int)) (.slice B'.a (mof J2.nulls).length B'.c) (.slice D'.a J2.data.length D'.c) (.slice E'.a J2.ends.length E'.c) (.slice X'.a J2.words.length X'.c)
    obtain ⟨l0, l1, l2, l3⟩ := HL.out
    have hWs := lt_of_blk HI.out.bx
    have hKs := lt_of_blk HK.out
    have hK7 := (HB7.out.block _ (lt_of_blk HK.out)).trans HK.out
    have hK8 := (K8.block _ (lt_of_blk hK7) (by omega)).trans hK7
    obtain ⟨z0, z1, z2, z3, z4, z5, z6, z7⟩ := box8 ((World.putObj_heap_other (r := w6.heap.size) (o := .deferred none) (by omega)).trans hs8)
    refine left_marks hK8 (v := .tuple #[.agg #[.int .i64 c.k, .int .i64 c.s, .int .i64 (J2.nulls.length : Int), .int .i64 (J2.nulls.length : Int), .slice B'.a (mof J2.nulls).length B'.c, .slice D'.a J2.data.length D'.c, .slice E'.a J2.ends.length E'.c, .slice X'.a J2.words.length X'.c], .int .i64 0]) (by simp [results, Tryz.results109, go_sem, z0, z1, z2, z3, z4, z5, z6, z7]) ?_
    refine ⟨B', D', E', X', vals, rfl, (((HOC.out.kept K8 (fun b h => by omega)).kept kept_put1 (fun b h => by omega))).mono (by omega), ?_⟩
    have hw7 := HB7.out.size
    exact ((HI.out.bel.trans (HB7.out.mono (by omega))).trans (K8.to_below (by omega) (fun b e => by omega))).trans (kept_put1.to_below (by have := K8.size; omega) (fun b e => by omega))
end Go.Proofs.YtmhjjhaipcgbiaaGreat


/- A column that is built is in range. Plain. -/
namespace Go.Proofs.YtmhjjhaipcgbiaaGreat
open Go.RowKit
set_option linter.unusedVariables false
set_option linter.unusedSimpArgs false
set_option maxRecDepth 100000
set_option maxHeartbeats 1000000

theorem of_bytes (k : Int) (l : List V) (hl : ∀ v ∈ l, IsBytes v.text) : IsBytes (CS.of k l).data ∧ ∀ t ∈ (CS.of k l).words, IsBytes t := by
  induction l using snoc_ind with
  | h0 => exact ⟨isBytes_nil, fun t h => by cases h⟩
  | h1 l v ih =>
    obtain ⟨h1, h2⟩ := ih (fun v hv => hl v (List.mem_append_left _ hv))
    have hv := hl v (by simp)
    rw [CS.of_snoc]
    unfold CS.add
    split
    · exact ⟨isBytes_append h1 hv, h2⟩
    split
    · refine ⟨isBytes_append h1 (lows_bytes _ _), ?_⟩
      dsimp only
      split
      · exact h2
      · exact addWord_bytes h2 hv
    · exact ⟨isBytes_append h1 (lows_bytes _ _), h2⟩
theorem of_ends (k : Int) (l : List V) (hl : ∀ v ∈ l, v.text.length ≤ 4900) : ∀ x ∈ (CS.of k l).ends, 0 ≤ x ∧ x ≤ (l.length : Int) * 4900 := by
  induction l using snoc_ind with
  | h0 => intro x h; cases h
  | h1 l v ih =>
    have ih := ih (fun v hv => hl v (List.mem_append_left _ hv))
    have hv := hl v (by simp)
    have hd := (of_sizes k l (fun v hv => hl v (List.mem_append_left _ hv))).1
    have ih2 : ∀ x ∈ (CS.of k l).ends, 0 ≤ x ∧ x ≤ ((l ++ [v]).length : Int) * 4900 := fun x hx => by
      have := ih x hx
      simp; omega
    rw [CS.of_snoc]
    unfold CS.add
    split
    · intro x hx
      rcases List.mem_append.1 hx with h | h
      · exact ih2 x h
      · simp at h; subst h; simp; omega
    split <;> exact ih2
theorem built_cokB {k s : Int} (ho : okType k s = true) {l : List V} (hf : Few l) (hl : ∀ v ∈ l, IsBytes v.text) : COK ((CS.of k l).col k s) := by
  obtain ⟨h1, h2, h3, h4⟩ := of_sizes k l hf.2
  obtain ⟨h5, h6⟩ := of_bytes k l hl
  have h7 := of_ends k l hf.2
  have h8 := of_words k l hf.2
  have h9 := hf.1
  have hm := mof_len (CS.of k l).nulls
  unfold okType at ho
  simp only [decide_eq_true_eq] at ho
  refine ⟨mof_bytes _, h5, fun x hx => ?_, fun t ht => ⟨h6 t ht, Nat.le_trans (h8 t ht) (by decide)⟩, ?_, ?_, ?_, ?_, ?_, ?_, ?_, ?_⟩
  · have := h7 x hx; unfold IsI64; omega
  · show (mof (CS.of k l).nulls).length ≤ _; omega
  · show (CS.of k l).data.length ≤ _; omega
  · show (CS.of k l).ends.length ≤ _; omega
  · show (CS.of k l).words.length ≤ _; omega
  · show IsI64 k; unfold IsI64; omega
  · show IsI64 s; unfold IsI64; omega
  · show IsI64 ((CS.of k l).nulls.length : Int); unfold IsI64; omega
  · show IsI64 ((CS.of k l).nulls.length : Int); unfold IsI64; omega

theorem built_cok {k s : Int} (ho : okType k s = true) {l : List V} (hf : Few l) (hl : ∀ v ∈ l, vOK k s v) : COK ((CS.of k l).col k s) := built_cokB ho hf (fun v hv => (hl v hv).1)

/-- What is to be known of a column that is built. -/
structure BF (k s : Int) (l : List V) (c : Col) : Prop where
  cok : COK c
  chk : checkC c = 0
  k : c.k = k
  s : c.s = s
  n : c.n = (l.length : Int)
  bits : c.bits = mof (l.map (·.null))
  val : ∀ (i : Nat) (h : i < l.length), l[i].null = false → valueC c i = (l[i].bits, l[i].text)
  nul : ∀ (i : Nat) (h : i < l.length), nullB c.bits i = l[i].null
theorem built_facts {k s : Int} (ho : okType k s = true) {l : List V} (hf : Few l) (hl : ∀ v ∈ l, vOK k s v) : BF k s l ((CS.of k l).col k s) := by
  have h9 := hf.1
  refine ⟨built_cok ho hf hl, built_ok ho l hl (by omega), rfl, rfl, ?_, ?_, fun i h hn => built_value ho l hl (by omega) i h hn, fun i h => built_null k s l i h⟩
  · show ((CS.of k l).nulls.length : Int) = _; rw [nulls_of]; simp
  · show mof (CS.of k l).nulls = _; rw [nulls_of]
end Go.Proofs.YtmhjjhaipcgbiaaGreat
