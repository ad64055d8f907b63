/- Texts of this claim, one behind the other: EqC, Lay2, Lay3. -/
import Derived.Test.YtmhjjhaipcgbiaaGreatZooP29
import Derived.Test.YtmhjjhaipcgbiaaGreatZooP18
import Derived.Test.YtmhjjhaipcgbiaaGreatZooP24
import Derived.Test.YtmhjjhaipcgbiaaGreatZooP21
import Derived.BigQuiet
import Derived.Deep.QuietTactic

namespace Go.Proofs.YtmhjjhaipcgbiaaGreat
open Go.RowKit
set_option linter.unusedVariables false
set_option linter.unusedSimpArgs false
set_option maxRecDepth 100000
set_option maxHeartbeats 4000000
theorem str_eq {xs ys : List Int} (hx : IsBytes xs) (hy : IsBytes ys) : ((strOfNums xs).toList == (strOfNums ys).toList) = decide (xs = ys) := by
  rw [Bool.eq_iff_iff, beq_iff_eq, decide_eq_true_eq, ByteArray.toList_eq, ByteArray.toList_eq, strOfNums_data, strOfNums_data]
  exact ⟨map_byte_inj xs ys hx hy, fun h => by rw [h]⟩
theorem same16 (m1 m2 : Int) (xs ys : List Int) (A B : SL) (hx : IsBytes xs) (hy : IsBytes ys) (w : World) (ha : Rd w 1 (.slice A.a xs.length A.c) xs.length (xs.map (.int .u8))) (hb : Rd w 1 (.slice B.a ys.length B.c) ys.length (ys.map (.int .u8))) :
    Calls Tryz.prog 85 #[.agg #[.int .i64 m1, .slice A.a xs.length A.c], .agg #[.int .i64 m2, .slice B.a ys.length B.c]] w (BoolP (decide (m1 = m2) && decide (xs = ys)) w) := by
  have BW := Aside.mk ((below_new w (.cells #[.int .i64 m1, .slice A.a xs.length A.c] 60)).trans ((below_new _ (.cells #[.int .i64 m2, .slice B.a ys.length B.c] 60)).mono (by simp)))
  have h1 := conv_any A.a _ A.c xs rfl _ (ha.below BW.out)
  have h2 := conv_any B.a _ B.c ys rfl _ (hb.below BW.out)
  have hd := str_eq hx hy
  clear ha hb
  generalize strOfNums xs = sx at *
  generalize strOfNums ys = sy at *
  generalize decide (xs = ys) = r at *
  generalize xs.length = n at *
  generalize ys.length = m at *
  by_cases e : m1 = m2
  · have e1 : (m1 == m2) = true := by simpa using e
    have HF := Aside.mk (show (sx.toList == sy.toList) = (decide (m1 = m2) && r) by rw [hd]; simp [e])
    clear e hd
    go_enter Tryz.func85, Tryz.ntmps85
    go_wp2
    go_ret
    exact ⟨ret_bool HF.out, BW.out⟩
  · have e1 : (m1 == m2) = false := by simpa using e
    have HF := Aside.mk (show false = (decide (m1 = m2) && r) by simp [e])
    clear e hd
    go_enter Tryz.func85, Tryz.ntmps85
    go_wp2
    go_ret
    exact ⟨ret_bool HF.out, BW.out⟩
def equalC (a b : Col) : Bool := decide (a.k = b.k ∧ a.s = b.s ∧ a.n = b.n ∧ a.m = b.m ∧ a.bits = b.bits ∧ a.data = b.data ∧ a.ends = b.ends ∧ a.words = b.words)
theorem equalC_refl (a : Col) : equalC a a = true := by simp [equalC]
theorem take_extA {α : Type} {xs ys : List α} {i : Nat} (h1 : i < xs.length) (h2 : i < ys.length) (h : xs.take i = ys.take i) (e : xs[i] = ys[i]) : xs.take (i + 1) = ys.take (i + 1) := by
  rw [List.take_succ_eq_append_getElem h1, List.take_succ_eq_append_getElem h2, h, e]
theorem full_extA {α : Type} {xs ys : List α} (hl : xs.length = ys.length) (h : xs.take xs.length = ys.take xs.length) : xs = ys := by
  rw [List.take_length, hl, List.take_length] at h
  exact h
theorem get_nextA {α : Type} {xs ys : List α} {i : Nat} (h1 : i < xs.length) (h2 : i < ys.length) (e : xs[i] ≠ ys[i]) : xs ≠ ys := fun h => e (by subst h; rfl)
theorem equal_col (a b : Col) (ha : COK a) (hb : COK b) (B D E X B2 D2 E2 X2 : SL) (va vb : List Value) (w : World) (h : RdC w a B D E X va) (h2 : RdC w b B2 D2 E2 X2 vb) :
    Calls Tryz.prog 30 #[colV a B D E X, colV b B2 D2 E2 X2] w (BoolP (equalC a b) w) := by
  have BW := Aside.mk ((below_new w (.cells #[.int .i64 a.k, .int .i64 a.s, .int .i64 a.n, .int .i64 a.m, .slice B.a a.bits.length B.c, .slice D.a a.data.length D.c, .slice E.a a.ends.length E.c, .slice X.a a.words.length X.c] 63)).trans ((below_new _ (.cells #[.int .i64 b.k, .int .i64 b.s, .int .i64 b.n, .int .i64 b.m, .slice B2.a b.bits.length B2.c, .slice D2.a b.data.length D2.c, .slice E2.a b.ends.length E2.c, .slice X2.a b.words.length X2.c] 63)).mono (by simp)))
  have HXA := Aside.mk (show ((w.alloc (.cells #[.int .i64 a.k, .int .i64 a.s, .int .i64 a.n, .int .i64 a.m, .slice B.a a.bits.length B.c, .slice D.a a.data.length D.c, .slice E.a a.ends.length E.c, .slice X.a a.words.length X.c] 63)).alloc (.cells #[.int .i64 b.k, .int .i64 b.s, .int .i64 b.n, .int .i64 b.m, .slice B2.a b.bits.length B2.c, .slice D2.a b.data.length D2.c, .slice E2.a b.ends.length E2.c, .slice X2.a b.words.length X2.c] 63)).heap[w.heap.size]? = some (.cells #[.int .i64 a.k, .int .i64 a.s, .int .i64 a.n, .int .i64 a.m, .slice B.a a.bits.length B.c, .slice D.a a.data.length D.c, .slice E.a a.ends.length E.c, .slice X.a a.words.length X.c] 63 (0, 0)) by
    rw [Below.heap_alloc _ _ _ (by simp)]; exact heap_alloc_new w _)
  have HXB := Aside.mk (show ((w.alloc (.cells #[.int .i64 a.k, .int .i64 a.s, .int .i64 a.n, .int .i64 a.m, .slice B.a a.bits.length B.c, .slice D.a a.data.length D.c, .slice E.a a.ends.length E.c, .slice X.a a.words.length X.c] 63)).alloc (.cells #[.int .i64 b.k, .int .i64 b.s, .int .i64 b.n, .int .i64 b.m, .slice B2.a b.bits.length B2.c, .slice D2.a b.data.length D2.c, .slice E2.a b.ends.length E2.c, .slice X2.a b.words.length X2.c] 63)).heap[w.heap.size + 1]? = some (.cells #[.int .i64 b.k, .int .i64 b.s, .int .i64 b.n, .int .i64 b.m, .slice B2.a b.bits.length B2.c, .slice D2.a b.data.length D2.c, .slice E2.a b.ends.length E2.c, .slice X2.a b.words.length X2.c] 63 (0, 0)) by
    simpa using heap_alloc_new (w.alloc (.cells #[.int .i64 a.k, .int .i64 a.s, .int .i64 a.n, .int .i64 a.m, .slice B.a a.bits.length B.c, .slice D.a a.data.length D.c, .slice E.a a.ends.length E.c, .slice X.a a.words.length X.c] 63)) (.cells #[.int .i64 b.k, .int .i64 b.s, .int .i64 b.n, .int .i64 b.m, .slice B2.a b.bits.length B2.c, .slice D2.a b.data.length D2.c, .slice E2.a b.ends.length E2.c, .slice X2.a b.words.length X2.c] 63))
  have HSM := Aside.mk (same16 a.m b.m a.bits b.bits B B2 ha.bits hb.bits _ (h.bits.below BW.out) (h2.bits.below BW.out))
  have HCA := Aside.mk (fun (w2 : World) (hw : Below w.heap.size w w2) => conv_any D.a _ D.c a.data rfl w2 (h.data.below hw))
  have HCB := Aside.mk (fun (w2 : World) (hw : Below w.heap.size w w2) => conv_any D2.a _ D2.c b.data rfl w2 (h2.data.below hw))
  have HDD := Aside.mk (str_eq ha.data hb.data)
  have HS := Aside.mk (show equalC a b = decide (a.k = b.k ∧ a.s = b.s ∧ a.n = b.n ∧ a.m = b.m ∧ a.bits = b.bits ∧ a.data = b.data ∧ a.ends = b.ends ∧ a.words = b.words) from rfl)
  have HR := Aside.mk h
  have HR2 := Aside.mk h2
  have HKA := Aside.mk ha
  have HKB := Aside.mk hb
  clear h h2 ha hb
  dsimp only [colV]
  by_cases q1 : a.k = b.k
  rotate_left
  · have HF := Aside.mk (show false = equalC a b by rw [HS.out]; simp [q1])
    have q1' : (a.k == b.k) = false := by simpa using q1
    have q1'' : (a.k != b.k) = true := by simpa using q1
    clear q1
    go_enter Tryz.func30, Tryz.ntmps30; go_wp2_with (go_at_call 85; refine HSM.out.mono ?_; rintro e w2 ⟨rfl, hb2⟩; replace BW := Aside.mk (below_chain BW.out hb2); have hda := HCA.out _ BW.out; have hdb := HCB.out _ BW.out; replace HXA := Aside.mk ((hb2.block _ (lt_of_blk HXA.out)).trans HXA.out); replace HXB := Aside.mk ((hb2.block _ (lt_of_blk HXB.out)).trans HXB.out); obtain ⟨p0, p1, p2, p3, p4, p5, p6, p7⟩ := box8 HXA.out; obtain ⟨q0, q1, q2, q3, q4, q5, q6, q7⟩ := box8 HXB.out; clear hb2); go_ret; exact ⟨ret_bool HF.out, BW.out⟩
  simp only [q1] at BW HXA HXB HSM ⊢
  by_cases q2 : a.s = b.s
  rotate_left
  · have HF := Aside.mk (show false = equalC a b by rw [HS.out]; simp [q2])
    have q2' : (a.s == b.s) = false := by simpa using q2
    have q2'' : (a.s != b.s) = true := by simpa using q2
    clear q2
    go_enter Tryz.func30, Tryz.ntmps30; go_wp2_with (go_at_call 85; refine HSM.out.mono ?_; rintro e w2 ⟨rfl, hb2⟩; replace BW := Aside.mk (below_chain BW.out hb2); have hda := HCA.out _ BW.out; have hdb := HCB.out _ BW.out; replace HXA := Aside.mk ((hb2.block _ (lt_of_blk HXA.out)).trans HXA.out); replace HXB := Aside.mk ((hb2.block _ (lt_of_blk HXB.out)).trans HXB.out); obtain ⟨p0, p1, p2, p3, p4, p5, p6, p7⟩ := box8 HXA.out; obtain ⟨q0, q1, q2, q3, q4, q5, q6, q7⟩ := box8 HXB.out; clear hb2); go_ret; exact ⟨ret_bool HF.out, BW.out⟩
  simp only [q2] at BW HXA HXB HSM ⊢
  by_cases q3 : a.n = b.n
  rotate_left
  · have HF := Aside.mk (show false = equalC a b by rw [HS.out]; simp [q3])
    have q3' : (a.n == b.n) = false := by simpa using q3
    have q3'' : (a.n != b.n) = true := by simpa using q3
    clear q3
    go_enter Tryz.func30, Tryz.ntmps30; go_wp2_with (go_at_call 85; refine HSM.out.mono ?_; rintro e w2 ⟨rfl, hb2⟩; replace BW := Aside.mk (below_chain BW.out hb2); have hda := HCA.out _ BW.out; have hdb := HCB.out _ BW.out; replace HXA := Aside.mk ((hb2.block _ (lt_of_blk HXA.out)).trans HXA.out); replace HXB := Aside.mk ((hb2.block _ (lt_of_blk HXB.out)).trans HXB.out); obtain ⟨p0, p1, p2, p3, p4, p5, p6, p7⟩ := box8 HXA.out; obtain ⟨q0, q1, q2, q3, q4, q5, q6, q7⟩ := box8 HXB.out; clear hb2); go_ret; exact ⟨ret_bool HF.out, BW.out⟩
  simp only [q3] at BW HXA HXB HSM ⊢
  obtain ⟨tm, htm⟩ : ∃ tm, tm = (decide (a.m = b.m) && decide (a.bits = b.bits)) := ⟨_, rfl⟩
  rw [← htm] at HSM
  have H6 := Aside.mk (fun (r : Bool) (hr : r = (tm && (decide (a.data = b.data) && (decide (a.ends = b.ends) && decide (a.words = b.words))))) => show r = equalC a b by
    rw [HS.out, hr, htm, Bool.eq_iff_iff]
    simp [q1, q2, q3, and_assoc])
  clear q1 q2 q3 htm
  cases tm with
  | false =>
    have HF := Aside.mk (H6.out false (by simp))
    go_enter Tryz.func30, Tryz.ntmps30; go_wp2_with (go_at_call 85; refine HSM.out.mono ?_; rintro e w2 ⟨rfl, hb2⟩; replace BW := Aside.mk (below_chain BW.out hb2); have hda := HCA.out _ BW.out; have hdb := HCB.out _ BW.out; replace HXA := Aside.mk ((hb2.block _ (lt_of_blk HXA.out)).trans HXA.out); replace HXB := Aside.mk ((hb2.block _ (lt_of_blk HXB.out)).trans HXB.out); obtain ⟨p0, p1, p2, p3, p4, p5, p6, p7⟩ := box8 HXA.out; obtain ⟨q0, q1, q2, q3, q4, q5, q6, q7⟩ := box8 HXB.out; clear hb2); go_ret; exact ⟨ret_bool HF.out, BW.out⟩
  | true =>
    by_cases r1 : a.data = b.data
    rotate_left
    · have HF := Aside.mk (H6.out false (by simp [r1]))
      have e1 := HDD.out
      rw [decide_eq_false r1] at e1
      have e2 : ((strOfNums a.data).toList != (strOfNums b.data).toList) = true := by rw [bne, e1]; rfl
      clear r1
      generalize strOfNums a.data = sx at *
      generalize strOfNums b.data = sy at *
      go_enter Tryz.func30, Tryz.ntmps30; go_wp2_with (go_at_call 85; refine HSM.out.mono ?_; rintro e w2 ⟨rfl, hb2⟩; replace BW := Aside.mk (below_chain BW.out hb2); have hda := HCA.out _ BW.out; have hdb := HCB.out _ BW.out; replace HXA := Aside.mk ((hb2.block _ (lt_of_blk HXA.out)).trans HXA.out); replace HXB := Aside.mk ((hb2.block _ (lt_of_blk HXB.out)).trans HXB.out); obtain ⟨p0, p1, p2, p3, p4, p5, p6, p7⟩ := box8 HXA.out; obtain ⟨q0, q1, q2, q3, q4, q5, q6, q7⟩ := box8 HXB.out; clear hb2); go_ret; exact ⟨ret_bool HF.out, BW.out⟩
    have e1 := HDD.out
    rw [decide_eq_true r1] at e1
    have e2 : ((strOfNums a.data).toList != (strOfNums b.data).toList) = false := by rw [bne, e1]; rfl
    have H7 := Aside.mk (fun (r : Bool) (hr : r = (decide (a.ends = b.ends) && decide (a.words = b.words))) => H6.out r (by rw [hr]; simp [r1]))
    clear r1 H6 HDD
    generalize strOfNums a.data = sx at *
    generalize strOfNums b.data = sy at *
    by_cases r2 : a.ends.length = b.ends.length
    rotate_left
    · have HF := Aside.mk (H7.out false (by rw [decide_eq_false (fun e => r2 (by rw [e]))]; simp))
      have f1 : ((a.ends.length : Int) == (b.ends.length : Int)) = false := by rw [beq_eq_false_iff_ne]; omega
      have f2 : ((a.ends.length : Int) != (b.ends.length : Int)) = true := by rw [bne, f1]; rfl
      clear r2
      go_enter Tryz.func30, Tryz.ntmps30; go_wp2_with (go_at_call 85; refine HSM.out.mono ?_; rintro e w2 ⟨rfl, hb2⟩; replace BW := Aside.mk (below_chain BW.out hb2); have hda := HCA.out _ BW.out; have hdb := HCB.out _ BW.out; replace HXA := Aside.mk ((hb2.block _ (lt_of_blk HXA.out)).trans HXA.out); replace HXB := Aside.mk ((hb2.block _ (lt_of_blk HXB.out)).trans HXB.out); obtain ⟨p0, p1, p2, p3, p4, p5, p6, p7⟩ := box8 HXA.out; obtain ⟨q0, q1, q2, q3, q4, q5, q6, q7⟩ := box8 HXB.out; clear hb2); go_ret; exact ⟨ret_bool HF.out, BW.out⟩
    have f1 : ((a.ends.length : Int) == (b.ends.length : Int)) = true := by rw [beq_iff_eq]; omega
    have f2 : ((a.ends.length : Int) != (b.ends.length : Int)) = false := by rw [bne, f1]; rfl
    by_cases r3 : a.words.length = b.words.length
    rotate_left
    · have HF := Aside.mk (H7.out false (by rw [decide_eq_false (fun e => r3 (by rw [e]) : ¬ a.words = b.words)]; simp))
      have g1 : ((a.words.length : Int) == (b.words.length : Int)) = false := by rw [beq_eq_false_iff_ne]; omega
      have g2 : ((a.words.length : Int) != (b.words.length : Int)) = true := by rw [bne, g1]; rfl
      clear r2 r3
      go_enter Tryz.func30, Tryz.ntmps30; go_wp2_with (go_at_call 85; refine HSM.out.mono ?_; rintro e w2 ⟨rfl, hb2⟩; replace BW := Aside.mk (below_chain BW.out hb2); have hda := HCA.out _ BW.out; have hdb := HCB.out _ BW.out; replace HXA := Aside.mk ((hb2.block _ (lt_of_blk HXA.out)).trans HXA.out); replace HXB := Aside.mk ((hb2.block _ (lt_of_blk HXB.out)).trans HXB.out); obtain ⟨p0, p1, p2, p3, p4, p5, p6, p7⟩ := box8 HXA.out; obtain ⟨q0, q1, q2, q3, q4, q5, q6, q7⟩ := box8 HXB.out; clear hb2); go_ret; exact ⟨ret_bool HF.out, BW.out⟩
    have g1 : ((a.words.length : Int) == (b.words.length : Int)) = true := by rw [beq_iff_eq]; omega
    have g2 : ((a.words.length : Int) != (b.words.length : Int)) = false := by rw [bne, g1]; rfl
    have R2 := Aside.mk r2
    have R3 := Aside.mk r3
    have hle := HKA.out.le
    have hlw := HKA.out.lw
    clear r2 r3
    go_enter Tryz.func30, Tryz.ntmps30
    go_wp2_with (go_at_call 85; refine HSM.out.mono ?_; rintro e w2 ⟨rfl, hb2⟩; replace BW := Aside.mk (below_chain BW.out hb2); have hda := HCA.out _ BW.out; have hdb := HCB.out _ BW.out; replace HXA := Aside.mk ((hb2.block _ (lt_of_blk HXA.out)).trans HXA.out); replace HXB := Aside.mk ((hb2.block _ (lt_of_blk HXB.out)).trans HXB.out); obtain ⟨p0, p1, p2, p3, p4, p5, p6, p7⟩ := box8 HXA.out; obtain ⟨q0, q1, q2, q3, q4, q5, q6, q7⟩ := box8 HXB.out; clear hb2)
    clear p0 p1 p2 p3 p4 p5 p6 p7 q0 q1 q2 q3 q4 q5 q6 q7 hda hdb HCA HCB f1 f2 g1 g2 e1 e2
    go_loopw [5] (fun iv wr => ∃ i : Nat, i ≤ a.ends.length ∧ iv = .int .i64 (i : Int) ∧ Aside (Below w2.heap.size w2 wr ∧ a.ends.take i = b.ends.take i)) (fun iv _ => a.ends.length - (intOf iv).toNat)
    case atStart => exact ⟨0, by omega, rfl, ⟨Below.refl _ _, rfl⟩⟩
    case round =>
      obtain ⟨i, hi, rfl, hp⟩ := hrel
      obtain ⟨p0, p1, p2, p3, p4, p5, p6, p7⟩ := box8 ((hp.out.1.block _ (lt_of_blk HXA.out)).trans HXA.out)
      obtain ⟨q0, q1, q2, q3, q4, q5, q6, q7⟩ := box8 ((hp.out.1.block _ (lt_of_blk HXB.out)).trans HXB.out)
      by_cases hlt : i < a.ends.length
      · have hlt2 : i < b.ends.length := by have := R2.out; omega
        obtain ⟨g1, o1, k1, hs, hel, hecap, hc⟩ := rd_get (HR.out.ends.below (below_chain BW.out hp.out.1)) i hlt
        simp only [Value.slice.injEq, true_and] at hs
        obtain ⟨hs1, hs2⟩ := hs
        obtain ⟨g2, o2, k2, hs, hel2, hecap2, hd⟩ := rd_get (HR2.out.ends.below (below_chain BW.out hp.out.1)) i hlt2
        simp only [Value.slice.injEq, true_and] at hs
        obtain ⟨hs3, hs4⟩ := hs
        rw [hs1] at p6
        rw [hs3] at q6
        rw [hs2] at p6
        rw [hs4] at q6
        clear hs1 hs2 hs3 hs4
        have hx : a.ends.getD i 0 = a.ends[i] := by simp [List.getD_eq_getElem?_getD, hlt]
        have hy : b.ends.getD i 0 = b.ends[i] := by simp [List.getD_eq_getElem?_getD, hlt2]
        rw [hx] at hc
        rw [hy] at hd
        have HT := Aside.mk (fun e => take_extA hlt hlt2 hp.out.2 e)
        have HU := Aside.mk (fun e => get_nextA hlt hlt2 e)
        clear hx hy
        generalize a.ends[i] = x at *
        generalize b.ends[i] = y at *
        by_cases hq : x = y
        · have h1 : (x == y) = true := by simpa using hq
          have h2 : (x != y) = false := by simpa using hq
          have HT2 := Aside.mk (HT.out hq)
          clear hq HT HU
          go_wp2_with fail
          go_quiet (fail)
          go_wp2_with fail
          exact ⟨⟨i + 1, by omega, by simp, ⟨hp.out.1.trans (below_drewN _ _ _), HT2.out⟩⟩, by simp [intOf]; omega⟩
        · have h1 : (x == y) = false := by simpa using hq
          have h2 : (x != y) = true := by simpa using hq
          have HF := Aside.mk (H7.out false (by simp [HU.out hq]))
          clear hq HT HU
          go_wp2_with fail
          go_quiet (fail)
          go_wp2_with fail
          go_ret
          exact ⟨ret_bool HF.out, below_chain BW.out (hp.out.1.trans (below_drewN _ _ _))⟩
      · obtain rfl : i = a.ends.length := by omega
        have H8 := Aside.mk (fun (r : Bool) (hr : r = decide (a.words = b.words)) => H7.out r (by rw [hr, full_extA R2.out hp.out.2]; simp))
        clear H7
        have BR := Aside.mk (below_chain BW.out hp.out.1)
        replace HXA := Aside.mk ((hp.out.1.block _ (lt_of_blk HXA.out)).trans HXA.out)
        replace HXB := Aside.mk ((hp.out.1.block _ (lt_of_blk HXB.out)).trans HXB.out)
        go_wp2_with fail
        clear p0 p1 p2 p3 p4 p5 p6 p7 q0 q1 q2 q3 q4 q5 q6 q7
        clear hp
        go_loopw [6] (fun iv wz => ∃ i : Nat, i ≤ a.words.length ∧ iv = .int .i64 (i : Int) ∧ Aside (Below wr.heap.size wr wz ∧ a.words.take i = b.words.take i)) (fun iv _ => a.words.length - (intOf iv).toNat)
        case atStart => exact ⟨0, by omega, rfl, ⟨Below.refl _ _, rfl⟩⟩
        case round =>
          obtain ⟨i, hi, rfl, hp⟩ := hrel
          obtain ⟨p0, p1, p2, p3, p4, p5, p6, p7⟩ := box8 ((hp.out.1.block _ (lt_of_blk HXA.out)).trans HXA.out)
          obtain ⟨q0, q1, q2, q3, q4, q5, q6, q7⟩ := box8 ((hp.out.1.block _ (lt_of_blk HXB.out)).trans HXB.out)
          by_cases hlt : i < a.words.length
          · have hlt2 : i < b.words.length := by have := R3.out; omega
            have BZ := Aside.mk (below_chain BR.out hp.out.1)
            obtain ⟨ta, tc, hv, ht⟩ := (HR.out.each.below BZ.out).2 i _ (List.getElem?_eq_getElem hlt)
            obtain ⟨ua, uc, hu, hr⟩ := (HR2.out.each.below BZ.out).2 i _ (List.getElem?_eq_getElem hlt2)
            have hvl := HR.out.each.1
            have hul := HR2.out.each.1
            obtain ⟨g1, o1, k1, hs, hel, hecap, hc⟩ := (HR.out.words.below BZ.out).some_ (by omega)
            simp only [Value.slice.injEq, true_and] at hs
            obtain ⟨hs1, hs2⟩ := hs
            obtain ⟨g2, o2, k2, hs, hel2, hecap2, hd⟩ := (HR2.out.words.below BZ.out).some_ (by omega)
            simp only [Value.slice.injEq, true_and] at hs
            obtain ⟨hs3, hs4⟩ := hs
            rw [hs1] at p7
            rw [hs3] at q7
            rw [hs2] at p7
            rw [hs4] at q7
            clear hs1 hs2 hs3 hs4
            have hc2 := hc i _ hv
            have hd2 := hd i _ hu
            have hcA := fun n => conv_any ta _ tc a.words[i] rfl (wr.drewN n) (ht.below (below_drewN _ _ n))
            have hcB := fun n => conv_any ua _ uc b.words[i] rfl (wr.drewN n) (hr.below (below_drewN _ _ n))
            have HDD := Aside.mk (str_eq (HKA.out.words _ (List.getElem_mem hlt)).1 (HKB.out.words _ (List.getElem_mem hlt2)).1)
            have HT := Aside.mk (fun e => take_extA hlt hlt2 hp.out.2 e)
            have HU := Aside.mk (fun e => get_nextA hlt hlt2 e)
            clear hc hd hv hu ht hr
            generalize a.words[i] = x at *
            generalize b.words[i] = y at *
            generalize strOfNums x = sx at *
            generalize strOfNums y = sy at *
            by_cases hq : x = y
            · have h1 := HDD.out
              rw [decide_eq_true hq] at h1
              have h2 : (sx.toList != sy.toList) = false := by rw [bne, h1]; rfl
              have HT2 := Aside.mk (HT.out hq)
              clear hq HT HU
              go_wp2_with fail
              go_quiet (fail)
              go_wp2_with fail
              exact ⟨⟨i + 1, by omega, by simp, ⟨hp.out.1.trans (below_drewN _ _ _), HT2.out⟩⟩, by simp [intOf]; omega⟩
            · have h1 := HDD.out
              rw [decide_eq_false hq] at h1
              have h2 : (sx.toList != sy.toList) = true := by rw [bne, h1]; rfl
              have HF := Aside.mk (H8.out false (by simp [HU.out hq]))
              clear hq HT HU
              go_wp2_with fail
              go_quiet (fail)
              go_wp2_with fail
              go_ret
              exact ⟨ret_bool HF.out, BZ.out.trans (below_drewN _ _ _)⟩
          · obtain rfl : i = a.words.length := by omega
            have HF := Aside.mk (H8.out true (by rw [full_extA R3.out hp.out.2]; simp))
            go_wp2_with fail
            go_ret
            exact ⟨ret_bool HF.out, below_chain BR.out hp.out.1⟩
end Go.Proofs.YtmhjjhaipcgbiaaGreat


namespace Go.Proofs.YtmhjjhaipcgbiaaGreat
open Go.RowKit
set_option linter.unusedVariables false
set_option linter.unusedSimpArgs false
set_option maxRecDepth 100000
set_option maxHeartbeats 1000000
structure W17 (w : World) (base wb : Nat) (ws : List (List Int)) (wv : Value) (vals : List Value) : Prop where
  blk : w.heap[wb]? = some (.cells #[wv] 148 (0, 0))
  bb : base ≤ wb
  row : Own w base 43 1 wv ws.length vals
  len : vals.length = ws.length
  each : WOwn w base ws.length vals ws
  sep : WSep ws.length vals
  bytes : ∀ t ∈ ws, IsBytes t
theorem W17.keptT {w w' : World} {base wb : Nat} {ws : List (List Int)} {wv : Value} {vals : List Value} {S : Nat → Prop} (h : W17 w base wb ws wv vals) (hk : Kept S w w') (h1 : ∀ E : TypeId, E = 148 ∨ E = 43 → ∀ b, S b → b < w.heap.size → ∀ cs, w.heap[b]? ≠ some (.cells cs E (0, 0))) (h2 : ∀ (j : Nat) v, vals[j]? = some v → ∀ b, v.ownBlock = some b → ¬ S b) : W17 w' base wb ws wv vals := by
  refine ⟨(hk.block _ (lt_of_blk h.blk) (fun e => h1 _ (.inl rfl) wb e (lt_of_blk h.blk) _ h.blk)).trans h.blk, h.bb, h.row.keptT hk (h1 _ (.inr rfl)), h.len, fun j t hj ht => ?_, h.sep, h.bytes⟩
  obtain ⟨a, cap, q1, q2⟩ := h.each j t hj ht
  exact ⟨a, cap, q1, q2.kept hk (h2 j _ q1)⟩
theorem W17.below {w w' : World} {base wb : Nat} {ws : List (List Int)} {wv : Value} {vals : List Value} (h : W17 w base wb ws wv vals) (hb : Below w.heap.size w w') : W17 w' base wb ws wv vals :=
  h.keptT (Kept.of_below (S := fun _ => False) hb) (fun _ _ _ e => e.elim) (fun _ _ _ _ _ e => e)
def FindP (ws : List (List Int)) (t : List Int) (w : World) (e : Ending) (w' : World) : Prop :=
  e = .returned (.tuple #[.int .i64 (if ws.contains t then (codeOf ws t : Int) else 0), .bool (ws.contains t)]) ∧ Below w.heap.size w w'
theorem take_not {ws : List (List Int)} {t : List Int} {i : Nat} (hi : i < ws.length) (h : (ws.take i).contains t = false) (e : ws[i] ≠ t) : (ws.take (i + 1)).contains t = false := by
  rw [List.take_succ_eq_append_getElem hi]
  simp only [List.contains_eq_mem, decide_eq_false_iff_not, List.mem_append, List.mem_singleton] at h ⊢
  rintro (h1 | h1)
  · exact h h1
  · exact e h1.symm
theorem code_at {ws : List (List Int)} {t : List Int} {i : Nat} (hi : i < ws.length) (h : (ws.take i).contains t = false) (e : ws[i] = t) : ws.contains t = true ∧ codeOf ws t = i := by
  have hm : t ∈ ws := e ▸ List.getElem_mem hi
  refine ⟨by simpa using hm, ?_⟩
  have hn : t ∉ ws.take i := by simpa using h
  unfold codeOf
  rw [← List.take_append_drop i ws, List.idxOf_append, if_neg hn, List.drop_eq_getElem_cons hi, e]
  simp [List.length_take]
  omega
theorem find17 (base wb : Nat) (ws : List (List Int)) (wv : Value) (vals : List Value) (t : List Int) (ht : IsBytes t) (hw : ws.length ≤ 100000000) (ta : Option Addr) (tc : Nat) (w : World) (h : W17 w base wb ws wv vals) (hr : Rd w 1 (.slice ta t.length tc) t.length (t.map (.int .u8))) :
    Calls Tryz.prog 147 #[.pointer (some ⟨wb, 0, none⟩), .slice ta t.length tc] w (FindP ws t w) := by
  obtain ⟨wa, wc, rfl⟩ := h.row.form
  have H := Aside.mk h
  have HT := Aside.mk ht
  have HR := Aside.mk hr
  clear h ht hr
  generalize htl : t.length = tl at *
  have HTL := Aside.mk htl
  clear htl
  go_enter Tryz.func147, Tryz.ntmps147
  go_wp2
  go_loopw [6] (fun iv wr => ∃ i : Nat, i ≤ ws.length ∧ iv = .int .i64 (i : Int) ∧ Aside (Below w.heap.size w wr ∧ (ws.take i).contains t = false)) (fun iv _ => ws.length - (intOf iv).toNat)
  case atStart => exact ⟨0, by omega, rfl, ⟨Below.refl _ _, by simp⟩⟩
  case round =>
    obtain ⟨i, hi, rfl, hp⟩ := hrel
    have H2 := Aside.mk (H.out.below hp.out.1)
    have c0 := cell_blk (k := 0) H2.out.blk
    simp at c0
    by_cases hlt : i < ws.length
    · obtain ⟨ua, uc, q1, q2⟩ := H2.out.each i _ hlt (List.getElem?_eq_getElem hlt)
      have hvl := H2.out.len
      obtain ⟨g, off, cp, e, h1, h2, hcc⟩ := H2.out.row.rd.some_ (by omega)
      simp only [Value.slice.injEq, true_and] at e
      obtain ⟨e1, e2⟩ := e
      rw [e1, e2] at c0
      have hcu := hcc i _ q1
      have hcA := fun n => conv_any ua _ uc ws[i] rfl (wr.drewN n) (q2.rd.below (below_drewN _ _ n))
      have hcB := fun n => conv_any ta _ tc t HTL.out (wr.drewN n) ((HR.out.below hp.out.1).below (below_drewN _ _ n))
      have HDD := Aside.mk (str_eq (H.out.bytes _ (List.getElem_mem hlt)) HT.out)
      have HN := Aside.mk (fun e => take_not hlt hp.out.2 e)
      have HC := Aside.mk (fun e => code_at hlt hp.out.2 e)
      clear hcc q1 q2 hvl e1 e2
      generalize ws[i] = x at *
      generalize strOfNums x = sx at *
      generalize strOfNums t = sy at *
      by_cases hq : x = t
      · have d1 := HDD.out
        rw [decide_eq_true hq] at d1
        obtain ⟨k1, k2⟩ := HC.out hq
        have HK := Aside.mk (And.intro k1 k2)
        clear hq k1 k2
        go_wp2_with fail
        go_quiet (fail)
        go_wp2_with fail
        go_ret2
        refine ⟨by rw [HK.out.1, HK.out.2]; simp, hp.out.1.trans (below_drewN _ _ _)⟩
      · have d1 := HDD.out
        rw [decide_eq_false hq] at d1
        have HN2 := Aside.mk (HN.out hq)
        clear hq
        go_wp2_with fail
        go_quiet (fail)
        go_wp2_with fail
        exact ⟨⟨i + 1, by omega, by simp, ⟨hp.out.1.trans (below_drewN _ _ _), HN2.out⟩⟩, by simp [intOf]; omega⟩
    · obtain rfl : i = ws.length := by omega
      have hno := hp.out.2
      rw [List.take_length] at hno
      have HNO := Aside.mk hno
      clear hno
      go_wp2_with fail
      go_ret2
      refine ⟨by rw [HNO.out]; simp, hp.out.1⟩
end Go.Proofs.YtmhjjhaipcgbiaaGreat


namespace Go.Proofs.YtmhjjhaipcgbiaaGreat
open Go.RowKit
set_option linter.unusedVariables false
set_option linter.unusedSimpArgs false
set_option maxRecDepth 100000
set_option maxHeartbeats 1000000
def Code17P (base wb : Nat) (ws : List (List Int)) (t : List Int) (wv : Value) (vals : List Value) (w : World) (e : Ending) (w' : World) : Prop :=
  e = .returned (.int .i64 (codeOf ws t : Int)) ∧ ∃ wv' vals', W17 w' base wb (addWord ws t) wv' vals' ∧ Kept (fun b => b = wb ∨ wv.ownBlock = some b) w w' ∧ ∀ v ∈ vals', v ∈ vals ∨ ∀ b, v.ownBlock = some b → w.heap.size ≤ b
theorem below_app_new {w1 w5 : World} {o1 : Obj} {E : TypeId} {sz m : Nat} {news : List Value} {v : Value} (hA : AppP (w1.drew.alloc o1) w1.heap.size E sz (.slice (some ⟨w1.heap.size, 0, none⟩) 0 0) 0 [] m news v w5) : Below w1.heap.size w1 w5 := by
  have hs1 : (w1.drew.alloc o1).heap.size = w1.heap.size + 1 := by show (w1.drew.alloc o1).heap.size = w1.drew.heap.size + 1; simp
  exact (((below_drewN w1 _ 1).alloc (Nat.le_refl _) o1)).trans (below_of_grown hA.grown (Nat.le_trans (Nat.le_succ _) (Nat.le_of_eq hs1.symm)) (fun k e => by
    have e : k = w1.heap.size := by simpa [Value.ownBlock] using e.symm
    exact Nat.le_of_eq e.symm))
theorem code17_end {base wb : Nat} {ws : List (List Int)} {t : List Int} {wv : Value} {vals : List Value} {w w1 w5 w8 : World} {v2 : Value} {a2 : Option Addr} {c2 : Nat} {o1 : Obj} (h : W17 w base wb ws wv vals) (hn : ws.contains t = false) (ht : IsBytes t) (hb : base ≤ w.heap.size) (h1 : Below w.heap.size w w1)
    (hA : AppP (w1.drew.alloc o1) w1.heap.size 5 1 (.slice (some ⟨w1.heap.size, 0, none⟩) 0 0) 0 [] t.length (t.map (.int .u8)) (.slice a2 t.length c2) w5)
    (hA2 : AppP (w5.alloc (.cells #[.slice a2 t.length c2] 43)) base 43 1 wv ws.length vals 1 [.slice a2 t.length c2] v2 w8) :
    ∃ vals', W17 (w8.setCell ⟨wb, 0, none⟩ v2) base wb (addWord ws t) v2 vals' ∧ Kept (fun b => b = wb ∨ wv.ownBlock = some b) w (w8.setCell ⟨wb, 0, none⟩ v2) ∧ ∀ v ∈ vals', v ∈ vals ∨ ∀ b, v.ownBlock = some b → w.heap.size ≤ b := by
  have b5 := below_app_new hA
  have K8 : Kept (fun b => wv.ownBlock = some b) w5 w8 := (Kept.of_below (below_new w5 _)).trans ((Kept.of_grown hA2.grown).mono (fun b e _ => e.symm)) (fun _ e _ => e)
  have h5 := (h.below h1).below b5
  have b05 : Below w.heap.size w w5 := below_chain h1 b5
  have g8 := (K8.block wb (lt_of_blk h5.blk) (fun e => h5.row.blk_ne h5.blk (by decide) e)).trans h5.blk
  have hnew : Own w5 w1.heap.size 5 1 (.slice a2 t.length c2) t.length (t.map (.int .u8)) := by simpa using hA.own
  have hu8 : ∀ {v : Value} {n b0 : Nat} {xs : List Value}, Own w5 b0 5 1 v n xs → Own (w8.setCell ⟨wb, 0, none⟩ v2) b0 5 1 v n xs := fun {v n b0 xs} ho => by
    have h8 := ho.keptT K8 (fun b e _ cs hc => by
      obtain ⟨cur, hg⟩ := own_blk h5.row e
      rw [hg] at hc; cases hc)
    exact h8.set_other (h8.blk_ne g8 (by decide)) _
  refine ⟨vals ++ [.slice a2 t.length c2], ⟨by simpa using heap_setCell_at (k := 0) g8 v2, h.bb, ?_, ?_, ?_, ?_, ?_⟩, ((Kept.of_below (S := fun b => b = wb ∨ wv.ownBlock = some b) b05).trans K8 (fun b e _ => .inr e)).trans (Kept.setCell w8 ⟨wb, 0, none⟩ v2) (fun b e _ => .inl e), ?_⟩
  · rw [addWord_new hn, List.length_append]
    exact hA2.own.set_other (hA2.own.blk_ne g8 (by decide)) _
  · rw [addWord_new hn]; simp [h.len]
  · rw [addWord_new hn]
    intro j u hj hu
    rcases Nat.lt_or_ge j ws.length with hl | hl
    · rw [List.getElem?_append_left hl] at hu
      obtain ⟨a, cap, q1, q2⟩ := h5.each j u hl hu
      exact ⟨a, cap, by rw [List.getElem?_append_left (by rw [h.len]; exact hl)]; exact q1, hu8 q2⟩
    · rw [List.getElem?_append_right hl] at hu
      have h0 : j - ws.length = 0 := by have := (List.getElem?_eq_some_iff.1 hu).1; simp at this; omega
      rw [h0] at hu
      simp at hu
      subst hu
      exact ⟨a2, c2, by rw [List.getElem?_append_right (by rw [h.len]; exact hl), h.len, h0]; rfl, (hu8 hnew).mono (Nat.le_trans hb h1.size)⟩
  · rw [addWord_new hn]
    intro j j' v v' hjj hj hv hv' b e e2
    rw [List.length_append] at hj
    rcases Nat.lt_or_ge j' ws.length with hl | hl
    · rw [List.getElem?_append_left (by rw [h.len]; omega)] at hv hv'
      exact h.sep j j' v v' hjj hl hv hv' b e e2
    · have hj2 : j' = ws.length := by simp at hj; omega
      subst hj2
      rw [List.getElem?_append_left (by rw [h.len]; omega)] at hv
      rw [List.getElem?_append_right (by rw [h.len]; exact Nat.le_refl _), h.len, Nat.sub_self] at hv'
      simp at hv'
      subst hv'
      obtain ⟨a, cap, q1, q2⟩ := h.each j _ hjj (List.getElem?_eq_getElem hjj)
      rw [hv] at q1
      cases q1
      have := (q2.lt b e).2
      have := (hnew.lt b e2).1
      have := h1.size
      omega
  · exact addWord_bytes h.bytes ht
  · intro v hv
    rcases List.mem_append.1 hv with h2 | h2
    · exact .inl h2
    · simp at h2
      subst h2
      exact .inr (fun b e => Nat.le_trans h1.size (hnew.lt b e).1)
theorem code17 (base wb : Nat) (ws : List (List Int)) (wv : Value) (vals : List Value) (t : List Int) (ht : IsBytes t) (htl : t.length ≤ 100000000) (hw : ws.length ≤ 100000000) (ta : Option Addr) (tc : Nat) (w : World) (hb : base ≤ w.heap.size) (h : W17 w base wb ws wv vals) (hr : Rd w 1 (.slice ta t.length tc) t.length (t.map (.int .u8))) :
    Calls Tryz.prog 76 #[.pointer (some ⟨wb, 0, none⟩), .slice ta t.length tc] w (Code17P base wb ws t wv vals w) := by
  have HF := Aside.mk (find17 base wb ws wv vals t ht hw ta tc w h hr)
  obtain ⟨wa, wc, rfl⟩ := h.row.form
  cases hcon : ws.contains t with
  | true =>
    have HC := Aside.mk hcon
    unfold FindP at HF
    rw [hcon] at HF
    simp only [if_true] at HF
    have H := Aside.mk h
    clear h hcon hr
    go_enter Tryz.func76, Tryz.ntmps76
    go_wp2_with (go_at_call 147; refine HF.out.mono ?_; rintro e w1 ⟨rfl, hb1⟩; have HB1 := Aside.mk hb1; clear hb1)
    go_ret
    refine ⟨rfl, .slice wa ws.length wc, vals, ?_, Kept.of_below HB1.out, fun v hv => .inl hv⟩
    rw [addWord_old HC.out]
    exact H.out.below HB1.out
  | false =>
    have HC := Aside.mk hcon
    unfold FindP at HF
    rw [hcon] at HF
    simp only [Bool.false_eq_true, if_false] at HF
    have H := Aside.mk h
    have HR := Aside.mk hr
    have HTB := Aside.mk ht
    clear h hcon hr ht
    generalize hn : t.length = n at *
    have HN := Aside.mk hn
    clear hn
    go_enter Tryz.func76, Tryz.ntmps76
    go_wp2_with (go_at_call 147; refine HF.out.mono ?_; rintro e w1 ⟨rfl, hb1⟩; have HB1 := Aside.mk hb1; clear hb1)
    have H1 := Aside.mk (H.out.below HB1.out)
    have c0 := cell_blk (k := 0) H1.out.blk
    have f0 := fun k => frozen_blk (k := k) H1.out.blk
    have hlt := lt_of_blk H1.out.blk
    simp at c0
    have HR1 := Aside.mk (HR.out.below HB1.out)
    have hbl := HB1.out.size
    go_region_law (first
      | (refine step_app2 (P := Tryz.prog) (w1.drew.alloc (.cells #[] 5)) (.tmp 20) (.tmp 21) 43 43 (by rfl) (by rfl) w1.heap.size 5 (.int .u8 0) 1 1 Tryz.underlying43 u8info (by rfl) (.slice (some ⟨w1.heap.size, 0, none⟩) 0 0) 0 [] (by rfl) (own_empty w1.drew w1.heap.size w1.heap.size 5 1 rfl (Nat.le_refl _)) (.slice ta n tc) n (t.map (.int .u8)) (by rfl) (((HR1.out.below (below_drewN _ _ 1)).below (below_new _ _)).src Tryz.underlying43 (one_map (fun x : Int => Value.int .u8 x) (fun _ => rfl) t)) (by unfold maxLen; omega) (by omega) (by show w1.drew.heap.size ≤ _; simp) ?_; intro v5 w5 hA; obtain ⟨a5, c5, rfl⟩ := hA.own.form; simp only [Nat.zero_add] at hA ⊢; have HB5 := Aside.mk (below_app_new hA); have HA := Aside.mk hA; have H5 := Aside.mk (H1.out.below HB5.out); clear c0 f0 hlt hA; have c0 := cell_blk (k := 0) H5.out.blk; have f0 := fun k => frozen_blk (k := k) H5.out.blk; have hlt := lt_of_blk H5.out.blk; simp at c0)
      | (refine step_app2 (P := Tryz.prog) (w5.alloc (.cells #[.slice a5 n c5] 43)) (.tmp 19) (.tmp 23) 37 37 (by rfl) (by rfl) base 43 (.slice none 0 0) 1 24 Tryz.underlying37 bytesinfo (by rfl) (.slice wa ws.length wc) ws.length vals (by rfl) (H5.out.row.alloc _) (.slice (some ⟨w5.heap.size, 0, none⟩) 1 1) 1 [.slice a5 n c5] (by rfl) (src_one Tryz.underlying37 _ _ _ rfl rfl) (by unfold maxLen; omega) (by omega) (by have := HB5.out.size; simp; omega) ?_; intro v8 w8 hA; obtain ⟨a8, c8, rfl⟩ := hA.own.form; have K8 := Aside.mk (show Kept (fun b => (Value.slice wa ws.length wc).ownBlock = some b) w5 w8 from (Kept.of_below (below_new w5 _)).trans ((Kept.of_grown hA.grown).mono (fun b e _ => e.symm)) (fun _ e _ => e)); have g8 := (K8.out.block wb hlt (fun e => H5.out.row.blk_ne H5.out.blk (by decide) e)).trans H5.out.blk; clear c0 f0 hlt; have c0 := cell_blk (k := 0) g8; have f0 := fun k => frozen_blk (k := k) g8; simp at c0; have HA2 := Aside.mk hA; clear hA g8))
    all_goals
      obtain ⟨vals', r1, r2, r3⟩ := code17_end H.out HC.out HTB.out hb HB1.out (by rw [HN.out]; exact HA.out) (by rw [HN.out]; exact HA2.out)
      have HE := Aside.mk (And.intro r1 (And.intro r2 r3))
      have hcd := codeOf_new HC.out
      have HCD := Aside.mk hcd
      have q0 := cell_blk (k := 0) r1.blk
      simp at q0
      clear r1 r2 r3 hcd c0
      go_wp2_with fail
      go_ret
      exact ⟨ret_int (by rw [HCD.out]), _, vals', HE.out.1, HE.out.2.1, HE.out.2.2⟩
end Go.Proofs.YtmhjjhaipcgbiaaGreat
