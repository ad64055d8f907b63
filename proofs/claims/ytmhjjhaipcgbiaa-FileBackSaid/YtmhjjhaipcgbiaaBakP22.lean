/- Texts of this claim, one behind the other: EqC, Fq, Sl. -/
import Derived.Test.YtmhjjhaipcgbiaaBakP19
import Derived.Test.YtmhjjhaipcgbiaaBakP21
import Derived.Test.YtmhjjhaipcgbiaaBakP1

namespace Go.Proofs.Ytmhjjhaipcgbiaa
open Go.RowKit
set_option linter.unusedVariables false
set_option linter.unusedSimpArgs false
set_option maxRecDepth 100000
set_option maxHeartbeats 4000000
theorem str_eq {xs ys : List Int} (hx : IsBytes xs) (hy : IsBytes ys) : ((strOfNums xs).toList == (strOfNums ys).toList) = decide (xs = ys) := by
  rw [Bool.eq_iff_iff, beq_iff_eq, decide_eq_true_eq, ByteArray.toList_eq, ByteArray.toList_eq, strOfNums_data, strOfNums_data]
  exact ⟨map_byte_inj xs ys hx hy, fun h => by rw [h]⟩
theorem same16 (m1 m2 : Int) (xs ys : List Int) (A B : SL) (hx : IsBytes xs) (hy : IsBytes ys) (w : World) (ha : Rd w 1 (.slice A.a xs.length A.c) xs.length (xs.map (.int .u8))) (hb : Rd w 1 (.slice B.a ys.length B.c) ys.length (ys.map (.int .u8))) :
    Calls Try.prog 61 #[.agg #[.int .i64 m1, .slice A.a xs.length A.c], .agg #[.int .i64 m2, .slice B.a ys.length B.c]] w (BoolP (decide (m1 = m2) && decide (xs = ys)) w) := by
  have BW := Aside.mk ((below_new w (.cells #[.int .i64 m1, .slice A.a xs.length A.c] 39)).trans ((below_new _ (.cells #[.int .i64 m2, .slice B.a ys.length B.c] 39)).mono (by simp)))
  have h1 := conv_any A.a _ A.c xs rfl _ (ha.below BW.out)
  have h2 := conv_any B.a _ B.c ys rfl _ (hb.below BW.out)
  have hd := str_eq hx hy
  clear ha hb
  generalize strOfNums xs = sx at *
  generalize strOfNums ys = sy at *
  generalize decide (xs = ys) = r at *
  generalize xs.length = n at *
  generalize ys.length = m at *
  by_cases e : m1 = m2
  · have e1 : (m1 == m2) = true := by simpa using e
    have HF := Aside.mk (show (sx.toList == sy.toList) = (decide (m1 = m2) && r) by rw [hd]; simp [e])
    clear e hd
    go_enter Try.func61, Try.ntmps61
    go_wp2
    go_ret
    exact ⟨ret_bool HF.out, BW.out⟩
  · have e1 : (m1 == m2) = false := by simpa using e
    have HF := Aside.mk (show false = (decide (m1 = m2) && r) by simp [e])
    clear e hd
    go_enter Try.func61, Try.ntmps61
    go_wp2
    go_ret
    exact ⟨ret_bool HF.out, BW.out⟩
def equalC (a b : Col) : Bool := decide (a.k = b.k ∧ a.s = b.s ∧ a.n = b.n ∧ a.m = b.m ∧ a.bits = b.bits ∧ a.data = b.data ∧ a.ends = b.ends ∧ a.words = b.words)
theorem take_extA {α : Type} {xs ys : List α} {i : Nat} (h1 : i < xs.length) (h2 : i < ys.length) (h : xs.take i = ys.take i) (e : xs[i] = ys[i]) : xs.take (i + 1) = ys.take (i + 1) := by
  rw [List.take_succ_eq_append_getElem h1, List.take_succ_eq_append_getElem h2, h, e]
theorem full_extA {α : Type} {xs ys : List α} (hl : xs.length = ys.length) (h : xs.take xs.length = ys.take xs.length) : xs = ys := by
  rw [List.take_length, hl, List.take_length] at h
  exact h
theorem get_nextA {α : Type} {xs ys : List α} {i : Nat} (h1 : i < xs.length) (h2 : i < ys.length) (e : xs[i] ≠ ys[i]) : xs ≠ ys := fun h => e (by subst h; rfl)
theorem equal_col (a b : Col) (ha : COK a) (hb : COK b) (B D E X B2 D2 E2 X2 : SL) (va vb : List Value) (w : World) (h : RdC w a B D E X va) (h2 : RdC w b B2 D2 E2 X2 vb) :
    Calls Try.prog 24 #[colV a B D E X, colV b B2 D2 E2 X2] w (BoolP (equalC a b) w) := by
  have BW := Aside.mk ((below_new w (.cells #[.int .i64 a.k, .int .i64 a.s, .int .i64 a.n, .int .i64 a.m, .slice B.a a.bits.length B.c, .slice D.a a.data.length D.c, .slice E.a a.ends.length E.c, .slice X.a a.words.length X.c] 43)).trans ((below_new _ (.cells #[.int .i64 b.k, .int .i64 b.s, .int .i64 b.n, .int .i64 b.m, .slice B2.a b.bits.length B2.c, .slice D2.a b.data.length D2.c, .slice E2.a b.ends.length E2.c, .slice X2.a b.words.length X2.c] 43)).mono (by simp)))
  have HXA := Aside.mk (show ((w.alloc (.cells #[.int .i64 a.k, .int .i64 a.s, .int .i64 a.n, .int .i64 a.m, .slice B.a a.bits.length B.c, .slice D.a a.data.length D.c, .slice E.a a.ends.length E.c, .slice X.a a.words.length X.c] 43)).alloc (.cells #[.int .i64 b.k, .int .i64 b.s, .int .i64 b.n, .int .i64 b.m, .slice B2.a b.bits.length B2.c, .slice D2.a b.data.length D2.c, .slice E2.a b.ends.length E2.c, .slice X2.a b.words.length X2.c] 43)).heap[w.heap.size]? = some (.cells #[.int .i64 a.k, .int .i64 a.s, .int .i64 a.n, .int .i64 a.m, .slice B.a a.bits.length B.c, .slice D.a a.data.length D.c, .slice E.a a.ends.length E.c, .slice X.a a.words.length X.c] 43 (0, 0)) by
    rw [Below.heap_alloc _ _ _ (by simp)]; exact heap_alloc_new w _)
  have HXB := Aside.mk (show ((w.alloc (.cells #[.int .i64 a.k, .int .i64 a.s, .int .i64 a.n, .int .i64 a.m, .slice B.a a.bits.length B.c, .slice D.a a.data.length D.c, .slice E.a a.ends.length E.c, .slice X.a a.words.length X.c] 43)).alloc (.cells #[.int .i64 b.k, .int .i64 b.s, .int .i64 b.n, .int .i64 b.m, .slice B2.a b.bits.length B2.c, .slice D2.a b.data.length D2.c, .slice E2.a b.ends.length E2.c, .slice X2.a b.words.length X2.c] 43)).heap[w.heap.size + 1]? = some (.cells #[.int .i64 b.k, .int .i64 b.s, .int .i64 b.n, .int .i64 b.m, .slice B2.a b.bits.length B2.c, .slice D2.a b.data.length D2.c, .slice E2.a b.ends.length E2.c, .slice X2.a b.words.length X2.c] 43 (0, 0)) by
    simpa using heap_alloc_new (w.alloc (.cells #[.int .i64 a.k, .int .i64 a.s, .int .i64 a.n, .int .i64 a.m, .slice B.a a.bits.length B.c, .slice D.a a.data.length D.c, .slice E.a a.ends.length E.c, .slice X.a a.words.length X.c] 43)) (.cells #[.int .i64 b.k, .int .i64 b.s, .int .i64 b.n, .int .i64 b.m, .slice B2.a b.bits.length B2.c, .slice D2.a b.data.length D2.c, .slice E2.a b.ends.length E2.c, .slice X2.a b.words.length X2.c] 43))
  have HSM := Aside.mk (same16 a.m b.m a.bits b.bits B B2 ha.bits hb.bits _ (h.bits.below BW.out) (h2.bits.below BW.out))
  have HCA := Aside.mk (fun (w2 : World) (hw : Below w.heap.size w w2) => conv_any D.a _ D.c a.data rfl w2 (h.data.below hw))
  have HCB := Aside.mk (fun (w2 : World) (hw : Below w.heap.size w w2) => conv_any D2.a _ D2.c b.data rfl w2 (h2.data.below hw))
  have HDD := Aside.mk (str_eq ha.data hb.data)
  have HS := Aside.mk (show equalC a b = decide (a.k = b.k ∧ a.s = b.s ∧ a.n = b.n ∧ a.m = b.m ∧ a.bits = b.bits ∧ a.data = b.data ∧ a.ends = b.ends ∧ a.words = b.words) from rfl)
  have HR := Aside.mk h
  have HR2 := Aside.mk h2
  have HKA := Aside.mk ha
  have HKB := Aside.mk hb
  clear h h2 ha hb
  dsimp only [colV]
  by_cases q1 : a.k = b.k
  rotate_left
  · have HF := Aside.mk (show false = equalC a b by rw [HS.out]; simp [q1])
    have q1' : (a.k == b.k) = false := by simpa using q1
    have q1'' : (a.k != b.k) = true := by simpa using q1
    clear q1
    go_enter Try.func24, Try.ntmps24; go_wp2_with (go_at_call 61; refine HSM.out.mono ?_; rintro e w2 ⟨rfl, hb2⟩; replace BW := Aside.mk (below_chain BW.out hb2); have hda := HCA.out _ BW.out; have hdb := HCB.out _ BW.out; replace HXA := Aside.mk ((hb2.block _ (lt_of_blk HXA.out)).trans HXA.out); replace HXB := Aside.mk ((hb2.block _ (lt_of_blk HXB.out)).trans HXB.out); obtain ⟨p0, p1, p2, p3, p4, p5, p6, p7⟩ := box8 HXA.out; obtain ⟨q0, q1, q2, q3, q4, q5, q6, q7⟩ := box8 HXB.out; clear hb2); go_ret; exact ⟨ret_bool HF.out, BW.out⟩
  simp only [q1] at BW HXA HXB HSM ⊢
  by_cases q2 : a.s = b.s
  rotate_left
  · have HF := Aside.mk (show false = equalC a b by rw [HS.out]; simp [q2])
    have q2' : (a.s == b.s) = false := by simpa using q2
    have q2'' : (a.s != b.s) = true := by simpa using q2
    clear q2
    go_enter Try.func24, Try.ntmps24; go_wp2_with (go_at_call 61; refine HSM.out.mono ?_; rintro e w2 ⟨rfl, hb2⟩; replace BW := Aside.mk (below_chain BW.out hb2); have hda := HCA.out _ BW.out; have hdb := HCB.out _ BW.out; replace HXA := Aside.mk ((hb2.block _ (lt_of_blk HXA.out)).trans HXA.out); replace HXB := Aside.mk ((hb2.block _ (lt_of_blk HXB.out)).trans HXB.out); obtain ⟨p0, p1, p2, p3, p4, p5, p6, p7⟩ := box8 HXA.out; obtain ⟨q0, q1, q2, q3, q4, q5, q6, q7⟩ := box8 HXB.out; clear hb2); go_ret; exact ⟨ret_bool HF.out, BW.out⟩
  simp only [q2] at BW HXA HXB HSM ⊢
  by_cases q3 : a.n = b.n
  rotate_left
  · have HF := Aside.mk (show false = equalC a b by rw [HS.out]; simp [q3])
    have q3' : (a.n == b.n) = false := by simpa using q3
    have q3'' : (a.n != b.n) = true := by simpa using q3
    clear q3
    go_enter Try.func24, Try.ntmps24; go_wp2_with (go_at_call 61; refine HSM.out.mono ?_; rintro e w2 ⟨rfl, hb2⟩; replace BW := Aside.mk (below_chain BW.out hb2); have hda := HCA.out _ BW.out; have hdb := HCB.out _ BW.out; replace HXA := Aside.mk ((hb2.block _ (lt_of_blk HXA.out)).trans HXA.out); replace HXB := Aside.mk ((hb2.block _ (lt_of_blk HXB.out)).trans HXB.out); obtain ⟨p0, p1, p2, p3, p4, p5, p6, p7⟩ := box8 HXA.out; obtain ⟨q0, q1, q2, q3, q4, q5, q6, q7⟩ := box8 HXB.out; clear hb2); go_ret; exact ⟨ret_bool HF.out, BW.out⟩
  simp only [q3] at BW HXA HXB HSM ⊢
  obtain ⟨tm, htm⟩ : ∃ tm, tm = (decide (a.m = b.m) && decide (a.bits = b.bits)) := ⟨_, rfl⟩
  rw [← htm] at HSM
  have H6 := Aside.mk (fun (r : Bool) (hr : r = (tm && (decide (a.data = b.data) && (decide (a.ends = b.ends) && decide (a.words = b.words))))) => show r = equalC a b by
    rw [HS.out, hr, htm, Bool.eq_iff_iff]
    simp [q1, q2, q3, and_assoc])
  clear q1 q2 q3 htm
  cases tm with
  | false =>
    have HF := Aside.mk (H6.out false (by simp))
    go_enter Try.func24, Try.ntmps24; go_wp2_with (go_at_call 61; refine HSM.out.mono ?_; rintro e w2 ⟨rfl, hb2⟩; replace BW := Aside.mk (below_chain BW.out hb2); have hda := HCA.out _ BW.out; have hdb := HCB.out _ BW.out; replace HXA := Aside.mk ((hb2.block _ (lt_of_blk HXA.out)).trans HXA.out); replace HXB := Aside.mk ((hb2.block _ (lt_of_blk HXB.out)).trans HXB.out); obtain ⟨p0, p1, p2, p3, p4, p5, p6, p7⟩ := box8 HXA.out; obtain ⟨q0, q1, q2, q3, q4, q5, q6, q7⟩ := box8 HXB.out; clear hb2); go_ret; exact ⟨ret_bool HF.out, BW.out⟩
  | true =>
    by_cases r1 : a.data = b.data
    rotate_left
    · have HF := Aside.mk (H6.out false (by simp [r1]))
      have e1 := HDD.out
      rw [decide_eq_false r1] at e1
      have e2 : ((strOfNums a.data).toList != (strOfNums b.data).toList) = true := by rw [bne, e1]; rfl
      clear r1
      generalize strOfNums a.data = sx at *
      generalize strOfNums b.data = sy at *
      go_enter Try.func24, Try.ntmps24; go_wp2_with (go_at_call 61; refine HSM.out.mono ?_; rintro e w2 ⟨rfl, hb2⟩; replace BW := Aside.mk (below_chain BW.out hb2); have hda := HCA.out _ BW.out; have hdb := HCB.out _ BW.out; replace HXA := Aside.mk ((hb2.block _ (lt_of_blk HXA.out)).trans HXA.out); replace HXB := Aside.mk ((hb2.block _ (lt_of_blk HXB.out)).trans HXB.out); obtain ⟨p0, p1, p2, p3, p4, p5, p6, p7⟩ := box8 HXA.out; obtain ⟨q0, q1, q2, q3, q4, q5, q6, q7⟩ := box8 HXB.out; clear hb2); go_ret; exact ⟨ret_bool HF.out, BW.out⟩
    have e1 := HDD.out
    rw [decide_eq_true r1] at e1
    have e2 : ((strOfNums a.data).toList != (strOfNums b.data).toList) = false := by rw [bne, e1]; rfl
    have H7 := Aside.mk (fun (r : Bool) (hr : r = (decide (a.ends = b.ends) && decide (a.words = b.words))) => H6.out r (by rw [hr]; simp [r1]))
    clear r1 H6 HDD
    generalize strOfNums a.data = sx at *
    generalize strOfNums b.data = sy at *
    by_cases r2 : a.ends.length = b.ends.length
    rotate_left
    · have HF := Aside.mk (H7.out false (by rw [decide_eq_false (fun e => r2 (by rw [e]))]; simp))
      have f1 : ((a.ends.length : Int) == (b.ends.length : Int)) = false := by rw [beq_eq_false_iff_ne]; omega
      have f2 : ((a.ends.length : Int) != (b.ends.length : Int)) = true := by rw [bne, f1]; rfl
      clear r2
      go_enter Try.func24, Try.ntmps24; go_wp2_with (go_at_call 61; refine HSM.out.mono ?_; rintro e w2 ⟨rfl, hb2⟩; replace BW := Aside.mk (below_chain BW.out hb2); have hda := HCA.out _ BW.out; have hdb := HCB.out _ BW.out; replace HXA := Aside.mk ((hb2.block _ (lt_of_blk HXA.out)).trans HXA.out); replace HXB := Aside.mk ((hb2.block _ (lt_of_blk HXB.out)).trans HXB.out); obtain ⟨p0, p1, p2, p3, p4, p5, p6, p7⟩ := box8 HXA.out; obtain ⟨q0, q1, q2, q3, q4, q5, q6, q7⟩ := box8 HXB.out; clear hb2); go_ret; exact ⟨ret_bool HF.out, BW.out⟩
    have f1 : ((a.ends.length : Int) == (b.ends.length : Int)) = true := by rw [beq_iff_eq]; omega
    have f2 : ((a.ends.length : Int) != (b.ends.length : Int)) = false := by rw [bne, f1]; rfl
    by_cases r3 : a.words.length = b.words.length
    rotate_left
    · have HF := Aside.mk (H7.out false (by rw [decide_eq_false (fun e => r3 (by rw [e]) : ¬ a.words = b.words)]; simp))
      have g1 : ((a.words.length : Int) == (b.words.length : Int)) = false := by rw [beq_eq_false_iff_ne]; omega
      have g2 : ((a.words.length : Int) != (b.words.length : Int)) = true := by rw [bne, g1]; rfl
      clear r2 r3
      go_enter Try.func24, Try.ntmps24; go_wp2_with (go_at_call 61; refine HSM.out.mono ?_; rintro e w2 ⟨rfl, hb2⟩; replace BW := Aside.mk (below_chain BW.out hb2); have hda := HCA.out _ BW.out; have hdb := HCB.out _ BW.out; replace HXA := Aside.mk ((hb2.block _ (lt_of_blk HXA.out)).trans HXA.out); replace HXB := Aside.mk ((hb2.block _ (lt_of_blk HXB.out)).trans HXB.out); obtain ⟨p0, p1, p2, p3, p4, p5, p6, p7⟩ := box8 HXA.out; obtain ⟨q0, q1, q2, q3, q4, q5, q6, q7⟩ := box8 HXB.out; clear hb2); go_ret; exact ⟨ret_bool HF.out, BW.out⟩
    have g1 : ((a.words.length : Int) == (b.words.length : Int)) = true := by rw [beq_iff_eq]; omega
    have g2 : ((a.words.length : Int) != (b.words.length : Int)) = false := by rw [bne, g1]; rfl
    have R2 := Aside.mk r2
    have R3 := Aside.mk r3
    have hle := HKA.out.le
    have hlw := HKA.out.lw
    clear r2 r3
    go_enter Try.func24, Try.ntmps24
    go_wp2_with (go_at_call 61; refine HSM.out.mono ?_; rintro e w2 ⟨rfl, hb2⟩; replace BW := Aside.mk (below_chain BW.out hb2); have hda := HCA.out _ BW.out; have hdb := HCB.out _ BW.out; replace HXA := Aside.mk ((hb2.block _ (lt_of_blk HXA.out)).trans HXA.out); replace HXB := Aside.mk ((hb2.block _ (lt_of_blk HXB.out)).trans HXB.out); obtain ⟨p0, p1, p2, p3, p4, p5, p6, p7⟩ := box8 HXA.out; obtain ⟨q0, q1, q2, q3, q4, q5, q6, q7⟩ := box8 HXB.out; clear hb2)
    clear p0 p1 p2 p3 p4 p5 p6 p7 q0 q1 q2 q3 q4 q5 q6 q7 hda hdb HCA HCB f1 f2 g1 g2 e1 e2
    go_loopw [5] (fun iv wr => ∃ i : Nat, i ≤ a.ends.length ∧ iv = .int .i64 (i : Int) ∧ Aside (Below w2.heap.size w2 wr ∧ a.ends.take i = b.ends.take i)) (fun iv _ => a.ends.length - (intOf iv).toNat)
    case atStart => exact ⟨0, by omega, rfl, ⟨Below.refl _ _, rfl⟩⟩
    case round =>
      obtain ⟨i, hi, rfl, hp⟩ := hrel
      obtain ⟨p0, p1, p2, p3, p4, p5, p6, p7⟩ := box8 ((hp.out.1.block _ (lt_of_blk HXA.out)).trans HXA.out)
      obtain ⟨q0, q1, q2, q3, q4, q5, q6, q7⟩ := box8 ((hp.out.1.block _ (lt_of_blk HXB.out)).trans HXB.out)
      by_cases hlt : i < a.ends.length
      · have hlt2 : i < b.ends.length := by have := R2.out; omega
        obtain ⟨g1, o1, k1, hs, hel, hecap, hc⟩ := rd_get (HR.out.ends.below (below_chain BW.out hp.out.1)) i hlt
        simp only [Value.slice.injEq, true_and] at hs
        obtain ⟨hs1, hs2⟩ := hs
        obtain ⟨g2, o2, k2, hs, hel2, hecap2, hd⟩ := rd_get (HR2.out.ends.below (below_chain BW.out hp.out.1)) i hlt2
        simp only [Value.slice.injEq, true_and] at hs
        obtain ⟨hs3, hs4⟩ := hs
        rw [hs1] at p6
        rw [hs3] at q6
        rw [hs2] at p6
        rw [hs4] at q6
        clear hs1 hs2 hs3 hs4
        have hx : a.ends.getD i 0 = a.ends[i] := by simp [List.getD_eq_getElem?_getD, hlt]
        have hy : b.ends.getD i 0 = b.ends[i] := by simp [List.getD_eq_getElem?_getD, hlt2]
        rw [hx] at hc
        rw [hy] at hd
        have HT := Aside.mk (fun e => take_extA hlt hlt2 hp.out.2 e)
        have HU := Aside.mk (fun e => get_nextA hlt hlt2 e)
        clear hx hy
        generalize a.ends[i] = x at *
        generalize b.ends[i] = y at *
        by_cases hq : x = y
        · have h1 : (x == y) = true := by simpa using hq
          have h2 : (x != y) = false := by simpa using hq
          have HT2 := Aside.mk (HT.out hq)
          clear hq HT HU
          go_wp2_with fail
          go_quiet (fail)
          go_wp2_with fail
          exact ⟨⟨i + 1, by omega, by simp, ⟨hp.out.1.trans (below_drewN _ _ _), HT2.out⟩⟩, by simp [intOf]; omega⟩
        · have h1 : (x == y) = false := by simpa using hq
          have h2 : (x != y) = true := by simpa using hq
          have HF := Aside.mk (H7.out false (by simp [HU.out hq]))
          clear hq HT HU
          go_wp2_with fail
          go_quiet (fail)
          go_wp2_with fail
          go_ret
          exact ⟨ret_bool HF.out, below_chain BW.out (hp.out.1.trans (below_drewN _ _ _))⟩
      · obtain rfl : i = a.ends.length := by omega
        have H8 := Aside.mk (fun (r : Bool) (hr : r = decide (a.words = b.words)) => H7.out r (by rw [hr, full_extA R2.out hp.out.2]; simp))
        clear H7
        have BR := Aside.mk (below_chain BW.out hp.out.1)
        replace HXA := Aside.mk ((hp.out.1.block _ (lt_of_blk HXA.out)).trans HXA.out)
        replace HXB := Aside.mk ((hp.out.1.block _ (lt_of_blk HXB.out)).trans HXB.out)
        go_wp2_with fail
        clear p0 p1 p2 p3 p4 p5 p6 p7 q0 q1 q2 q3 q4 q5 q6 q7
        clear hp
        go_loopw [6] (fun iv wz => ∃ i : Nat, i ≤ a.words.length ∧ iv = .int .i64 (i : Int) ∧ Aside (Below wr.heap.size wr wz ∧ a.words.take i = b.words.take i)) (fun iv _ => a.words.length - (intOf iv).toNat)
        case atStart => exact ⟨0, by omega, rfl, ⟨Below.refl _ _, rfl⟩⟩
        case round =>
          obtain ⟨i, hi, rfl, hp⟩ := hrel
          obtain ⟨p0, p1, p2, p3, p4, p5, p6, p7⟩ := box8 ((hp.out.1.block _ (lt_of_blk HXA.out)).trans HXA.out)
          obtain ⟨q0, q1, q2, q3, q4, q5, q6, q7⟩ := box8 ((hp.out.1.block _ (lt_of_blk HXB.out)).trans HXB.out)
          by_cases hlt : i < a.words.length
          · have hlt2 : i < b.words.length := by have := R3.out; omega
            have BZ := Aside.mk (below_chain BR.out hp.out.1)
            obtain ⟨ta, tc, hv, ht⟩ := (HR.out.each.below BZ.out).2 i _ (List.getElem?_eq_getElem hlt)
            obtain ⟨ua, uc, hu, hr⟩ := (HR2.out.each.below BZ.out).2 i _ (List.getElem?_eq_getElem hlt2)
            have hvl := HR.out.each.1
            have hul := HR2.out.each.1
            obtain ⟨g1, o1, k1, hs, hel, hecap, hc⟩ := (HR.out.words.below BZ.out).some_ (by omega)
            simp only [Value.slice.injEq, true_and] at hs
            obtain ⟨hs1, hs2⟩ := hs
            obtain ⟨g2, o2, k2, hs, hel2, hecap2, hd⟩ := (HR2.out.words.below BZ.out).some_ (by omega)
            simp only [Value.slice.injEq, true_and] at hs
            obtain ⟨hs3, hs4⟩ := hs
            rw [hs1] at p7
            rw [hs3] at q7
            rw [hs2] at p7
            rw [hs4] at q7
            clear hs1 hs2 hs3 hs4
            have hc2 := hc i _ hv
            have hd2 := hd i _ hu
            have hcA := fun n => conv_any ta _ tc a.words[i] rfl (wr.drewN n) (ht.below (below_drewN _ _ n))
            have hcB := fun n => conv_any ua _ uc b.words[i] rfl (wr.drewN n) (hr.below (below_drewN _ _ n))
            have HDD := Aside.mk (str_eq (HKA.out.words _ (List.getElem_mem hlt)).1 (HKB.out.words _ (List.getElem_mem hlt2)).1)
            have HT := Aside.mk (fun e => take_extA hlt hlt2 hp.out.2 e)
            have HU := Aside.mk (fun e => get_nextA hlt hlt2 e)
            clear hc hd hv hu ht hr
            generalize a.words[i] = x at *
            generalize b.words[i] = y at *
            generalize strOfNums x = sx at *
            generalize strOfNums y = sy at *
            by_cases hq : x = y
            · have h1 := HDD.out
              rw [decide_eq_true hq] at h1
              have h2 : (sx.toList != sy.toList) = false := by rw [bne, h1]; rfl
              have HT2 := Aside.mk (HT.out hq)
              clear hq HT HU
              go_wp2_with fail
              go_quiet (fail)
              go_wp2_with fail
              exact ⟨⟨i + 1, by omega, by simp, ⟨hp.out.1.trans (below_drewN _ _ _), HT2.out⟩⟩, by simp [intOf]; omega⟩
            · have h1 := HDD.out
              rw [decide_eq_false hq] at h1
              have h2 : (sx.toList != sy.toList) = true := by rw [bne, h1]; rfl
              have HF := Aside.mk (H8.out false (by simp [HU.out hq]))
              clear hq HT HU
              go_wp2_with fail
              go_quiet (fail)
              go_wp2_with fail
              go_ret
              exact ⟨ret_bool HF.out, BZ.out.trans (below_drewN _ _ _)⟩
          · obtain rfl : i = a.words.length := by omega
            have HF := Aside.mk (H8.out true (by rw [full_extA R3.out hp.out.2]; simp))
            go_wp2_with fail
            go_ret
            exact ⟨ret_bool HF.out, below_chain BR.out hp.out.1⟩
end Go.Proofs.Ytmhjjhaipcgbiaa


namespace Go.Proofs.Ytmhjjhaipcgbiaa
open Go.RowKit
set_option linter.unusedVariables false
set_option linter.unusedSimpArgs false
set_option maxRecDepth 100000
set_option maxHeartbeats 1000000
theorem bequal_any (xs ys : List Int) (A B : SL) (hx : IsBytes xs) (hy : IsBytes ys) (w : World) (ha : Rd w 1 (.slice A.a xs.length A.c) xs.length (xs.map (.int .u8))) (hb : Rd w 1 (.slice B.a ys.length B.c) ys.length (ys.map (.int .u8))) :
    Calls Try.prog 79 #[.slice A.a xs.length A.c, .slice B.a ys.length B.c] w (BoolP (decide (xs = ys)) w) := by
  have h1 := conv_any A.a _ A.c xs rfl _ ha
  have h2 := conv_any B.a _ B.c ys rfl _ hb
  have hd := str_eq hx hy
  clear ha hb
  go_enter Try.func79, Try.ntmps79
  go_wp2
  go_ret
  exact ⟨ret_bool rfl, Below.refl _ _⟩
end Go.Proofs.Ytmhjjhaipcgbiaa


namespace Go.Proofs.Ytmhjjhaipcgbiaa
open Go.RowKit
set_option linter.unusedSimpArgs false
def cutA (a : Option Addr) (c i sz : Nat) : Option Addr := if c = i then a else a.map (·.add (i * sz))
section
variable {P : Program} {T e : TypeId} {sz : Nat}
theorem run_slice_to (hT : P.underlying T = some (.slice e)) (hs : (P.info? e).map (·.size) = some sz) (a : Option Addr) (n c j : Nat) (hjc : j ≤ c) (w : World) :
    (Instr.slice T (.slice a n c) none (some (.int .i64 (j : Int))) none).run P w = .ok (.slice (cutA a c 0 sz) (j - 0) (c - 0)) w := by
  obtain ⟨inf, hi, hz⟩ := Option.map_eq_some_iff.1 hs
  simp [Instr.slice, Instr.sliceBounds, Instr.sliceBound, run_underlying hT, sizeOf, typeInfo, hi, hz, asIntOf, go_sem, hjc, cutA]
theorem run_slice_from (hT : P.underlying T = some (.slice e)) (hs : (P.info? e).map (·.size) = some sz) (a : Option Addr) (n c i : Nat) (hin : i ≤ n) (w : World) :
    (Instr.slice T (.slice a n c) (some (.int .i64 (i : Int))) none none).run P w = .ok (.slice (cutA a c i sz) (n - i) (c - i)) w := by
  obtain ⟨inf, hi, hz⟩ := Option.map_eq_some_iff.1 hs
  simp [Instr.slice, Instr.sliceBounds, Instr.sliceBound, run_underlying hT, sizeOf, typeInfo, hi, hz, asIntOf, go_sem, hin, cutA]
end
theorem Rd.mid {w : World} {sz n c : Nat} {a : Option Addr} {xs : List Value} (h : Rd w sz (.slice a n c) n xs) {i j : Nat} (hij : i ≤ j) (hjn : j ≤ n) : Rd w sz (.slice (cutA a c i sz) (j - i) (c - i)) (j - i) ((xs.drop (i * sz)).take ((j - i) * sz)) := by
  obtain ⟨hl, a', cap, e, h1, h2, h3, h4⟩ := h
  simp only [Value.slice.injEq, true_and] at e
  obtain ⟨rfl, rfl⟩ := e
  have hi2 : i * sz + (j - i) * sz = j * sz := by rw [← Nat.add_mul]; congr 1; omega
  have hj2 : j * sz ≤ n * sz := Nat.mul_le_mul_right _ hjn
  refine ⟨by rw [List.length_take, List.length_drop, hl]; omega, _, _, rfl, by omega, by omega, fun ea => ?_, fun k u hu => ?_⟩
  · unfold cutA at ea
    split at ea
    · have := h3 ea; omega
    · have := h3 (by simpa using ea); omega
  · have hk := (List.getElem?_eq_some_iff.1 hu).1
    rw [List.length_take, List.length_drop] at hk
    rw [List.getElem?_take, if_pos (by omega), List.getElem?_drop] at hu
    obtain ⟨b, off, rfl, hc⟩ := h4 _ u hu
    have hci : c ≠ i := by
      intro e
      have : j - i = 0 := by omega
      rw [this] at hk; omega
    refine ⟨b, off + i * sz, ?_, by rw [Nat.add_assoc]; exact hc⟩
    rw [cutA, if_neg hci]
    simp [addr_add]
theorem Own.mid {w : World} {base : Nat} {E : TypeId} {sz n c : Nat} {a : Option Addr} {xs : List Value} (h : Own w base E sz (.slice a n c) n xs) {i j : Nat} (hij : i ≤ j) (hjn : j ≤ n) : Own w base E sz (.slice (cutA a c i sz) (j - i) (c - i)) (j - i) ((xs.drop (i * sz)).take ((j - i) * sz)) ∨ (j - i = 0 ∧ c = i) := by
  rcases h.2 with ⟨e, hn⟩ | ⟨g, off, cap, cur, e, _⟩
  · simp only [Value.slice.injEq] at e
    exact .inr ⟨by omega, by omega⟩
  · simp only [Value.slice.injEq, true_and] at e
    obtain ⟨rfl, rfl⟩ := e
    by_cases hci : c = i
    · have hnc : n ≤ c := by
        rcases h.2 with ⟨e, _⟩ | ⟨_, _, _, _, e, _, _, h5, _⟩
        · cases e
        · cases e; exact h5
      exact .inr ⟨by omega, hci⟩
    · refine .inl ?_
      have := h.cut hij hjn
      rw [cutA, if_neg hci]
      simpa [addr_add] using this
end Go.Proofs.Ytmhjjhaipcgbiaa
