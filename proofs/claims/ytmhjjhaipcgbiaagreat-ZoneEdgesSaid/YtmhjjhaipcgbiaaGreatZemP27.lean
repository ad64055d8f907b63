/- Texts of this claim, one behind the other: Zw, Zx, Zy. -/
import Derived.Test.YtmhjjhaipcgbiaaGreatZemP26

namespace Go.Proofs.YtmhjjhaipcgbiaaGreat
open Go.RowKit
set_option linter.unusedVariables false
set_option linter.unusedSimpArgs false
set_option maxRecDepth 100000
set_option maxHeartbeats 4000000
structure Zn where
  n : Nat
  nulls : Nat
  odd : Nat
  has : Bool
  least : Nat
  most : Nat
  first : List Int
  last : List Int
def zV (k s : Int) (z : Zn) (F L : SL) : Value := .agg #[.int .i64 k, .int .i64 s, .int .i64 (z.n : Int), .int .i64 (z.nulls : Int), .int .i64 (z.odd : Int), .bool z.has, .int .u64 (z.least : Int), .int .u64 (z.most : Int), .slice F.a z.first.length F.c, .slice L.a z.last.length L.c]
theorem below_three' (w : World) (o1 o2 o3 : Obj) : Below w.heap.size w (((w.alloc o1).alloc o2).alloc o3) ∧ (((w.alloc o1).alloc o2).alloc o3).heap.size = w.heap.size + 3 ∧ (((w.alloc o1).alloc o2).alloc o3).heap[w.heap.size]? = some o1 ∧ (((w.alloc o1).alloc o2).alloc o3).heap[w.heap.size + 1]? = some o2 ∧ (((w.alloc o1).alloc o2).alloc o3).heap[w.heap.size + 1 + 1]? = some o3 := by
  refine ⟨(((Below.refl _ w).alloc (Nat.le_refl _) _).alloc (by simp) _).alloc (by simp; omega) _, by simp, ?_, ?_, ?_⟩
  · rw [Below.heap_alloc _ _ _ (by simp; omega), Below.heap_alloc _ _ _ (by simp)]; exact World.alloc_heap_new w _
  · rw [Below.heap_alloc _ _ _ (by simp)]; simpa using World.alloc_heap_new (w.alloc o1) o2
  · simpa using World.alloc_heap_new ((w.alloc o1).alloc o2) o3
theorem box10 {w : World} {b : Nat} {x0 x1 x2 x3 x4 x5 x6 x7 x8 x9 : Value} {T : TypeId} (h : w.heap[b]? = some (.cells #[x0, x1, x2, x3, x4, x5, x6, x7, x8, x9] T (0, 0))) :
    w.cell? ⟨b, 0, none⟩ = some x0 ∧ w.cell? ⟨b, 1, none⟩ = some x1 ∧ w.cell? ⟨b, 2, none⟩ = some x2 ∧ w.cell? ⟨b, 3, none⟩ = some x3 ∧ w.cell? ⟨b, 4, none⟩ = some x4 ∧ w.cell? ⟨b, 5, none⟩ = some x5 ∧ w.cell? ⟨b, 6, none⟩ = some x6 ∧ w.cell? ⟨b, 7, none⟩ = some x7 ∧ w.cell? ⟨b, 8, none⟩ = some x8 ∧ w.cell? ⟨b, 9, none⟩ = some x9 := by
  refine ⟨?_, ?_, ?_, ?_, ?_, ?_, ?_, ?_, ?_, ?_⟩ <;> (rw [cell_blk h]; rfl)
abbrev RdT (w : World) (t : List Int) (A : SL) : Prop := Rd w 1 (.slice A.a t.length A.c) t.length (t.map (.int .u8))
theorem rodd_any (k s b : Int) (h0 : 0 ≤ b) (h1 : b ≤ 18446744073709551615) (hf : k = 9 → b < 4294967296) (w : World) : Calls Tryz.prog 45 #[.agg #[.int .i64 k, .int .i64 s], .int .u64 b] w (BoolP (oddB k b) w) := by
  have hb := Aside.mk (below_new w (.cells #[.int .i64 k, .int .i64 s] 23))
  by_cases h9 : k = 9
  · subst h9
    have HC := Aside.mk (fun W => r3c_32 b h0 (hf rfl) W)
    have HE := Aside.mk (show oddB 9 b = nan32 b from rfl)
    rw [HE.out]
    generalize nan32 b = n at *
    clear hf h0 h1
    go_enter Tryz.func45, Tryz.ntmps45
    go_wp2_with (go_at_call 104; refine (HC.out _).mono ?_; rintro e w1 ⟨c, rfl, hc, hb1⟩; have B1 := Aside.mk (below_chain hb.out hb1); have HQ := Aside.mk hc; clear hb1 hc)
    go_ret
    exact ⟨ret_bool HQ.out, B1.out⟩
  · by_cases h10 : k = 10
    · subst h10
      have HC := Aside.mk (fun W => r3c_64 b h0 h1 W)
      have HE := Aside.mk (show oddB 10 b = nan64 b from rfl)
      rw [HE.out]
      generalize nan64 b = n at *
      clear hf h0 h1
      go_enter Tryz.func45, Tryz.ntmps45
      go_wp2_with (go_at_call 104; refine (HC.out _).mono ?_; rintro e w1 ⟨c, rfl, hc, hb1⟩; have B1 := Aside.mk (below_chain hb.out hb1); have HQ := Aside.mk hc; clear hb1 hc)
      go_ret
      exact ⟨ret_bool HQ.out, B1.out⟩
    · have HE := Aside.mk (show false = oddB k b by unfold oddB; rw [if_neg h9, if_neg h10])
      have q9 : (k == 9) = false := by simpa using h9
      have q10 : (k == 10) = false := by simpa using h10
      have q9b := bne_of q9
      have q10b := bne_of q10
      clear hf h0 h1 h9 h10
      go_enter Tryz.func45, Tryz.ntmps45
      go_wp2
      go_ret
      exact ⟨ret_bool HE.out, hb.out⟩
theorem set6_below {w w1 : World} {B b1 b2 : Nat} (h : Below B w w1) (h1 : B ≤ b1) (h2 : B ≤ b2) (x0 x1 x2 y0 y1 y2 : Value) : Below B w ((((((w1.setCell ⟨b1, 0, none⟩ x0).setCell ⟨b1, 1, none⟩ x1).setCell ⟨b1, 2, none⟩ x2).setCell ⟨b2, 0, none⟩ y0).setCell ⟨b2, 1, none⟩ y1).setCell ⟨b2, 2, none⟩ y2).drew :=
  (Below.setCell (Below.setCell (Below.setCell (Below.setCell (Below.setCell (Below.setCell h h1 _) h1 _) h1 _) h2 _) h2 _) h2 _).trans (below_drewN _ _ 1)
theorem edges_any (k s : Int) (z : Zn) (F L : SL) (w : World) : Calls Tryz.prog 44 #[zV k s z F L] w fun e w' => e = .returned (.tuple #[.agg #[.bool false, .int .u64 (z.least : Int), .slice F.a z.first.length F.c], .agg #[.bool false, .int .u64 (z.most : Int), .slice L.a z.last.length L.c]]) ∧ Below w.heap.size w w' := by
  have hg := Aside.mk (below_three' w (.cells #[.int .i64 k, .int .i64 s, .int .i64 (z.n : Int), .int .i64 (z.nulls : Int), .int .i64 (z.odd : Int), .bool z.has, .int .u64 (z.least : Int), .int .u64 (z.most : Int), .slice F.a z.first.length F.c, .slice L.a z.last.length L.c] 79 (0, 0)) (.cells #[.bool false, .int .u64 0, .slice none 0 0] 50 (0, 0)) (.cells #[.bool false, .int .u64 0, .slice none 0 0] 50 (0, 0)))
  dsimp only [zV]
  go_enter Tryz.func44, Tryz.ntmps44
  go_upto_region 1 with fail
  have hq : ∀ W', (((w.alloc (.cells #[.int .i64 k, .int .i64 s, .int .i64 (z.n : Int), .int .i64 (z.nulls : Int), .int .i64 (z.odd : Int), .bool z.has, .int .u64 (z.least : Int), .int .u64 (z.most : Int), .slice F.a z.first.length F.c, .slice L.a z.last.length L.c] 79)).alloc (.cells #[.bool false, .int .u64 0, .slice none 0 0] 50)).alloc (.cells #[.bool false, .int .u64 0, .slice none 0 0] 50)) = W' → Below w.heap.size w W' ∧ W'.heap.size = w.heap.size + 3 ∧ W'.heap[w.heap.size]? = some (.cells #[.int .i64 k, .int .i64 s, .int .i64 (z.n : Int), .int .i64 (z.nulls : Int), .int .i64 (z.odd : Int), .bool z.has, .int .u64 (z.least : Int), .int .u64 (z.most : Int), .slice F.a z.first.length F.c, .slice L.a z.last.length L.c] 79 (0, 0)) ∧ W'.heap[w.heap.size + 1]? = some (.cells #[.bool false, .int .u64 0, .slice none 0 0] 50 (0, 0)) ∧ W'.heap[w.heap.size + 1 + 1]? = some (.cells #[.bool false, .int .u64 0, .slice none 0 0] 50 (0, 0)) := fun W' e => by rw [← e]; exact hg.out
  clear hg
  generalize (((w.alloc (.cells #[.int .i64 k, .int .i64 s, .int .i64 (z.n : Int), .int .i64 (z.nulls : Int), .int .i64 (z.odd : Int), .bool z.has, .int .u64 (z.least : Int), .int .u64 (z.most : Int), .slice F.a z.first.length F.c, .slice L.a z.last.length L.c] 79)).alloc (.cells #[.bool false, .int .u64 0, .slice none 0 0] 50)).alloc (.cells #[.bool false, .int .u64 0, .slice none 0 0] 50)) = w1 at *
  obtain ⟨t1, t2, t3, t4, t5⟩ := hq w1 rfl
  have B1 := Aside.mk t1
  clear hq t1
  obtain ⟨c0, c1, c2, c3, c4, c5, c6, c7, c8, c9⟩ := box10 t3
  obtain ⟨d0, d1, d2⟩ := box3 t4
  obtain ⟨e0, e1, e2⟩ := box3 t5
  have f0 := fun k => frozen_blk (k := k) t4
  have f1 := fun k => frozen_blk (k := k) t5
  have hl0 := lt_of_blk t3
  have hl1 := lt_of_blk t4
  have hl2 := lt_of_blk t5
  clear t3 t4 t5
  go_region
  go_wp2
  have B1' := B1.out
  refine bodyPost_ret (v := .tuple #[.agg #[.bool false, .int .u64 (z.least : Int), .slice F.a z.first.length F.c], .agg #[.bool false, .int .u64 (z.most : Int), .slice L.a z.last.length L.c]]) (by simp [results, Tryz.results44, go_sem, d0, d1, d2, e0, e1, e2, hl1, hl2]) rfl ⟨rfl, set6_below B1.out (by omega) (by omega) _ _ _ _ _ _⟩
theorem rcmp_t (k s : Int) (hk : wordedB k = true) (a b : V) (na nb : Bool) (ua ub : Int) (A B : SL) (w : World) (ha : RdT w a.text A) (hb : RdT w b.text B) : Calls Tryz.prog 46 #[.agg #[.int .i64 k, .int .i64 s], .agg #[.bool na, .int .u64 ua, .slice A.a a.text.length A.c], .agg #[.bool nb, .int .u64 ub, .slice B.a b.text.length B.c]] w (IntP (cmpT a.text b.text) w) := by
  obtain ⟨t1, t2, t3, t4, t5⟩ := below_three' w (.cells #[.int .i64 k, .int .i64 s] 23 (0, 0)) (.cells #[.bool na, .int .u64 ua, .slice A.a a.text.length A.c] 50 (0, 0)) (.cells #[.bool nb, .int .u64 ub, .slice B.a b.text.length B.c] 50 (0, 0))
  have HA := Aside.mk (ha.below t1)
  have HB := Aside.mk (hb.below t1)
  have HL := Aside.mk (str_less a.text b.text)
  have HG := Aside.mk (str_eqT a.text b.text)
  have HR := Aside.mk (cmpT_range a.text b.text)
  clear ha hb
  generalize cmpT a.text b.text = r at *
  have hq : ∀ W', (((w.alloc (.cells #[.int .i64 k, .int .i64 s] 23)).alloc (.cells #[.bool na, .int .u64 ua, .slice A.a a.text.length A.c] 50)).alloc (.cells #[.bool nb, .int .u64 ub, .slice B.a b.text.length B.c] 50)) = W' → Below w.heap.size w W' ∧ W'.heap[w.heap.size]? = some (.cells #[.int .i64 k, .int .i64 s] 23 (0, 0)) ∧ W'.heap[w.heap.size + 1]? = some (.cells #[.bool na, .int .u64 ua, .slice A.a a.text.length A.c] 50 (0, 0)) ∧ W'.heap[w.heap.size + 1 + 1]? = some (.cells #[.bool nb, .int .u64 ub, .slice B.a b.text.length B.c] 50 (0, 0)) ∧ RdT W' a.text A ∧ RdT W' b.text B := fun W' e => by rw [← e]; exact ⟨t1, t3, t4, t5, HA.out, HB.out⟩
  clear t1 t2 t3 t4 t5 HA HB
  go_enter Tryz.func46, Tryz.ntmps46
  go_upto_region 1 with fail
  generalize (((w.alloc (.cells #[.int .i64 k, .int .i64 s] 23)).alloc (.cells #[.bool na, .int .u64 ua, .slice A.a a.text.length A.c] 50)).alloc (.cells #[.bool nb, .int .u64 ub, .slice B.a b.text.length B.c] 50)) = w1 at *
  obtain ⟨t1, t2, t3, t4, t5, t6⟩ := hq w1 rfl
  have B1 := Aside.mk t1
  have T1 := Aside.mk (And.intro t3 (And.intro t4 (And.intro t5 t6)))
  have c0 := cell_blk (k := 0) t2
  have c1 := cell_blk (k := 1) t2
  simp at c0 c1
  clear hq t1 t2 t3 t4 t5 t6
  go_upto_region 2 with (go_at_call 62; refine (worded_any k s _).mono ?_; rw [hk]; rintro e w2 ⟨rfl, hb2⟩; have HB2 := Aside.mk hb2; clear hb2)
  have B2 := Aside.mk (below_chain B1.out HB2.out)
  obtain ⟨d0, d1, d2⟩ := box3 ((HB2.out.block _ (lt_of_blk T1.out.1)).trans T1.out.1)
  obtain ⟨e0, e1, e2⟩ := box3 ((HB2.out.block _ (lt_of_blk T1.out.2.1)).trans T1.out.2.1)
  have hca := conv_any A.a _ A.c a.text rfl w2 (T1.out.2.2.1.below HB2.out)
  have hcb := conv_any B.a _ B.c b.text rfl w2 (T1.out.2.2.2.below HB2.out)
  clear c0 c1 hk T1
  rcases HR.out with rfl | rfl | rfl
  · have hl : Op.bytesLess (strOfNums a.text).toList (strOfNums b.text).toList = true := HL.out
    go_wp2
    go_ret
    exact ⟨rfl, B2.out⟩
  · have hl : Op.bytesLess (strOfNums a.text).toList (strOfNums b.text).toList = false := HL.out
    have hg : ((strOfNums a.text).toList == (strOfNums b.text).toList) = true := HG.out
    go_wp2
    go_ret
    exact ⟨rfl, B2.out⟩
  · have hl : Op.bytesLess (strOfNums a.text).toList (strOfNums b.text).toList = false := HL.out
    have hg : ((strOfNums a.text).toList == (strOfNums b.text).toList) = false := HG.out
    go_wp2
    go_ret
    exact ⟨rfl, B2.out⟩
end Go.Proofs.YtmhjjhaipcgbiaaGreat


namespace Go.Proofs.YtmhjjhaipcgbiaaGreat
open Go.RowKit
set_option linter.unusedVariables false
set_option linter.unusedSimpArgs false
set_option maxRecDepth 100000
set_option maxHeartbeats 4000000
theorem keyW_8 {b : Int} (h0 : 0 ≤ b) (h1 : b ≤ 18446744073709551615) : keyW 8 b = b := by unfold keyW; rw [if_neg (by omega)]
theorem keyW_4 {b : Int} (h0 : 0 ≤ b) (h1 : b ≤ 18446744073709551615) : keyW 4 b = wrap64 b := by
  unfold keyW wrap64
  rw [show maxOf (wbits 4) = 18446744073709551615 by decide]
  split <;> omega
theorem key_8 {a b : Int} (ha0 : 0 ≤ a) (ha1 : a ≤ 18446744073709551615) (hb0 : 0 ≤ b) (hb1 : b ≤ 18446744073709551615) : cmpS (keyI 11 a) (keyI 11 b) = cmpS (keyW 8 a) (keyW 8 b) := by rw [keyW_8 ha0 ha1, keyW_8 hb0 hb1]; rfl
theorem key_4 (k : Int) (hk : k = 13 ∨ k = 14) {a b : Int} (ha0 : 0 ≤ a) (ha1 : a ≤ 18446744073709551615) (hb0 : 0 ≤ b) (hb1 : b ≤ 18446744073709551615) : cmpS (keyI k a) (keyI k b) = cmpS (keyW 4 a) (keyW 4 b) := by
  rw [keyW_4 ha0 ha1, keyW_4 hb0 hb1]
  rcases hk with rfl | rfl <;> rfl
theorem rcmp_i (k s : Int) (hk0 : 1 ≤ k ∧ k ≤ 16) (hk : wordedB k = false) (na nb : Bool) (ua ub : Int) (pa : PlainI k ua) (pb : PlainI k ub) (A B : SL) (n m : Nat) (w : World) : Calls Tryz.prog 46 #[.agg #[.int .i64 k, .int .i64 s], .agg #[.bool na, .int .u64 ua, .slice A.a n A.c], .agg #[.bool nb, .int .u64 ub, .slice B.a m B.c]] w (IntP (cmpS (keyI k ua) (keyI k ub)) w) := by
  obtain ⟨t1, t2, t3, t4, t5⟩ := below_three' w (.cells #[.int .i64 k, .int .i64 s] 23 (0, 0)) (.cells #[.bool na, .int .u64 ua, .slice A.a n A.c] 50 (0, 0)) (.cells #[.bool nb, .int .u64 ub, .slice B.a m B.c] 50 (0, 0))
  have hq : ∀ W', (((w.alloc (.cells #[.int .i64 k, .int .i64 s] 23)).alloc (.cells #[.bool na, .int .u64 ua, .slice A.a n A.c] 50)).alloc (.cells #[.bool nb, .int .u64 ub, .slice B.a m B.c] 50)) = W' → Below w.heap.size w W' ∧ W'.heap[w.heap.size]? = some (.cells #[.int .i64 k, .int .i64 s] 23 (0, 0)) ∧ W'.heap[w.heap.size + 1]? = some (.cells #[.bool na, .int .u64 ua, .slice A.a n A.c] 50 (0, 0)) ∧ W'.heap[w.heap.size + 1 + 1]? = some (.cells #[.bool nb, .int .u64 ub, .slice B.a m B.c] 50 (0, 0)) := fun W' e => by rw [← e]; exact ⟨t1, t3, t4, t5⟩
  clear t1 t2 t3 t4 t5
  have HPA := Aside.mk pa
  have HPB := Aside.mk pb
  have HK0 := Aside.mk hk0
  have HKW := Aside.mk hk
  clear pa pb hk0
  go_enter Tryz.func46, Tryz.ntmps46
  go_upto_region 1 with fail
  generalize (((w.alloc (.cells #[.int .i64 k, .int .i64 s] 23)).alloc (.cells #[.bool na, .int .u64 ua, .slice A.a n A.c] 50)).alloc (.cells #[.bool nb, .int .u64 ub, .slice B.a m B.c] 50)) = w1 at *
  obtain ⟨t1, t2, t3, t4⟩ := hq w1 rfl
  have B1 := Aside.mk t1
  have T1 := Aside.mk (And.intro t2 (And.intro t3 t4))
  have c0 := cell_blk (k := 0) t2
  have c1 := cell_blk (k := 1) t2
  simp at c0 c1
  clear hq t1 t2 t3 t4
  go_upto_region 7 with (go_at_call 62; refine (worded_any k s _).mono ?_; rw [hk]; rintro e w2 ⟨rfl, hb2⟩; have HB2 := Aside.mk hb2; clear hb2)
  have B2 := Aside.mk (below_chain B1.out HB2.out)
  obtain ⟨d0, d1, d2⟩ := box3 ((HB2.out.block _ (lt_of_blk T1.out.2.1)).trans T1.out.2.1)
  obtain ⟨e0, e1, e2⟩ := box3 ((HB2.out.block _ (lt_of_blk T1.out.2.2)).trans T1.out.2.2)
  have c0' := cell_blk (k := 0) ((HB2.out.block _ (lt_of_blk T1.out.1)).trans T1.out.1)
  have c1' := cell_blk (k := 1) ((HB2.out.block _ (lt_of_blk T1.out.1)).trans T1.out.1)
  simp at c0' c1'
  clear c0 c1 hk T1
  obtain hw | rfl | rfl | rfl | rfl | rfl | rfl | rfl | rfl := kinds16 HK0.out
  · have HC := Aside.mk (fun W => r5cmp_any k ua ub hw HPA.out.lo (fit_w hw HPA.out.fit) HPB.out.lo (fit_w hw HPB.out.fit) W)
    have e1' : keyI k ua = keyW k ua := by unfold keyI; rw [if_neg (by omega), if_neg (by omega), if_neg (by omega), if_neg (by omega)]
    have e2' : keyI k ub = keyW k ub := by unfold keyI; rw [if_neg (by omega), if_neg (by omega), if_neg (by omega), if_neg (by omega)]
    have HR := Aside.mk (show cmpS (keyI k ua) (keyI k ub) = cmpS (keyW k ua) (keyW k ub) by rw [e1', e2'])
    have q9 : (k == 9) = false := by simp; omega
    have q10 : (k == 10) = false := by simp; omega
    have q11 : (k == 11) = false := by simp; omega
    have q12 : (k == 12) = false := by simp; omega
    have q13 : (k == 13) = false := by simp; omega
    have q14 : (k == 14) = false := by simp; omega
    clear e1' e2' hw HPA HPB HK0 HKW
    generalize cmpS (keyW k ua) (keyW k ub) = r at *
    go_wp2_with (go_at_call 107; refine (HC.out _).mono ?_; rintro e w3 ⟨rfl, hb3⟩; have B3 := Aside.mk (below_chain B2.out hb3); clear hb3)
    go_ret
    exact ⟨ret_int HR.out.symm, B3.out⟩
  · have HC := Aside.mk (fun W => r3cmp_32 ua ub HPA.out.lo (fit_32 HPA.out.fit) HPA.out.even HPB.out.lo (fit_32 HPB.out.fit) HPB.out.even W)
    have HR := Aside.mk (show cmpS (keyI 9 ua) (keyI 9 ub) = cmpS (keyF 2147483648 ua) (keyF 2147483648 ub) from rfl)
    clear HPA HPB HK0 HKW
    generalize cmpS (keyF 2147483648 ua) (keyF 2147483648 ub) = r at *
    go_wp2_with (go_at_call 105; refine (HC.out _).mono ?_; rintro e w3 ⟨rfl, hb3⟩; have B3 := Aside.mk (below_chain B2.out hb3); clear hb3)
    go_ret
    exact ⟨ret_int HR.out.symm, B3.out⟩
  · have HC := Aside.mk (fun W => r3cmp_64 ua ub HPA.out.lo HPA.out.hi HPA.out.even HPB.out.lo HPB.out.hi HPB.out.even W)
    have HR := Aside.mk (show cmpS (keyI 10 ua) (keyI 10 ub) = cmpS (keyF 9223372036854775808 ua) (keyF 9223372036854775808 ub) from rfl)
    clear HPA HPB HK0 HKW
    generalize cmpS (keyF 9223372036854775808 ua) (keyF 9223372036854775808 ub) = r at *
    go_wp2_with (go_at_call 105; refine (HC.out _).mono ?_; rintro e w3 ⟨rfl, hb3⟩; have B3 := Aside.mk (below_chain B2.out hb3); clear hb3)
    go_ret
    exact ⟨ret_int HR.out.symm, B3.out⟩
  · have HC := Aside.mk (fun W => r5cmp_any 8 ua ub (by omega) HPA.out.lo HPA.out.hi HPB.out.lo HPB.out.hi W)
    have HR := Aside.mk (show cmpS (keyI 11 ua) (keyI 11 ub) = cmpS (keyW 8 ua) (keyW 8 ub) from key_8 HPA.out.lo HPA.out.hi HPB.out.lo HPB.out.hi)
    clear HPA HPB HK0 HKW
    generalize cmpS (keyW 8 ua) (keyW 8 ub) = r at *
    go_wp2_with (go_at_call 107; refine (HC.out _).mono ?_; rintro e w3 ⟨rfl, hb3⟩; have B3 := Aside.mk (below_chain B2.out hb3); clear hb3)
    go_ret
    exact ⟨ret_int HR.out.symm, B3.out⟩
  · have HC := Aside.mk (fun W => r12cmp_any ua ub HPA.out.lo HPA.out.hi HPA.out.fit HPB.out.lo HPB.out.hi HPB.out.fit W)
    have HR := Aside.mk (show cmpS (keyI 12 ua) (keyI 12 ub) = cmpS (wrap64 ua) (wrap64 ub) from rfl)
    clear HPA HPB HK0 HKW
    generalize cmpS (wrap64 ua) (wrap64 ub) = r at *
    go_wp2_with (go_at_call 106; refine (HC.out _).mono ?_; rintro e w3 ⟨rfl, rfl⟩)
    go_ret
    exact ⟨ret_int HR.out.symm, B2.out⟩
  · have HC := Aside.mk (fun W => r5cmp_any 4 ua ub (by omega) HPA.out.lo HPA.out.hi HPB.out.lo HPB.out.hi W)
    have HR := Aside.mk (show cmpS (keyI 13 ua) (keyI 13 ub) = cmpS (keyW 4 ua) (keyW 4 ub) from key_4 13 (by omega) HPA.out.lo HPA.out.hi HPB.out.lo HPB.out.hi)
    clear HPA HPB HK0 HKW
    generalize cmpS (keyW 4 ua) (keyW 4 ub) = r at *
    go_wp2_with (go_at_call 107; refine (HC.out _).mono ?_; rintro e w3 ⟨rfl, hb3⟩; have B3 := Aside.mk (below_chain B2.out hb3); clear hb3)
    go_ret
    exact ⟨ret_int HR.out.symm, B3.out⟩
  · have HC := Aside.mk (fun W => r5cmp_any 4 ua ub (by omega) HPA.out.lo HPA.out.hi HPB.out.lo HPB.out.hi W)
    have HR := Aside.mk (show cmpS (keyI 14 ua) (keyI 14 ub) = cmpS (keyW 4 ua) (keyW 4 ub) from key_4 14 (by omega) HPA.out.lo HPA.out.hi HPB.out.lo HPB.out.hi)
    clear HPA HPB HK0 HKW
    generalize cmpS (keyW 4 ua) (keyW 4 ub) = r at *
    go_wp2_with (go_at_call 107; refine (HC.out _).mono ?_; rintro e w3 ⟨rfl, hb3⟩; have B3 := Aside.mk (below_chain B2.out hb3); clear hb3)
    go_ret
    exact ⟨ret_int HR.out.symm, B3.out⟩
  · exact absurd HKW.out (by decide)
  · exact absurd HKW.out (by decide)
structure PlainV (k : Int) (v : V) : Prop where
  bits : wordedB k = false → PlainI k v.bits ∧ v.text = []
  text : wordedB k = true → v.bits = 0 ∧ IsBytes v.text
theorem rcmp_any (k s : Int) (hk0 : 1 ≤ k ∧ k ≤ 16) (a b : V) (na nb : Bool) (pa : PlainV k a) (pb : PlainV k b) (A B : SL) (w : World) (ha : RdT w a.text A) (hb : RdT w b.text B) : Calls Tryz.prog 46 #[.agg #[.int .i64 k, .int .i64 s], .agg #[.bool na, .int .u64 (a.bits : Int), .slice A.a a.text.length A.c], .agg #[.bool nb, .int .u64 (b.bits : Int), .slice B.a b.text.length B.c]] w (IntP (cmpV k a b) w) := by
  unfold cmpV
  cases hw : wordedB k with
  | true => exact rcmp_t k s hw a b na nb _ _ A B w ha hb
  | false => exact rcmp_i k s hk0 hw na nb _ _ (pa.bits hw).1 (pb.bits hw).1 A B _ _ w
end Go.Proofs.YtmhjjhaipcgbiaaGreat


namespace Go.Proofs.YtmhjjhaipcgbiaaGreat
open Go.RowKit
set_option linter.unusedVariables false
set_option linter.unusedSimpArgs false
set_option maxRecDepth 100000
set_option maxHeartbeats 4000000
def zLow (z : Zn) : V := ⟨false, z.least, z.first⟩
def zHigh (z : Zn) : V := ⟨false, z.most, z.last⟩
def zLo (k : Int) (z : Zn) (v : V) : Bool := !z.has || decide (cmpV k v (zLow z) < 0)
def zHi (k : Int) (z : Zn) (v : V) : Bool := !z.has || decide (0 < cmpV k v (zHigh z))
def zWith (k : Int) (z : Zn) (v : V) : Zn := ⟨z.n, z.nulls, z.odd, true, if zLo k z v then v.bits else z.least, if zHi k z v then v.bits else z.most, if zLo k z v then v.text else z.first, if zHi k z v then v.text else z.last⟩
def ZOK (k : Int) (z : Zn) : Prop := z.has = true → PlainV k (zLow z) ∧ PlainV k (zHigh z)
theorem zok_with {k : Int} {z : Zn} {v : V} (hz : ZOK k z) (hv : PlainV k v) : ZOK k (zWith k z v) := fun _ => by
  have hv2 : PlainV k ⟨false, v.bits, v.text⟩ := ⟨hv.bits, hv.text⟩
  constructor
  · cases h : zLo k z v with
    | true => unfold zWith zLow; dsimp only; rw [h]; exact hv2
    | false =>
      have hh : z.has = true := by unfold zLo at h; simp at h; exact h.1
      unfold zWith zLow; dsimp only; rw [h]; exact (hz hh).1
  · cases h : zHi k z v with
    | true => unfold zWith zHigh; dsimp only; rw [h]; exact hv2
    | false =>
      have hh : z.has = true := by unfold zHi at h; simp at h; exact h.1
      unfold zWith zHigh; dsimp only; rw [h]; exact (hz hh).2
def Stays (zb : Nat) (t : List Int) (A : SL) (W : World) : Prop := ∀ W', Kept (fun k => (k = zb ∨ k = zb + 1 + 1) ∨ W.heap.size ≤ k) W W' → RdT W' t A
theorem Stays.step {zb : Nat} {t : List Int} {A : SL} {W W2 : World} (h : Stays zb t A W) (hk : Kept (fun k => k = zb ∨ W.heap.size ≤ k) W W2) : Stays zb t A W2 := fun W' h2 => h W' ((hk.mono (T := fun k => (k = zb ∨ k = zb + 1 + 1) ∨ W.heap.size ≤ k) (fun k e _ => e.imp .inl id)).trans h2 (fun k e hl => e.imp id (fun e => by have := hk.size; omega)))
theorem Stays.now {zb : Nat} {t : List Int} {A : SL} {W : World} (h : Stays zb t A W) : RdT W t A := h W (Kept.refl _ _)
end Go.Proofs.YtmhjjhaipcgbiaaGreat
