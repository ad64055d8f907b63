/- Texts of this claim, one behind the other: Ask3, Ask4, Ask5, Close0, Close1, Close2, Book2, Close, AskS. -/
import Derived.Test.YtmhjjhaipcgbiaaGreatAsqP6
import Derived.BigQuiet
import Derived.Deep.QuietTactic
import Derived.Test.YtmhjjhaipcgbiaaGreatAsqP3
import Derived.Test.YtmhjjhaipcgbiaaGreatAsqP4
import Derived.Test.YtmhjjhaipcgbiaaGreatAsqP5

namespace Go.Proofs.YtmhjjhaipcgbiaaGreat
open Go.RowKit Go.Shelf
set_option linter.unusedVariables false
set_option linter.unusedSimpArgs false
set_option maxRecDepth 100000
set_option maxHeartbeats 4000000
theorem ccut_bad (c : Col) (hc : COK c) (B D E X : SL) (vals : List Value) (f t : Int) (hz : checkC c ≠ 0) (w : World) (h : RdC w c B D E X vals) : Calls Tryz.prog 109 #[colV c B D E X, .int .i64 f, .int .i64 t] w (ColRP zeroC (checkC c) w) := by
  have hck := Aside.mk (fun (w2 : World) (hb : Below w.heap.size w w2) => check_any c hc B D E X vals w2 (h.below hb))
  have HBAD : Aside (f ≤ f) := ⟨Int.le_refl _⟩
  generalize checkC c = x at *
  clear h
  dsimp only [colV] at hck ⊢
  refine calls_of_marks Tryz.func109 rfl ?_; simp only [Tryz.ntmps109, List.size_toArray, List.length_cons, List.length_nil, Nat.reduceAdd, Nat.reduceSub, Array.replicate_succ, Array.replicate_zero, List.push_toArray, List.append_toArray, List.nil_append, List.cons_append]
  go_wp2_with fail
  have hg : ∀ W', (((((w.alloc (.cells #[.int .i64 c.k, .int .i64 c.s, .int .i64 c.n, .int .i64 c.m, .slice B.a c.bits.length B.c, .slice D.a c.data.length D.c, .slice E.a c.ends.length E.c, .slice X.a c.words.length X.c] 63)).alloc (.cells #[.int .i64 f] 3)).alloc (.cells #[.int .i64 t] 3)).alloc (.cells #[.int .i64 0, .int .i64 0, .int .i64 0, .int .i64 0, .slice none 0 0, .slice none 0 0, .slice none 0 0, .slice none 0 0] 63))) = W' → Below w.heap.size w W' ∧ W'.heap.size = w.heap.size + 4 ∧ W'.heap[w.heap.size]? = some (.cells #[.int .i64 c.k, .int .i64 c.s, .int .i64 c.n, .int .i64 c.m, .slice B.a c.bits.length B.c, .slice D.a c.data.length D.c, .slice E.a c.ends.length E.c, .slice X.a c.words.length X.c] 63 (0, 0)) ∧ W'.heap[w.heap.size + 1]? = some (.cells #[.int .i64 f] 3 (0, 0)) ∧ W'.heap[w.heap.size + 1 + 1]? = some (.cells #[.int .i64 t] 3 (0, 0)) ∧ W'.heap[w.heap.size + 1 + 1 + 1]? = some (.cells #[.int .i64 0, .int .i64 0, .int .i64 0, .int .i64 0, .slice none 0 0, .slice none 0 0, .slice none 0 0, .slice none 0 0] 63 (0, 0)) := fun W' e => by rw [← e]; exact below_four w _ _ _ _
  generalize ((((w.alloc (.cells #[.int .i64 c.k, .int .i64 c.s, .int .i64 c.n, .int .i64 c.m, .slice B.a c.bits.length B.c, .slice D.a c.data.length D.c, .slice E.a c.ends.length E.c, .slice X.a c.words.length X.c] 63)).alloc (.cells #[.int .i64 f] 3)).alloc (.cells #[.int .i64 t] 3)).alloc (.cells #[.int .i64 0, .int .i64 0, .int .i64 0, .int .i64 0, .slice none 0 0, .slice none 0 0, .slice none 0 0, .slice none 0 0] 63)) = w2 at *
  obtain ⟨t1, t2, t3, t4, t5, t6⟩ := hg w2 rfl
  have B2 := Aside.mk t1
  clear hg
  refine (hck.out _ B2.out).mono ?_
  rintro e w3 ⟨rfl, hb3⟩
  have B3 := Aside.mk (below_chain B2.out hb3)
  replace t3 := (hb3.block _ (lt_of_blk t3)).trans t3
  replace t4 := (hb3.block _ (lt_of_blk t4)).trans t4
  replace t5 := (hb3.block _ (lt_of_blk t5)).trans t5
  replace t6 := (hb3.block _ (lt_of_blk t6)).trans t6
  obtain ⟨c0, c1, c2, c3, c4, c5, c6, c7⟩ := box8 t3
  obtain ⟨z0, z1, z2, z3, z4, z5, z6, z7⟩ := box8 t6
  have f0 := frozen_blk (k := 0) t6
  have f1 := frozen_blk (k := 1) t6
  have f2 := frozen_blk (k := 2) t6
  have f3 := frozen_blk (k := 3) t6
  have f4 := frozen_blk (k := 4) t6
  have f5 := frozen_blk (k := 5) t6
  have f6 := frozen_blk (k := 6) t6
  have f7 := frozen_blk (k := 7) t6
  have d0 : w3.cell? ⟨w.heap.size + 1, 0, none⟩ = some (.int .i64 f) := by rw [cell_blk t4]; rfl
  have d1 : w3.cell? ⟨w.heap.size + 1 + 1, 0, none⟩ = some (.int .i64 t) := by rw [cell_blk t5]; rfl
  clear t1 t2 t3 t4 t5 t6 hb3
  go_wp2_with fail
  all_goals first
    | (exfalso; have := HBAD.out; omega)
    | (refine left_plain (v := .tuple #[.agg #[.int .i64 0, .int .i64 0, .int .i64 0, .int .i64 0, .slice none 0 0, .slice none 0 0, .slice none 0 0, .slice none 0 0], .int .i64 x]) (by simp [results, Tryz.results109, go_sem, z0, z1, z2, z3, z4, z5, z6, z7]) ?_
       exact zero_ret (set8_below B3.out (Nat.le_add_right _ 3) _ _ _ _ _ _ _ _))
theorem ccut_place (c : Col) (hc : COK c) (B D E X : SL) (vals : List Value) (f t : Int) (hz : checkC c = 0) (hbad : f < 0 ∨ t < f ∨ c.n < t) (w : World) (h : RdC w c B D E X vals) : Calls Tryz.prog 109 #[colV c B D E X, .int .i64 f, .int .i64 t] w (ColRP zeroC 173 w) := by
  have hck := Aside.mk (fun (w2 : World) (hb : Below w.heap.size w w2) => check_any c hc B D E X vals w2 (h.below hb))
  rw [hz] at hck
  have HBAD := Aside.mk hbad
  clear hbad
  clear h
  dsimp only [colV] at hck ⊢
  refine calls_of_marks Tryz.func109 rfl ?_; simp only [Tryz.ntmps109, List.size_toArray, List.length_cons, List.length_nil, Nat.reduceAdd, Nat.reduceSub, Array.replicate_succ, Array.replicate_zero, List.push_toArray, List.append_toArray, List.nil_append, List.cons_append]
  go_wp2_with fail
  have hg : ∀ W', (((((w.alloc (.cells #[.int .i64 c.k, .int .i64 c.s, .int .i64 c.n, .int .i64 c.m, .slice B.a c.bits.length B.c, .slice D.a c.data.length D.c, .slice E.a c.ends.length E.c, .slice X.a c.words.length X.c] 63)).alloc (.cells #[.int .i64 f] 3)).alloc (.cells #[.int .i64 t] 3)).alloc (.cells #[.int .i64 0, .int .i64 0, .int .i64 0, .int .i64 0, .slice none 0 0, .slice none 0 0, .slice none 0 0, .slice none 0 0] 63))) = W' → Below w.heap.size w W' ∧ W'.heap.size = w.heap.size + 4 ∧ W'.heap[w.heap.size]? = some (.cells #[.int .i64 c.k, .int .i64 c.s, .int .i64 c.n, .int .i64 c.m, .slice B.a c.bits.length B.c, .slice D.a c.data.length D.c, .slice E.a c.ends.length E.c, .slice X.a c.words.length X.c] 63 (0, 0)) ∧ W'.heap[w.heap.size + 1]? = some (.cells #[.int .i64 f] 3 (0, 0)) ∧ W'.heap[w.heap.size + 1 + 1]? = some (.cells #[.int .i64 t] 3 (0, 0)) ∧ W'.heap[w.heap.size + 1 + 1 + 1]? = some (.cells #[.int .i64 0, .int .i64 0, .int .i64 0, .int .i64 0, .slice none 0 0, .slice none 0 0, .slice none 0 0, .slice none 0 0] 63 (0, 0)) := fun W' e => by rw [← e]; exact below_four w _ _ _ _
  generalize ((((w.alloc (.cells #[.int .i64 c.k, .int .i64 c.s, .int .i64 c.n, .int .i64 c.m, .slice B.a c.bits.length B.c, .slice D.a c.data.length D.c, .slice E.a c.ends.length E.c, .slice X.a c.words.length X.c] 63)).alloc (.cells #[.int .i64 f] 3)).alloc (.cells #[.int .i64 t] 3)).alloc (.cells #[.int .i64 0, .int .i64 0, .int .i64 0, .int .i64 0, .slice none 0 0, .slice none 0 0, .slice none 0 0, .slice none 0 0] 63)) = w2 at *
  obtain ⟨t1, t2, t3, t4, t5, t6⟩ := hg w2 rfl
  have B2 := Aside.mk t1
  clear hg
  refine (hck.out _ B2.out).mono ?_
  rintro e w3 ⟨rfl, hb3⟩
  have B3 := Aside.mk (below_chain B2.out hb3)
  replace t3 := (hb3.block _ (lt_of_blk t3)).trans t3
  replace t4 := (hb3.block _ (lt_of_blk t4)).trans t4
  replace t5 := (hb3.block _ (lt_of_blk t5)).trans t5
  replace t6 := (hb3.block _ (lt_of_blk t6)).trans t6
  obtain ⟨c0, c1, c2, c3, c4, c5, c6, c7⟩ := box8 t3
  obtain ⟨z0, z1, z2, z3, z4, z5, z6, z7⟩ := box8 t6
  have f0 := frozen_blk (k := 0) t6
  have f1 := frozen_blk (k := 1) t6
  have f2 := frozen_blk (k := 2) t6
  have f3 := frozen_blk (k := 3) t6
  have f4 := frozen_blk (k := 4) t6
  have f5 := frozen_blk (k := 5) t6
  have f6 := frozen_blk (k := 6) t6
  have f7 := frozen_blk (k := 7) t6
  have d0 : w3.cell? ⟨w.heap.size + 1, 0, none⟩ = some (.int .i64 f) := by rw [cell_blk t4]; rfl
  have d1 : w3.cell? ⟨w.heap.size + 1 + 1, 0, none⟩ = some (.int .i64 t) := by rw [cell_blk t5]; rfl
  clear t1 t2 t3 t4 t5 t6 hb3
  go_wp2_with fail
  all_goals first
    | (exfalso; have := HBAD.out; omega)
    | (refine left_plain (v := .tuple #[.agg #[.int .i64 0, .int .i64 0, .int .i64 0, .int .i64 0, .slice none 0 0, .slice none 0 0, .slice none 0 0, .slice none 0 0], .int .i64 173]) (by simp [results, Tryz.results109, go_sem, z0, z1, z2, z3, z4, z5, z6, z7]) ?_
       exact zero_ret (set8_below B3.out (Nat.le_add_right _ 3) _ _ _ _ _ _ _ _))
theorem ccut_any (c : Col) (hc : COK c) (hs : Small18 c) {b1 : Nat} (B D E X : SL) (vals : List Value) (f t : Int) (w : World) (h : OwnC w b1 c B D E X vals) : Calls Tryz.prog 109 #[colV c B D E X, .int .i64 f, .int .i64 t] w (ColRP (cutC c f t) (cutE c f t) w) := by
  by_cases hz : checkC c = 0
  · by_cases hbad : f < 0 ∨ t < f ∨ c.n < t
    · have ege : cutE c f t = 173 := by unfold cutE; rw [if_neg (by rw [hz]; decide), if_pos hbad]
      have egv : cutC c f t = zeroC := by unfold cutC; rw [if_neg (by rw [ege]; decide)]
      rw [ege, egv]
      exact ccut_place c hc B D E X vals f t hz hbad w h.rd
    · obtain ⟨f', rfl⟩ := Int.eq_ofNat_of_zero_le (show 0 ≤ f by omega)
      obtain ⟨t', rfl⟩ := Int.eq_ofNat_of_zero_le (show 0 ≤ t by omega)
      have ege : cutE c f' t' = 0 := by unfold cutE; rw [if_neg (by rw [hz]; decide), if_neg hbad]
      have egv : cutC c f' t' = colOf c.k c.s (((valsC c c.n.toNat).take t').drop f') := by
        unfold cutC
        rw [if_pos ege, Int.toNat_natCast, Int.toNat_natCast, valsC_take _ _ _ (by omega)]
      rw [ege, egv]
      have ec := of_checked hc hz
      have := cut_of (check_zero hz).1 ⟨vals_few hs _ (by have := hs.1 (check_zero hz).2.2.1; omega), vals_ok hc hz⟩ B D E X vals f' t' (by omega) (by rw [valsC_len2]; omega) w (by rw [← ec]; exact h)
      rw [← ec] at this
      exact this
  · have ege : cutE c f t = checkC c := by unfold cutE; rw [if_pos hz]
    have egv : cutC c f t = zeroC := by unfold cutC; rw [if_neg (by rw [ege]; exact hz)]
    rw [ege, egv]
    exact ccut_bad c hc B D E X vals f t hz w h.rd
end Go.Proofs.YtmhjjhaipcgbiaaGreat


namespace Go.Proofs.YtmhjjhaipcgbiaaGreat
open Go.RowKit Go.Shelf
set_option linter.unusedVariables false
set_option linter.unusedSimpArgs false
set_option maxRecDepth 100000
set_option maxHeartbeats 4000000
theorem cjoin_a (a b : Col) (ha : COK a) (hb : COK b) (B D E X B2 D2 E2 X2 : SL) (va vb : List Value) (hz : checkC a ≠ 0) (w : World) (h : RdC w a B D E X va) (h2 : RdC w b B2 D2 E2 X2 vb) : Calls Tryz.prog 68 #[colV a B D E X, colV b B2 D2 E2 X2] w (ColRP zeroC (checkC a) w) := by
  have hca := Aside.mk (fun (w2 : World) (hb : Below w.heap.size w w2) => check_any a ha B D E X va w2 (h.below hb))
  have hcb := Aside.mk (fun (w2 : World) (hw : Below w.heap.size w w2) => check_any b hb B2 D2 E2 X2 vb w2 (h2.below hw))
  generalize checkC a = x at *
  clear h h2
  dsimp only [colV] at hca hcb ⊢
  go_enter Tryz.func68, Tryz.ntmps68
  go_wp2_with fail
  have hg : ∀ W', ((((w.alloc (.cells #[.int .i64 a.k, .int .i64 a.s, .int .i64 a.n, .int .i64 a.m, .slice B.a a.bits.length B.c, .slice D.a a.data.length D.c, .slice E.a a.ends.length E.c, .slice X.a a.words.length X.c] 63)).alloc (.cells #[.int .i64 b.k, .int .i64 b.s, .int .i64 b.n, .int .i64 b.m, .slice B2.a b.bits.length B2.c, .slice D2.a b.data.length D2.c, .slice E2.a b.ends.length E2.c, .slice X2.a b.words.length X2.c] 63)).alloc (.cells #[.int .i64 0, .int .i64 0, .int .i64 0, .int .i64 0, .slice none 0 0, .slice none 0 0, .slice none 0 0, .slice none 0 0] 63))) = W' → Below w.heap.size w W' ∧ W'.heap.size = w.heap.size + 3 ∧ W'.heap[w.heap.size]? = some (.cells #[.int .i64 a.k, .int .i64 a.s, .int .i64 a.n, .int .i64 a.m, .slice B.a a.bits.length B.c, .slice D.a a.data.length D.c, .slice E.a a.ends.length E.c, .slice X.a a.words.length X.c] 63 (0, 0)) ∧ W'.heap[w.heap.size + 1]? = some (.cells #[.int .i64 b.k, .int .i64 b.s, .int .i64 b.n, .int .i64 b.m, .slice B2.a b.bits.length B2.c, .slice D2.a b.data.length D2.c, .slice E2.a b.ends.length E2.c, .slice X2.a b.words.length X2.c] 63 (0, 0)) ∧ W'.heap[w.heap.size + 1 + 1]? = some (.cells #[.int .i64 0, .int .i64 0, .int .i64 0, .int .i64 0, .slice none 0 0, .slice none 0 0, .slice none 0 0, .slice none 0 0] 63 (0, 0)) := fun W' e => by rw [← e]; exact below_three w _ _ _
  generalize (((w.alloc (.cells #[.int .i64 a.k, .int .i64 a.s, .int .i64 a.n, .int .i64 a.m, .slice B.a a.bits.length B.c, .slice D.a a.data.length D.c, .slice E.a a.ends.length E.c, .slice X.a a.words.length X.c] 63)).alloc (.cells #[.int .i64 b.k, .int .i64 b.s, .int .i64 b.n, .int .i64 b.m, .slice B2.a b.bits.length B2.c, .slice D2.a b.data.length D2.c, .slice E2.a b.ends.length E2.c, .slice X2.a b.words.length X2.c] 63)).alloc (.cells #[.int .i64 0, .int .i64 0, .int .i64 0, .int .i64 0, .slice none 0 0, .slice none 0 0, .slice none 0 0, .slice none 0 0] 63)) = w3 at *
  obtain ⟨t1, t2, t3, t4, t5⟩ := hg w3 rfl
  have B3 := Aside.mk t1
  have HS3 := Aside.mk t2
  have HA := Aside.mk t3
  have HB := Aside.mk t4
  have HZ := Aside.mk t5
  clear t1 t2 t3 t4 t5 hg
  go_loopw [14] (fun iv wr => ∃ i : Nat, i ≤ 0 ∧ iv = .int .i64 (i : Int) ∧ Aside (Below w3.heap.size w3 wr)) (fun iv _ => 2 - (intOf iv).toNat)
  case atStart => exact ⟨0, by omega, rfl, ⟨Below.refl _ _⟩⟩
  case round =>
    obtain ⟨i, hi, rfl, hp⟩ := hrel
    have hix0 := fun w => (@idx_pair (.int .i64 a.k) (.int .i64 a.s) (.int .i64 a.n) (.int .i64 a.m) (.slice B.a a.bits.length B.c) (.slice D.a a.data.length D.c) (.slice E.a a.ends.length E.c) (.slice X.a a.words.length X.c) (.int .i64 b.k) (.int .i64 b.s) (.int .i64 b.n) (.int .i64 b.m) (.slice B2.a b.bits.length B2.c) (.slice D2.a b.data.length D2.c) (.slice E2.a b.ends.length E2.c) (.slice X2.a b.words.length X2.c) w).1
    have hix1 := fun w => (@idx_pair (.int .i64 a.k) (.int .i64 a.s) (.int .i64 a.n) (.int .i64 a.m) (.slice B.a a.bits.length B.c) (.slice D.a a.data.length D.c) (.slice E.a a.ends.length E.c) (.slice X.a a.words.length X.c) (.int .i64 b.k) (.int .i64 b.s) (.int .i64 b.n) (.int .i64 b.m) (.slice B2.a b.bits.length B2.c) (.slice D2.a b.data.length D2.c) (.slice E2.a b.ends.length E2.c) (.slice X2.a b.words.length X2.c) w).2
    obtain rfl : i = 0 := by omega
    go_wp2_with (go_at_call 82; refine (hca.out _ (below_chain B3.out (hp.out.alloc hp.out.size _))).mono ?_; rintro e w5 ⟨rfl, hb5⟩; have H5 := Aside.mk (below_chain (hp.out.alloc hp.out.size _) hb5); have HZ5 := (H5.out.block _ (lt_of_blk HZ.out)).trans HZ.out; obtain ⟨z0, z1, z2, z3, z4, z5, z6, z7⟩ := box8 HZ5; have f0 := frozen_blk (k := 0) HZ5; have f1 := frozen_blk (k := 1) HZ5; have f2 := frozen_blk (k := 2) HZ5; have f3 := frozen_blk (k := 3) HZ5; have f4 := frozen_blk (k := 4) HZ5; have f5 := frozen_blk (k := 5) HZ5; have f6 := frozen_blk (k := 6) HZ5; have f7 := frozen_blk (k := 7) HZ5; clear HZ5 hb5)
    refine bodyPost_ret (v := .tuple #[.agg #[.int .i64 0, .int .i64 0, .int .i64 0, .int .i64 0, .slice none 0 0, .slice none 0 0, .slice none 0 0, .slice none 0 0], .int .i64 x]) (by simp [results, Tryz.results68, go_sem, z0, z1, z2, z3, z4, z5, z6, z7]) rfl ?_
    exact zero_ret (set8_below (below_chain B3.out H5.out) (Nat.le_add_right _ 2) _ _ _ _ _ _ _ _)
theorem cjoin_b (a b : Col) (ha : COK a) (hb : COK b) (B D E X B2 D2 E2 X2 : SL) (va vb : List Value) (hza : checkC a = 0) (hz : checkC b ≠ 0) (w : World) (h : RdC w a B D E X va) (h2 : RdC w b B2 D2 E2 X2 vb) : Calls Tryz.prog 68 #[colV a B D E X, colV b B2 D2 E2 X2] w (ColRP zeroC (checkC b) w) := by
  have hca := Aside.mk (fun (w2 : World) (hb : Below w.heap.size w w2) => check_any a ha B D E X va w2 (h.below hb))
  have hcb := Aside.mk (fun (w2 : World) (hw : Below w.heap.size w w2) => check_any b hb B2 D2 E2 X2 vb w2 (h2.below hw))
  rw [hza] at hca
  clear hza
  generalize checkC b = x at *
  clear h h2
  dsimp only [colV] at hca hcb ⊢
  go_enter Tryz.func68, Tryz.ntmps68
  go_wp2_with fail
  have hg : ∀ W', ((((w.alloc (.cells #[.int .i64 a.k, .int .i64 a.s, .int .i64 a.n, .int .i64 a.m, .slice B.a a.bits.length B.c, .slice D.a a.data.length D.c, .slice E.a a.ends.length E.c, .slice X.a a.words.length X.c] 63)).alloc (.cells #[.int .i64 b.k, .int .i64 b.s, .int .i64 b.n, .int .i64 b.m, .slice B2.a b.bits.length B2.c, .slice D2.a b.data.length D2.c, .slice E2.a b.ends.length E2.c, .slice X2.a b.words.length X2.c] 63)).alloc (.cells #[.int .i64 0, .int .i64 0, .int .i64 0, .int .i64 0, .slice none 0 0, .slice none 0 0, .slice none 0 0, .slice none 0 0] 63))) = W' → Below w.heap.size w W' ∧ W'.heap.size = w.heap.size + 3 ∧ W'.heap[w.heap.size]? = some (.cells #[.int .i64 a.k, .int .i64 a.s, .int .i64 a.n, .int .i64 a.m, .slice B.a a.bits.length B.c, .slice D.a a.data.length D.c, .slice E.a a.ends.length E.c, .slice X.a a.words.length X.c] 63 (0, 0)) ∧ W'.heap[w.heap.size + 1]? = some (.cells #[.int .i64 b.k, .int .i64 b.s, .int .i64 b.n, .int .i64 b.m, .slice B2.a b.bits.length B2.c, .slice D2.a b.data.length D2.c, .slice E2.a b.ends.length E2.c, .slice X2.a b.words.length X2.c] 63 (0, 0)) ∧ W'.heap[w.heap.size + 1 + 1]? = some (.cells #[.int .i64 0, .int .i64 0, .int .i64 0, .int .i64 0, .slice none 0 0, .slice none 0 0, .slice none 0 0, .slice none 0 0] 63 (0, 0)) := fun W' e => by rw [← e]; exact below_three w _ _ _
  generalize (((w.alloc (.cells #[.int .i64 a.k, .int .i64 a.s, .int .i64 a.n, .int .i64 a.m, .slice B.a a.bits.length B.c, .slice D.a a.data.length D.c, .slice E.a a.ends.length E.c, .slice X.a a.words.length X.c] 63)).alloc (.cells #[.int .i64 b.k, .int .i64 b.s, .int .i64 b.n, .int .i64 b.m, .slice B2.a b.bits.length B2.c, .slice D2.a b.data.length D2.c, .slice E2.a b.ends.length E2.c, .slice X2.a b.words.length X2.c] 63)).alloc (.cells #[.int .i64 0, .int .i64 0, .int .i64 0, .int .i64 0, .slice none 0 0, .slice none 0 0, .slice none 0 0, .slice none 0 0] 63)) = w3 at *
  obtain ⟨t1, t2, t3, t4, t5⟩ := hg w3 rfl
  have B3 := Aside.mk t1
  have HS3 := Aside.mk t2
  have HA := Aside.mk t3
  have HB := Aside.mk t4
  have HZ := Aside.mk t5
  clear t1 t2 t3 t4 t5 hg
  go_loopw [14] (fun iv wr => ∃ i : Nat, i ≤ 1 ∧ iv = .int .i64 (i : Int) ∧ Aside (Below w3.heap.size w3 wr)) (fun iv _ => 2 - (intOf iv).toNat)
  case atStart => exact ⟨0, by omega, rfl, ⟨Below.refl _ _⟩⟩
  case round =>
    obtain ⟨i, hi, rfl, hp⟩ := hrel
    have hix0 := fun w => (@idx_pair (.int .i64 a.k) (.int .i64 a.s) (.int .i64 a.n) (.int .i64 a.m) (.slice B.a a.bits.length B.c) (.slice D.a a.data.length D.c) (.slice E.a a.ends.length E.c) (.slice X.a a.words.length X.c) (.int .i64 b.k) (.int .i64 b.s) (.int .i64 b.n) (.int .i64 b.m) (.slice B2.a b.bits.length B2.c) (.slice D2.a b.data.length D2.c) (.slice E2.a b.ends.length E2.c) (.slice X2.a b.words.length X2.c) w).1
    have hix1 := fun w => (@idx_pair (.int .i64 a.k) (.int .i64 a.s) (.int .i64 a.n) (.int .i64 a.m) (.slice B.a a.bits.length B.c) (.slice D.a a.data.length D.c) (.slice E.a a.ends.length E.c) (.slice X.a a.words.length X.c) (.int .i64 b.k) (.int .i64 b.s) (.int .i64 b.n) (.int .i64 b.m) (.slice B2.a b.bits.length B2.c) (.slice D2.a b.data.length D2.c) (.slice E2.a b.ends.length E2.c) (.slice X2.a b.words.length X2.c) w).2
    obtain rfl | rfl : i = 0 ∨ i = 1 := by omega
    · go_wp2_with (go_at_call 82; refine (hca.out _ (below_chain B3.out (hp.out.alloc hp.out.size _))).mono ?_; rintro e w5 ⟨rfl, hb5⟩; have H5 := Aside.mk (below_chain (hp.out.alloc hp.out.size _) hb5); clear hb5)
      exact ⟨⟨1, by omega, by simp, H5⟩, by simp [intOf]⟩
    · go_wp2_with (go_at_call 82; refine (hcb.out _ (below_chain B3.out (hp.out.alloc hp.out.size _))).mono ?_; rintro e w5 ⟨rfl, hb5⟩; have H5 := Aside.mk (below_chain (hp.out.alloc hp.out.size _) hb5); have HZ5 := (H5.out.block _ (lt_of_blk HZ.out)).trans HZ.out; obtain ⟨z0, z1, z2, z3, z4, z5, z6, z7⟩ := box8 HZ5; have f0 := frozen_blk (k := 0) HZ5; have f1 := frozen_blk (k := 1) HZ5; have f2 := frozen_blk (k := 2) HZ5; have f3 := frozen_blk (k := 3) HZ5; have f4 := frozen_blk (k := 4) HZ5; have f5 := frozen_blk (k := 5) HZ5; have f6 := frozen_blk (k := 6) HZ5; have f7 := frozen_blk (k := 7) HZ5; clear HZ5 hb5)
      refine bodyPost_ret (v := .tuple #[.agg #[.int .i64 0, .int .i64 0, .int .i64 0, .int .i64 0, .slice none 0 0, .slice none 0 0, .slice none 0 0, .slice none 0 0], .int .i64 x]) (by simp [results, Tryz.results68, go_sem, z0, z1, z2, z3, z4, z5, z6, z7]) rfl ?_
      exact zero_ret (set8_below (below_chain B3.out H5.out) (Nat.le_add_right _ 2) _ _ _ _ _ _ _ _)
theorem cjoin_t (a b : Col) (ha : COK a) (hb : COK b) (B D E X B2 D2 E2 X2 : SL) (va vb : List Value) (hza : checkC a = 0) (hzb : checkC b = 0) (hty : ¬ (a.k = b.k ∧ a.s = b.s)) (w : World) (h : RdC w a B D E X va) (h2 : RdC w b B2 D2 E2 X2 vb) : Calls Tryz.prog 68 #[colV a B D E X, colV b B2 D2 E2 X2] w (ColRP zeroC 174 w) := by
  have hca := Aside.mk (fun (w2 : World) (hb : Below w.heap.size w w2) => check_any a ha B D E X va w2 (h.below hb))
  have hcb := Aside.mk (fun (w2 : World) (hw : Below w.heap.size w w2) => check_any b hb B2 D2 E2 X2 vb w2 (h2.below hw))
  rw [hza] at hca
  rw [hzb] at hcb
  have HTY := Aside.mk hty
  clear hza hzb hty
  clear h h2
  dsimp only [colV] at hca hcb ⊢
  go_enter Tryz.func68, Tryz.ntmps68
  go_wp2_with fail
  have hg : ∀ W', ((((w.alloc (.cells #[.int .i64 a.k, .int .i64 a.s, .int .i64 a.n, .int .i64 a.m, .slice B.a a.bits.length B.c, .slice D.a a.data.length D.c, .slice E.a a.ends.length E.c, .slice X.a a.words.length X.c] 63)).alloc (.cells #[.int .i64 b.k, .int .i64 b.s, .int .i64 b.n, .int .i64 b.m, .slice B2.a b.bits.length B2.c, .slice D2.a b.data.length D2.c, .slice E2.a b.ends.length E2.c, .slice X2.a b.words.length X2.c] 63)).alloc (.cells #[.int .i64 0, .int .i64 0, .int .i64 0, .int .i64 0, .slice none 0 0, .slice none 0 0, .slice none 0 0, .slice none 0 0] 63))) = W' → Below w.heap.size w W' ∧ W'.heap.size = w.heap.size + 3 ∧ W'.heap[w.heap.size]? = some (.cells #[.int .i64 a.k, .int .i64 a.s, .int .i64 a.n, .int .i64 a.m, .slice B.a a.bits.length B.c, .slice D.a a.data.length D.c, .slice E.a a.ends.length E.c, .slice X.a a.words.length X.c] 63 (0, 0)) ∧ W'.heap[w.heap.size + 1]? = some (.cells #[.int .i64 b.k, .int .i64 b.s, .int .i64 b.n, .int .i64 b.m, .slice B2.a b.bits.length B2.c, .slice D2.a b.data.length D2.c, .slice E2.a b.ends.length E2.c, .slice X2.a b.words.length X2.c] 63 (0, 0)) ∧ W'.heap[w.heap.size + 1 + 1]? = some (.cells #[.int .i64 0, .int .i64 0, .int .i64 0, .int .i64 0, .slice none 0 0, .slice none 0 0, .slice none 0 0, .slice none 0 0] 63 (0, 0)) := fun W' e => by rw [← e]; exact below_three w _ _ _
  generalize (((w.alloc (.cells #[.int .i64 a.k, .int .i64 a.s, .int .i64 a.n, .int .i64 a.m, .slice B.a a.bits.length B.c, .slice D.a a.data.length D.c, .slice E.a a.ends.length E.c, .slice X.a a.words.length X.c] 63)).alloc (.cells #[.int .i64 b.k, .int .i64 b.s, .int .i64 b.n, .int .i64 b.m, .slice B2.a b.bits.length B2.c, .slice D2.a b.data.length D2.c, .slice E2.a b.ends.length E2.c, .slice X2.a b.words.length X2.c] 63)).alloc (.cells #[.int .i64 0, .int .i64 0, .int .i64 0, .int .i64 0, .slice none 0 0, .slice none 0 0, .slice none 0 0, .slice none 0 0] 63)) = w3 at *
  obtain ⟨t1, t2, t3, t4, t5⟩ := hg w3 rfl
  have B3 := Aside.mk t1
  have HS3 := Aside.mk t2
  have HA := Aside.mk t3
  have HB := Aside.mk t4
  have HZ := Aside.mk t5
  clear t1 t2 t3 t4 t5 hg
  go_loopw [14] (fun iv wr => ∃ i : Nat, i ≤ 2 ∧ iv = .int .i64 (i : Int) ∧ Aside (Below w3.heap.size w3 wr)) (fun iv _ => 2 - (intOf iv).toNat)
  case atStart => exact ⟨0, by omega, rfl, ⟨Below.refl _ _⟩⟩
  case round =>
    obtain ⟨i, hi, rfl, hp⟩ := hrel
    have hix0 := fun w => (@idx_pair (.int .i64 a.k) (.int .i64 a.s) (.int .i64 a.n) (.int .i64 a.m) (.slice B.a a.bits.length B.c) (.slice D.a a.data.length D.c) (.slice E.a a.ends.length E.c) (.slice X.a a.words.length X.c) (.int .i64 b.k) (.int .i64 b.s) (.int .i64 b.n) (.int .i64 b.m) (.slice B2.a b.bits.length B2.c) (.slice D2.a b.data.length D2.c) (.slice E2.a b.ends.length E2.c) (.slice X2.a b.words.length X2.c) w).1
    have hix1 := fun w => (@idx_pair (.int .i64 a.k) (.int .i64 a.s) (.int .i64 a.n) (.int .i64 a.m) (.slice B.a a.bits.length B.c) (.slice D.a a.data.length D.c) (.slice E.a a.ends.length E.c) (.slice X.a a.words.length X.c) (.int .i64 b.k) (.int .i64 b.s) (.int .i64 b.n) (.int .i64 b.m) (.slice B2.a b.bits.length B2.c) (.slice D2.a b.data.length D2.c) (.slice E2.a b.ends.length E2.c) (.slice X2.a b.words.length X2.c) w).2
    obtain rfl | rfl | rfl : i = 0 ∨ i = 1 ∨ i = 2 := by omega
    · go_wp2_with (go_at_call 82; refine (hca.out _ (below_chain B3.out (hp.out.alloc hp.out.size _))).mono ?_; rintro e w5 ⟨rfl, hb5⟩; have H5 := Aside.mk (below_chain (hp.out.alloc hp.out.size _) hb5); clear hb5)
      exact ⟨⟨1, by omega, by simp, H5⟩, by simp [intOf]⟩
    · go_wp2_with (go_at_call 82; refine (hcb.out _ (below_chain B3.out (hp.out.alloc hp.out.size _))).mono ?_; rintro e w5 ⟨rfl, hb5⟩; have H5 := Aside.mk (below_chain (hp.out.alloc hp.out.size _) hb5); clear hb5)
      exact ⟨⟨2, by omega, by simp, H5⟩, by simp [intOf]⟩
    · clear hix0 hix1
      have hWR := Aside.mk (below_chain B3.out hp.out)
      replace HA := Aside.mk ((hp.out.block _ (lt_of_blk HA.out)).trans HA.out)
      replace HB := Aside.mk ((hp.out.block _ (lt_of_blk HB.out)).trans HB.out)
      replace HZ := Aside.mk ((hp.out.block _ (lt_of_blk HZ.out)).trans HZ.out)
      obtain ⟨c0, c1, c2, c3, c4, c5, c6, c7⟩ := box8 HA.out
      obtain ⟨d0, d1, d2, d3, d4, d5, d6, d7⟩ := box8 HB.out
      obtain ⟨z0, z1, z2, z3, z4, z5, z6, z7⟩ := box8 HZ.out
      have f0 := frozen_blk (k := 0) HZ.out
      have f1 := frozen_blk (k := 1) HZ.out
      have f2 := frozen_blk (k := 2) HZ.out
      have f3 := frozen_blk (k := 3) HZ.out
      have f4 := frozen_blk (k := 4) HZ.out
      have f5 := frozen_blk (k := 5) HZ.out
      have f6 := frozen_blk (k := 6) HZ.out
      have f7 := frozen_blk (k := 7) HZ.out
      clear hp
      go_wp2_with fail
      all_goals first
        | (exfalso; exact HTY.out ⟨by assumption, by assumption⟩)
        | (refine bodyPost_ret (v := .tuple #[.agg #[.int .i64 0, .int .i64 0, .int .i64 0, .int .i64 0, .slice none 0 0, .slice none 0 0, .slice none 0 0, .slice none 0 0], .int .i64 174]) (by simp [results, Tryz.results68, go_sem, z0, z1, z2, z3, z4, z5, z6, z7]) rfl ?_
           exact zero_ret (set8_below hWR.out (Nat.le_add_right _ 2) _ _ _ _ _ _ _ _))
theorem cjoin_any (a b : Col) (ha : COK a) (hsa : Small18 a) (hb : COK b) (hsb : Small18 b) (hab : a.m = a.n → b.m = b.n → a.n + b.n ≤ 20000) {b1 b2 : Nat} (B D E X B2 D2 E2 X2 : SL) (va vb : List Value) (w : World) (h : OwnC w b1 a B D E X va) (h2 : OwnC w b2 b B2 D2 E2 X2 vb) : Calls Tryz.prog 68 #[colV a B D E X, colV b B2 D2 E2 X2] w (ColRP (joinC a b) (joinE a b) w) := by
  by_cases hza : checkC a = 0
  · by_cases hzb : checkC b = 0
    · by_cases hty : a.k = b.k ∧ a.s = b.s
      · have hn0 : 0 ≤ a.n := by obtain ⟨_, hm, hn, _⟩ := check_zero hza; have := ((maskOK_iff ha.bits).1 hm).1; omega
        have hn1 : 0 ≤ b.n := by obtain ⟨_, hm, hn, _⟩ := check_zero hzb; have := ((maskOK_iff hb.bits).1 hm).1; omega
        have hab := hab (check_zero hza).2.2.1 (check_zero hzb).2.2.1
        have ege : joinE a b = 0 := by unfold joinE; rw [if_neg (by rw [hza]; decide), if_neg (by rw [hzb]; decide), if_pos hty]
        have egv : joinC a b = colOf a.k a.s (valsC a a.n.toNat ++ valsC b b.n.toNat) := by unfold joinC; rw [if_pos ege]
        rw [ege, egv]
        have ea := of_checked ha hza
        have eb := of_checked hb hzb
        rw [← hty.1, ← hty.2] at eb
        have hfa := vals_few hsa a.n.toNat (by have := hsa.1 (check_zero hza).2.2.1; omega)
        have hfb := vals_few hsb b.n.toNat (by have := hsb.1 (check_zero hzb).2.2.1; omega)
        have hva := vals_ok ha hza
        have hvb := vals_ok hb hzb
        rw [← hty.1, ← hty.2] at hvb
        have := join_of (check_zero hza).1 (l := valsC a a.n.toNat) (r := valsC b b.n.toNat) ⟨⟨by rw [List.length_append, valsC_len2, valsC_len2]; omega, fun v hv => by rcases List.mem_append.1 hv with hv | hv; exact hfa.2 v hv; exact hfb.2 v hv⟩, fun v hv => by rcases List.mem_append.1 hv with hv | hv; exact hva v hv; exact hvb v hv⟩ B D E X B2 D2 E2 X2 va vb w (by rw [← ea]; exact h) (by rw [← eb]; exact h2)
        rw [← ea, ← eb] at this
        exact this
      · have ege : joinE a b = 174 := by unfold joinE; rw [if_neg (by rw [hza]; decide), if_neg (by rw [hzb]; decide), if_neg hty]
        have egv : joinC a b = zeroC := by unfold joinC; rw [if_neg (by rw [ege]; decide)]
        rw [ege, egv]
        exact cjoin_t a b ha hb B D E X B2 D2 E2 X2 va vb hza hzb hty w h.rd h2.rd
    · have ege : joinE a b = checkC b := by unfold joinE; rw [if_neg (by rw [hza]; decide), if_pos hzb]
      have egv : joinC a b = zeroC := by unfold joinC; rw [if_neg (by rw [ege]; exact hzb)]
      rw [ege, egv]
      exact cjoin_b a b ha hb B D E X B2 D2 E2 X2 va vb hza hzb w h.rd h2.rd
  · have ege : joinE a b = checkC a := by unfold joinE; rw [if_pos hza]
    have egv : joinC a b = zeroC := by unfold joinC; rw [if_neg (by rw [ege]; exact hza)]
    rw [ege, egv]
    exact cjoin_a a b ha hb B D E X B2 D2 E2 X2 va vb hza w h.rd h2.rd
end Go.Proofs.YtmhjjhaipcgbiaaGreat


namespace Go.Proofs.YtmhjjhaipcgbiaaGreat
open Go.RowKit
set_option linter.unusedVariables false
set_option linter.unusedSimpArgs false
set_option maxRecDepth 100000
set_option maxHeartbeats 1000000
def CGetP (c : Col) (i : Int) (w : World) (e : Ending) (w' : World) : Prop :=
  ∃ a cap, e = .returned (.tuple #[.int .u64 ((getV c i).bits : Int), .slice a (getV c i).text.length cap, .bool (getV c i).null, .int .i64 (getE c i)]) ∧ Own w' w.heap.size 5 1 (.slice a (getV c i).text.length cap) (getV c i).text.length ((getV c i).text.map (.int .u8)) ∧ Below w.heap.size w w'
theorem cget_none {c : Col} {i : Int} {null : Bool} {w w' : World} {e : Ending} {r : Int} (hv : getV c i = ⟨null, 0, []⟩) (he : getE c i = r) (h : GetNP null r w e w') : CGetP c i w e w' := by
  obtain ⟨h1, h2⟩ := h
  unfold CGetP
  rw [hv, he]
  exact ⟨none, 0, h1, Own.nil _ _ _ _, h2⟩
theorem cget_any (c : Col) (hc : COK c) {b1 : Nat} (B D E X : SL) (vals : List Value) (i : Int) (w : World) (h : OwnC w b1 c B D E X vals) : Calls Tryz.prog 61 #[colV c B D E X, .int .i64 i] w (CGetP c i w) := by
  by_cases hz : checkC c = 0
  · by_cases hbad : i < 0 ∨ c.n ≤ i
    · have ege : getE c i = 173 := by unfold getE; rw [if_neg (by rw [hz]; decide), if_pos hbad]
      have egv : getV c i = ⟨false, 0, []⟩ := by unfold getV; rw [if_neg (by rw [ege]; decide)]
      exact (get_place c hc B D E X vals i hz hbad w h.rd).mono fun e w' hp => cget_none egv ege hp
    · obtain ⟨j, rfl⟩ := Int.eq_ofNat_of_zero_le (show 0 ≤ i by omega)
      have ege : getE c j = 0 := by unfold getE; rw [if_neg (by rw [hz]; decide), if_neg hbad]
      have egv : getV c j = valC c j := by unfold getV; rw [if_pos ege, Int.toNat_natCast]
      cases hnl : nullB c.bits j with
      | true =>
        refine (get_null c hc B D E X vals j hz (by omega) hnl w h.rd).mono fun e w' hp => cget_none (by rw [egv, valC, if_pos hnl]) ege hp
      | false =>
        refine (get_value c hc B D E X vals j hz (by omega) hnl (own_addr h.data) w h.rd).mono fun e w' hp => ?_
        obtain ⟨a, cap, h1, h2, h3⟩ := hp
        unfold CGetP
        rw [ege, egv, valC, if_neg (by rw [hnl]; decide)]
        exact ⟨a, cap, h1, h2, h3⟩
  · have ege : getE c i = checkC c := by unfold getE; rw [if_pos hz]
    have egv : getV c i = ⟨false, 0, []⟩ := by unfold getV; rw [if_neg (by rw [ege]; exact hz)]
    exact (get_err c hc B D E X vals i hz w h.rd).mono fun e w' hp => cget_none egv ege hp
theorem cok_zero : COK zeroC := ⟨fun x h => (by cases h), fun x h => (by cases h), fun x h => (by cases h), fun x h => (by cases h), by decide, by decide, by decide, by decide, by unfold IsI64; decide, by unfold IsI64; decide, by unfold IsI64; decide, by unfold IsI64; decide⟩
theorem cok_cut {c : Col} (hc : COK c) (hs : Small18 c) (f t : Int) : COK (cutC c f t) := by
  unfold cutC
  split
  · rename_i he
    unfold cutE at he
    split at he
    · rename_i h; exact absurd he h
    · rename_i hz
      have hz : checkC c = 0 := by simpa using hz
      split at he
      · cases he
      · rename_i hb
        have e : (valsC c t.toNat).drop f.toNat = ((valsC c c.n.toNat).take t.toNat).drop f.toNat := by rw [valsC_take _ _ _ (by omega)]
        rw [e]
        have hfw := vals_few hs c.n.toNat (by have := hs.1 (check_zero hz).2.2.1; omega)
        have hvo := vals_ok hc hz
        have hm : ∀ v ∈ ((valsC c c.n.toNat).take t.toNat).drop f.toNat, v ∈ valsC c c.n.toNat := fun v hv => List.mem_of_mem_take (List.mem_of_mem_drop hv)
        exact (built_facts (check_zero hz).1 ⟨by rw [List.length_drop, List.length_take]; have := hfw.1; omega, fun v hv => hfw.2 v (hm v hv)⟩ fun v hv => hvo v (hm v hv)).cok
  · exact cok_zero
theorem cok_join {a b : Col} (ha : COK a) (hsa : Small18 a) (hb : COK b) (hsb : Small18 b) (hab : a.m = a.n → b.m = b.n → a.n + b.n ≤ 20000) : COK (joinC a b) := by
  unfold joinC
  split
  · rename_i he
    unfold joinE at he
    split at he
    · rename_i h; exact absurd he h
    · rename_i hza
      have hza : checkC a = 0 := by simpa using hza
      split at he
      · rename_i h; exact absurd he h
      · rename_i hzb
        have hzb : checkC b = 0 := by simpa using hzb
        split at he
        · rename_i hty
          have hn0 : 0 ≤ a.n := by obtain ⟨_, hm, hn, _⟩ := check_zero hza; have := ((maskOK_iff ha.bits).1 hm).1; omega
          have hn1 : 0 ≤ b.n := by obtain ⟨_, hm, hn, _⟩ := check_zero hzb; have := ((maskOK_iff hb.bits).1 hm).1; omega
          have hab := hab (check_zero hza).2.2.1 (check_zero hzb).2.2.1
          have hfa := vals_few hsa a.n.toNat (by have := hsa.1 (check_zero hza).2.2.1; omega)
          have hfb := vals_few hsb b.n.toNat (by have := hsb.1 (check_zero hzb).2.2.1; omega)
          have hva := vals_ok ha hza
          have hvb := vals_ok hb hzb
          rw [← hty.1, ← hty.2] at hvb
          exact (built_facts (check_zero hza).1 ⟨by rw [List.length_append, valsC_len2, valsC_len2]; omega, fun v hv => by rcases List.mem_append.1 hv with hv | hv; exact hfa.2 v hv; exact hfb.2 v hv⟩ fun v hv => by rcases List.mem_append.1 hv with hv | hv; exact hva v hv; exact hvb v hv).cok
        · cases he
  · exact cok_zero
theorem sameC_eq (a b : Col) : sameC a b = (decide (checkC a = 0) && (decide (checkC b = 0) && equalC a b)) := by
  rw [Bool.eq_iff_iff]
  simp only [sameC, equalC, Bool.and_eq_true, decide_eq_true_eq]
  constructor
  · rintro ⟨h1, h2, h3, h4, h5, h6, h7, h8, h9⟩
    obtain ⟨_, _, ma, _⟩ := check_zero h1
    obtain ⟨_, _, mb, _⟩ := check_zero h2
    exact ⟨h1, h2, h3, h4, h5, by omega, h6, h7, h8, h9⟩
  · rintro ⟨h1, h2, h3, h4, h5, h6, h7, h8, h9, h10⟩
    exact ⟨h1, h2, h3, h4, h5, h7, h8, h9, h10⟩
end Go.Proofs.YtmhjjhaipcgbiaaGreat


namespace Go.Proofs.YtmhjjhaipcgbiaaGreat
open Go.RowKit
set_option linter.unusedVariables false
set_option linter.unusedSimpArgs false
set_option maxRecDepth 100000
set_option maxHeartbeats 1000000
structure RW (w : World) (E TE : TypeId) (v : Value) (rows : List KRow) (f : Nat → List Value) : Prop where
  rv : Own w 0 TE 1 v rows.length (rows.map KRow.val)
  row : ∀ (i : Nat) r, rows[i]? = some r → Own w 0 E 1 r.val r.xs.length (f i)
  apart : ∀ (i j : Nat) r r', i < j → rows[i]? = some r → rows[j]? = some r' → ∀ b, r.val.ownBlock = some b → r'.val.ownBlock ≠ some b
  small : ∀ (i : Nat) r, rows[i]? = some r → r.xs.length ≤ 100000000
def RowsB (rows : List KRow) (b : Nat) : Prop := ∃ r ∈ rows, r.val.ownBlock = some b
theorem BR.rw_ {w : World} {E TE : TypeId} {K : IntKind} {v : Value} {rows : List KRow} (h : BR w E TE K v rows) : RW w E TE v rows (fun i => ((rows[i]?.map KRow.xs).getD []).map (.int K)) :=
  ⟨h.rv, fun i r hi => by simp only [hi, Option.map_some, Option.getD_some]; exact h.row i r hi, h.apart, fun i r hi => h.small r (List.mem_of_getElem? hi)⟩
theorem RW.below {w w' : World} {E TE : TypeId} {v : Value} {rows : List KRow} {f : Nat → List Value} (h : RW w E TE v rows f) (hb : Below w.heap.size w w') : RW w' E TE v rows f :=
  ⟨h.rv.below hb, fun i r hi => (h.row i r hi).below hb, h.apart, h.small⟩
theorem RW.ne {w : World} {E TE : TypeId} {v : Value} {rows : List KRow} {f : Nat → List Value} (h : RW w E TE v rows f) {i m : Nat} {r r' : KRow} (hi : rows[i]? = some r) (hm : rows[m]? = some r') (hne : m ≠ i) {b : Nat} (e : r.val.ownBlock = some b) : r'.val.ownBlock ≠ some b := by
  rcases Nat.lt_or_ge m i with hl | hl
  · exact fun e2 => h.apart m i r' r hl hm hi b e2 e
  · exact h.apart i m r r' (by omega) hi hm b e
theorem RW.store {w : World} {E TE : TypeId} {v : Value} {rows : List KRow} {f : Nat → List Value} (h : RW w E TE v rows f) (hne : E ≠ TE) {i g off c : Nat} {xs : List Int} (hi : rows[i]? = some ⟨some ⟨g, off, none⟩, c, xs⟩) (j : Nat) (u : Value) :
    RW (w.setCell ⟨g, off + j, none⟩ u) E TE v rows (fun m => if m = i then (f i).set j u else f m) := by
  have hb : (KRow.val ⟨some ⟨g, off, none⟩, c, xs⟩).ownBlock = some g := rfl
  obtain ⟨cur, hg⟩ := own_blk (h.row i _ hi) hb
  refine ⟨h.rv.set_other (h.rv.blk_ne hg hne) _, fun m r hm => ?_, h.apart, h.small⟩
  by_cases e : m = i
  · subst e
    rw [hi] at hm; cases hm
    rw [if_pos rfl]
    exact (h.row m _ hi).stored j u
  · rw [if_neg e]
    exact (h.row m r hm).set_other (h.ne hi hm e hb) _
def Full (mark : Nat → Value) (rows : List KRow) (f : Nat → List Value) (i k : Nat) : Prop :=
  (∀ m r, m < i → rows[m]? = some r → f m = List.replicate r.xs.length (mark m)) ∧ (f i).take k = List.replicate k (mark i)
theorem Full.start (mark : Nat → Value) (rows : List KRow) (f : Nat → List Value) : Full mark rows f 0 0 := ⟨fun m r h => by omega, by simp⟩
theorem Full.step {mark : Nat → Value} {rows : List KRow} {f : Nat → List Value} {i k : Nat} (h : Full mark rows f i k) (hk : k < (f i).length) : Full mark rows (fun m => if m = i then (f i).set k (mark i) else f m) i (k + 1) := by
  refine ⟨fun m r hm hr => ?_, ?_⟩
  · show (if m = i then (f i).set k (mark i) else f m) = _
    rw [if_neg (by omega)]; exact h.1 m r hm hr
  · show List.take (k + 1) (if i = i then (f i).set k (mark i) else f i) = _
    rw [if_pos rfl, List.take_add_one, List.take_set_of_le (Nat.le_refl _), h.2, List.getElem?_set_self hk, List.replicate_succ']
    rfl
theorem Full.next {w : World} {E TE : TypeId} {v : Value} {mark : Nat → Value} {rows : List KRow} {f : Nat → List Value} {i : Nat} {r : KRow} (h : Full mark rows f i r.xs.length) (hw : RW w E TE v rows f) (hi : rows[i]? = some r) : Full mark rows f (i + 1) 0 := by
  refine ⟨fun m r' hm hr => ?_, by simp⟩
  by_cases e : m = i
  · subst e
    rw [hi] at hr; cases hr
    have hl := (hw.row m _ hi).1
    rw [← h.2, List.take_of_length_le (by omega)]
  · exact h.1 m r' (by omega) hr
structure GR (base : Nat) (w : World) (E TE : TypeId) (mark m0 m1 : Nat → Value) (rows : List KRow) (gv : Value) (gs : List Value) : Prop where
  gv : Own w base TE 1 gv gs.length gs
  g : ∀ (i : Nat) r, i < gs.length → rows[i]? = some r → ∃ a c, gs[i]? = some (.slice a (r.xs.length + 2) c) ∧ Own w 0 E 1 (.slice a (r.xs.length + 2) c) (r.xs.length + 2) (List.replicate r.xs.length (mark i) ++ [m0 i, m1 i]) ∧
    ∀ b, (Value.slice a (r.xs.length + 2) c).ownBlock = some b → r.val.ownBlock = some b ∨ base ≤ b
theorem GR.start {base : Nat} {w : World} {E TE : TypeId} {mark m0 m1 : Nat → Value} {rows : List KRow} : GR base w E TE mark m0 m1 rows (.slice none 0 0) [] := ⟨Own.nil _ _ _ _, fun i r h => by simp at h⟩
theorem GR.below {base : Nat} {w w' : World} {E TE : TypeId} {mark m0 m1 : Nat → Value} {rows : List KRow} {gv : Value} {gs : List Value} (h : GR base w E TE mark m0 m1 rows gv gs) (hb : Below w.heap.size w w') : GR base w' E TE mark m0 m1 rows gv gs :=
  ⟨h.gv.below hb, fun i r h1 h2 => by
    obtain ⟨a, c, q1, q2, q3⟩ := h.g i r h1 h2
    exact ⟨a, c, q1, q2.below hb, q3⟩⟩
theorem grow_gv {base : Nat} {w w1 w2 w3 w4 : World} {E TE : TypeId} {mark m0 m1 : Nat → Value} {rows : List KRow} {gv g1 g2 rv : Value} {n : Nat} {xs ys na nb : List Value} {gs : List Value}
    (hg : GR base w E TE mark m0 m1 rows gv gs) (hbase : base ≤ w.heap.size) (hrb : ∀ b, rv.ownBlock = some b → b < base)
    (hb1 : Below w.heap.size w w1) (hA : AppP w1 0 E 1 rv n xs 1 na g1 w2) (hb2 : Below w2.heap.size w2 w3) (hB : AppP w3 0 E 1 g1 (n + 1) ys 1 nb g2 w4) : Own w4 base TE 1 gv gs.length gs := by
  have K1 : Kept (fun b => rv.ownBlock = some b) w w2 := (Kept.of_below hb1).trans ((Kept.of_grown hA.grown).mono (fun b e _ => e.symm)) (fun _ e _ => e)
  have K2 : Kept (fun b => g1.ownBlock = some b) w2 w4 := (Kept.of_below hb2).trans ((Kept.of_grown hB.grown).mono (fun b e _ => e.symm)) (fun _ e _ => e)
  have sw1 : w.heap.size ≤ w1.heap.size := hb1.size
  refine (hg.gv.kept K1 (fun b e e2 => by have := (hg.gv.lt b e).1; have := hrb b e2; omega)).kept K2 (fun b e e2 => ?_)
  rcases hA.blk with h | ⟨b', h, h2⟩
  · have := (hg.gv.lt b e).1; have := hrb b (h ▸ e2); omega
  · rw [h] at e2; cases e2
    have := (hg.gv.lt b e).2; omega
theorem grow_step {base : Nat} {w w1 w2 w3 w4 w5 w6 : World} {E TE : TypeId} {mark m0 m1 : Nat → Value} {rows : List KRow} {v gv gv' g1 g2 : Value} {gs : List Value} {f : Nat → List Value} {r : KRow} (hw : RW w E TE v rows f) (hf : ∀ m r, rows[m]? = some r → f m = List.replicate r.xs.length (mark m))
    (hg : GR base w E TE mark m0 m1 rows gv gs) (hi : rows[gs.length]? = some r) (hbase : base ≤ w.heap.size) (hrb : ∀ b, RowsB rows b → b < base) (hvb : ∀ b, v.ownBlock = some b → b < base) (hne : E ≠ TE)
    (hb1 : Below w.heap.size w w1) (hA : AppP w1 0 E 1 r.val r.xs.length (f gs.length) 1 [m0 gs.length] g1 w2)
    (hb2 : Below w2.heap.size w2 w3) (hB : AppP w3 0 E 1 g1 (r.xs.length + 1) (f gs.length ++ [m0 gs.length]) 1 [m1 gs.length] g2 w4)
    (hb3 : Below w4.heap.size w4 w5) (hC : AppP w5 base TE 1 gv gs.length gs 1 [g2] gv' w6) :
    RW w6 E TE v rows f ∧ GR base w6 E TE mark m0 m1 rows gv' (gs ++ [g2]) ∧ Kept (fun b => RowsB rows b ∨ base ≤ b) w w6 := by
  have hrm : r ∈ rows := List.mem_of_getElem? hi
  have K1 : Kept (fun b => r.val.ownBlock = some b) w w2 := (Kept.of_below hb1).trans ((Kept.of_grown hA.grown).mono (fun b e _ => e.symm)) (fun _ e _ => e)
  have K2 : Kept (fun b => g1.ownBlock = some b) w2 w4 := (Kept.of_below hb2).trans ((Kept.of_grown hB.grown).mono (fun b e _ => e.symm)) (fun _ e _ => e)
  have K3 : Kept (fun b => gv.ownBlock = some b) w4 w6 := (Kept.of_below hb3).trans ((Kept.of_grown hC.grown).mono (fun b e _ => e.symm)) (fun _ e _ => e)
  have s1 : w.heap.size ≤ w2.heap.size := K1.size
  have s2 : w2.heap.size ≤ w4.heap.size := K2.size
  have sw1 : w.heap.size ≤ w1.heap.size := hb1.size
  have sw3 : w2.heap.size ≤ w3.heap.size := hb2.size
  have g1b : ∀ b, g1.ownBlock = some b → r.val.ownBlock = some b ∨ w.heap.size ≤ b := fun b e => by
    rcases hA.blk with h | ⟨b', h, h2⟩
    · exact .inl (h ▸ e)
    · rw [h] at e; cases e; exact .inr (by omega)
  have gvb : ∀ b, gv.ownBlock = some b → base ≤ b := fun b e => (hg.gv.lt b e).1
  have rlt : ∀ b, r.val.ownBlock = some b → b < base := fun b e => hrb b ⟨r, hrm, e⟩
  have K : Kept (fun b => RowsB rows b ∨ base ≤ b) w w6 := by
    refine Kept.trans (S := fun b => RowsB rows b ∨ base ≤ b) (Kept.trans (S := fun b => RowsB rows b ∨ base ≤ b) (K1.mono (fun b e _ => .inl ⟨r, hrm, e⟩)) K2 (fun b e _ => ?_)) K3 (fun b e _ => .inr (gvb b e))
    rcases g1b b e with h | h
    · exact .inl ⟨r, hrm, h⟩
    · exact .inr (by omega)
  -- a row of type E is none of the list's
  have keep3 : ∀ {a : Value} {n : Nat} {xs : List Value}, Own w4 0 E 1 a n xs → Own w6 0 E 1 a n xs := fun {a n xs} h => h.kept K3 (fun b e e2 => by
    have h5 : Own w4 base TE 1 gv gs.length gs := (hg.gv.kept K1 (fun b e e2 => by have := gvb b e; have := rlt b e2; omega)).kept K2 (fun b e e2 => by
      rcases g1b b e2 with h | h
      · have := gvb b e; have := rlt b h; omega
      · have := (hg.gv.lt b e).2; omega)
    obtain ⟨cur, q⟩ := own_blk h e
    exact h5.blk_ne q hne e2)
  refine ⟨⟨hw.rv.kept K (fun b e h => ?_), fun m x hm => ?_, hw.apart, hw.small⟩, ⟨?_, fun j x hj hx => ?_⟩, K⟩
  · rcases h with ⟨x, hx, e2⟩ | h
    · obtain ⟨m, hm, rfl⟩ := List.mem_iff_getElem.1 hx
      obtain ⟨cur, q⟩ := own_blk (hw.row m _ (List.getElem?_eq_getElem hm)) e2
      exact hw.rv.blk_ne q hne e
    · have := hvb b e; omega
  · apply keep3
    by_cases e : m = gs.length
    · subst e
      rw [hi] at hm; cases hm
      rcases hA.same with ⟨a, c, e1, e2⟩ | ⟨b, e1, h1⟩
      · have h4 := hB.old
        rw [e2] at h4
        rw [e1]
        exact own_front0 h4 (by simpa using (hw.row _ _ hi).1)
      · refine hA.old.kept K2 (fun b2 e2 e3 => ?_)
        rw [e1] at e3; cases e3
        have := rlt b e2
        omega
    · refine ((hw.row m x hm).kept K1 (fun b e1 e2 => hw.ne hi hm e e2 e1)).kept K2 (fun b e1 e2 => ?_)
      rcases g1b b e2 with h | h
      · exact hw.ne hi hm e h e1
      · have := hrb b ⟨x, List.mem_of_getElem? hm, e1⟩; omega
  · rw [List.length_append]; exact hC.own
  · by_cases e : j < gs.length
    · obtain ⟨a, c, q1, q2, q3⟩ := hg.g j x e hx
      refine ⟨a, c, by rw [List.getElem?_append_left e]; exact q1, keep3 ((q2.kept K1 (fun b e1 e2 => ?_)).kept K2 (fun b e1 e2 => ?_)), q3⟩
      · rcases q3 b e1 with h | h
        · exact hw.ne hi hx (by omega) e2 h
        · have := rlt b e2; omega
      · rcases g1b b e2 with h | h
        · rcases q3 b e1 with h3 | h3
          · exact hw.ne hi hx (by omega) h h3
          · have := rlt b h; omega
        · have := (q2.lt b e1).2; omega
    · have hj2 : j = gs.length := by simp at hj; omega
      subst hj2
      rw [hi] at hx; cases hx
      obtain ⟨a, c, e2⟩ := hB.own.form
      have hO := hB.own
      subst e2
      refine ⟨a, c, by rw [List.getElem?_append_right (Nat.le_refl _)]; simp, keep3 ?_, fun b e => ?_⟩
      · rw [hf _ _ hi] at hO
        simpa [List.append_assoc] using hO
      · rcases hB.blk with h | ⟨b', h, h2⟩
        · rcases g1b b (h ▸ e) with h | h
          · exact .inl h
          · exact .inr (by omega)
        · have e' : some b' = some b := h.symm.trans e
          cases e'; exact .inr (by omega)
end Go.Proofs.YtmhjjhaipcgbiaaGreat


namespace Go.Proofs.YtmhjjhaipcgbiaaGreat
open Go.RowKit
set_option linter.unusedVariables false
set_option linter.unusedSimpArgs false
set_option maxRecDepth 100000
set_option maxHeartbeats 1000000
def bM (d : Int) (m : Nat) : Value := .int .u8 (((m : Int) + d) % 256)
theorem byteinfo8 : (Tryz.prog.info? 5).map (fun i => (i.zero, i.size, i.bytes)) = some (some (.int .u8 0), 1, 1) := by kernel_rfl
theorem bytesinfo8 : (Tryz.prog.info? 43).map (fun i => (i.zero, i.size, i.bytes)) = some (some (.slice none 0 0), 1, 24) := by kernel_rfl
theorem rw_at {w : World} {E TE : TypeId} {a : Option Addr} {c : Nat} {rows : List KRow} {f : Nat → List Value} (h : RW w E TE (.slice a rows.length c) rows f) {i : Nat} (hi : i < rows.length) : ∃ g off, a = some ⟨g, off, none⟩ ∧ rows.length ≤ c ∧ c ≤ 9223372036854775807 ∧ w.cell? ⟨g, off + i, none⟩ = some rows[i].val := by
  obtain ⟨g, off, cap, e, h1, h2, h3, h4, h5, _⟩ := h.rv.some_ (by omega)
  simp only [Value.slice.injEq, true_and] at e
  obtain ⟨rfl, rfl⟩ := e
  exact ⟨g, off, rfl, h3, h4, h5 i _ (by rw [List.getElem?_map, List.getElem?_eq_getElem hi]; rfl)⟩
theorem rw_row {w : World} {E TE : TypeId} {v : Value} {rows : List KRow} {f : Nat → List Value} (h : RW w E TE v rows f) {i : Nat} {a : Option Addr} {c : Nat} {xs : List Int} (hi : rows[i]? = some ⟨a, c, xs⟩) {k : Nat} (hk : k < xs.length) : ∃ g off u, a = some ⟨g, off, none⟩ ∧ xs.length ≤ c ∧ c ≤ 9223372036854775807 ∧ w.cell? ⟨g, off + k, none⟩ = some u ∧ (f i)[k]? = some u ∧ ∀ k, w.frozen? ⟨g, k, none⟩ = false := by
  have h0 := h.row i _ hi
  obtain ⟨g, off, cap, e, h1, h2, h3, h4, h5, h6⟩ := h0.some_ (show 0 < xs.length by omega)
  simp only [KRow.val, Value.slice.injEq, true_and] at e
  obtain ⟨rfl, rfl⟩ := e
  have hl : k < (f i).length := by have := h0.1; simp at this; omega
  exact ⟨g, off, _, rfl, h3, h4, h5 k _ (List.getElem?_eq_getElem hl), List.getElem?_eq_getElem hl, h6⟩
theorem rw_mark {w : World} {E TE : TypeId} {v : Value} {mark : Nat → Value} {rows : List KRow} {f : Nat → List Value} (h : RW w E TE v rows f) (hf : ∀ m r, rows[m]? = some r → f m = List.replicate r.xs.length (mark m)) {i : Nat} {a : Option Addr} {c : Nat} {xs : List Int} (hi : rows[i]? = some ⟨a, c, xs⟩) {k : Nat} (hk : k < xs.length) : ∃ g off, a = some ⟨g, off, none⟩ ∧ xs.length ≤ c ∧ c ≤ 9223372036854775807 ∧ w.cell? ⟨g, off + k, none⟩ = some (mark i) := by
  obtain ⟨g, off, u, e, h1, h2, h3, h4, _⟩ := rw_row h hi hk
  rw [hf i _ hi] at h4
  rw [List.getElem?_replicate, if_pos hk] at h4
  exact ⟨g, off, e, h1, h2, h4 ▸ h3⟩
theorem gr_at {base : Nat} {w : World} {E TE : TypeId} {mark m0 m1 : Nat → Value} {rows : List KRow} {ga : Option Addr} {gc : Nat} {gs : List Value} (h : GR base w E TE mark m0 m1 rows (.slice ga gs.length gc) gs) {i : Nat} {a : Option Addr} {c : Nat} {xs : List Int} (hi : rows[i]? = some ⟨a, c, xs⟩) (hl : i < gs.length) :
    ∃ g off g5 o5 c5, ga = some ⟨g, off, none⟩ ∧ gs.length ≤ gc ∧ gc ≤ 9223372036854775807 ∧ w.cell? ⟨g, off + i, none⟩ = some (.slice (some ⟨g5, o5, none⟩) (xs.length + 2) c5) ∧ xs.length + 2 ≤ c5 ∧ c5 ≤ 9223372036854775807 ∧ (∀ k, k < xs.length → w.cell? ⟨g5, o5 + k, none⟩ = some (mark i)) ∧ w.cell? ⟨g5, o5 + xs.length, none⟩ = some (m0 i) ∧ w.cell? ⟨g5, o5 + (xs.length + 1), none⟩ = some (m1 i) := by
  obtain ⟨a5, c5, q1, q2, _⟩ := h.g i _ hl hi
  dsimp only at q1 q2
  obtain ⟨g, off, cap, e, h1, h2, h3, h4, h5, _⟩ := h.gv.some_ (by omega)
  simp only [Value.slice.injEq, true_and] at e
  obtain ⟨rfl, rfl⟩ := e
  obtain ⟨g5, o5, cap, e, _, _, k3, k4, k5, _⟩ := q2.some_ (by omega)
  simp only [Value.slice.injEq, true_and] at e
  obtain ⟨rfl, rfl⟩ := e
  refine ⟨g, off, g5, o5, c5, rfl, h3, h4, h5 i _ q1, k3, k4, fun k hk => k5 k _ ?_, k5 _ _ ?_, k5 _ _ ?_⟩
  · rw [List.getElem?_append_left (by simpa using hk), List.getElem?_replicate, if_pos hk]
  · rw [List.getElem?_append_right (by simp)]; simp
  · rw [List.getElem?_append_right (by simp)]; simp
theorem close_bytes (bk : Nat) (rows : List KRow) (bv sv iv hv : Value) (w : World) (hblk : w.heap[bk]? = some (.cells #[bv, sv, .slice none 0 0, .slice none 0 0, iv, hv] 41 (0, 0))) (hb : BR w 5 43 .u8 bv rows) :
    Calls Tryz.prog 96 #[.pointer (some ⟨bk, 0, none⟩)] w (fun e w' => e = .returned (.bool true) ∧ Kept (RowsB rows) w w') := by
  obtain ⟨ba, bc, rfl⟩ := hb.rv.form
  have hf1 := hb.few
  have hnr : ¬ RowsB rows bk := by
    rintro ⟨r, hr, e⟩
    obtain ⟨m, hm, rfl⟩ := List.mem_iff_getElem.1 hr
    obtain ⟨cur, q⟩ := own_blk (hb.row m _ (List.getElem?_eq_getElem hm)) e
    exact blk_ne hblk q (by decide) rfl
  have HBK := Aside.mk (show ∀ {wr : World}, Kept (RowsB rows) w wr → wr.heap[bk]? = some (.cells #[.slice ba rows.length bc, sv, .slice none 0 0, .slice none 0 0, iv, hv] 41 (0, 0)) from fun {wr} k => (k.block bk (lt_of_blk hblk) hnr).trans hblk)
  have H0 := Aside.mk hb.rw_
  have HLT := Aside.mk (And.intro (show ∀ b, RowsB rows b → b < w.heap.size from fun b ⟨r, hr, e⟩ => hb.lt.2 r hr b e) hb.lt.1)
  clear hblk hb hnr
  go_enter Tryz.func96, Tryz.ntmps96
  go_wp2_with fail
  go_loopw [3] (fun i0 wr => ∃ i : Nat, i ≤ rows.length ∧ i0 = .int .i64 (i : Int) ∧ Aside (∃ f, RW wr 5 43 (.slice ba rows.length bc) rows f ∧ Full (bM 0) rows f i 0 ∧ Kept (RowsB rows) w wr)) (fun i0 _ => rows.length - (intOf i0).toNat)
  case atStart => exact ⟨0, by omega, rfl, ⟨_, H0.out, Full.start _ _ _, Kept.refl _ _⟩⟩
  case round =>
    obtain ⟨i, hi, rfl, hp⟩ := hrel
    obtain ⟨f, hR, hF, hK⟩ := hp.out
    have HR := Aside.mk hR
    have HF := Aside.mk hF
    have HK := Aside.mk hK
    clear hR hF hK hp
    obtain ⟨c0, c1, c2, c3, c4, c5⟩ := box6b (HBK.out HK.out)
    by_cases hlt : i < rows.length
    · have HI := Aside.mk (List.getElem?_eq_getElem hlt)
      obtain ⟨⟨a, c, xs⟩, hrow⟩ : ∃ r, rows[i] = r := ⟨_, rfl⟩
      rw [hrow] at HI
      clear hrow
      generalize hn : xs.length = n at *
      have HN := Aside.mk hn
      clear hn
      go_wp2_with fail
      clear c0 c1 c2 c3 c4 c5
      go_loopw [4] (fun j0 wr => ∃ k : Nat, k ≤ n ∧ j0 = .int .i64 (k : Int) ∧ Aside (∃ f, RW wr 5 43 (.slice ba rows.length bc) rows f ∧ Full (bM 0) rows f i k ∧ Kept (RowsB rows) w wr)) (fun j0 _ => n - (intOf j0).toNat)
      case atStart => exact ⟨0, by omega, rfl, ⟨_, HR.out, HF.out, HK.out⟩⟩
      case round =>
        clear HR HF HK
        obtain ⟨k, hk, rfl, hp⟩ := hrel
        obtain ⟨f, hR, hF, hK⟩ := hp.out
        have HR := Aside.mk hR
        have HF := Aside.mk hF
        have HK := Aside.mk hK
        clear hR hF hK hp
        obtain ⟨c0, c1, c2, c3, c4, c5⟩ := box6b (HBK.out HK.out)
        obtain ⟨g1, o1, e1, hx1, hx2, d1⟩ := rw_at HR.out hlt
        rw [(Option.some.inj ((List.getElem?_eq_getElem hlt).symm.trans HI.out))] at d1
        subst e1
        simp only [KRow.val, HN.out] at d1
        by_cases hkl : k < n
        · obtain ⟨g, o, u, e2, hx3, hx4, d2, hu, hf0⟩ := rw_row HR.out HI.out (show k < xs.length by have := HN.out; omega)
          subst e2
          rw [HN.out] at hx3
          have HU := Aside.mk hu
          clear hu
          go_wp2_with fail
          refine ⟨⟨k + 1, by omega, by simp, ⟨_, HR.out.store (by decide) HI.out k (bM 0 i), HF.out.step (List.getElem?_eq_some_iff.1 HU.out).1, HK.out.trans (Kept.setCell _ _ _) (fun b e _ => ?_)⟩⟩, by simp [intOf]; omega⟩
          exact e ▸ ⟨_, List.mem_of_getElem? HI.out, rfl⟩
        · obtain rfl : k = n := by omega
          go_wp2_with fail
          refine ⟨⟨i + 1, by omega, by simp, ⟨_, HR.out, Full.next (r := ⟨a, c, xs⟩) (by rw [HN.out]; exact HF.out) HR.out HI.out, HK.out⟩⟩, by simp [intOf]; omega⟩
    · obtain rfl : i = rows.length := by omega
      have HFULL := Aside.mk (show ∀ m r, rows[m]? = some r → f m = List.replicate r.xs.length (bM 0 m) from fun m r hm => HF.out.1 m r (List.getElem?_eq_some_iff.1 hm).1 hm)
      clear HF
      go_wp2_with fail
      clear c0 c1 c2 c3 c4 c5
      go_loopw [5, 6] (fun gv i0 wr => ∃ (gs : List Value) (ga : Option Addr) (gc : Nat), gs.length ≤ rows.length ∧ gv = .slice ga gs.length gc ∧ i0 = .int .i64 (gs.length : Int) ∧ Aside (RW wr 5 43 (.slice ba rows.length bc) rows f ∧ GR w.heap.size wr 5 43 (bM 0) (bM 100) (bM 101) rows (.slice ga gs.length gc) gs ∧ Kept (RowsB rows) w wr)) (fun _ i0 _ => rows.length - (intOf i0).toNat)
      case atStart => exact ⟨[], none, 0, by simp, rfl, rfl, ⟨HR.out, GR.start, HK.out⟩⟩
      case round =>
        clear HR HK
        obtain ⟨gs, ga, gc, hi, rfl, rfl, hp⟩ := hrel
        obtain ⟨hR, hG, hK⟩ := hp.out
        have HR := Aside.mk hR
        have HG := Aside.mk hG
        have HK := Aside.mk hK
        clear hR hG hK hp
        obtain ⟨c0, c1, c2, c3, c4, c5⟩ := box6b (HBK.out HK.out)
        by_cases hlt : gs.length < rows.length
        · have HI := Aside.mk (List.getElem?_eq_getElem hlt)
          obtain ⟨g1, o1, e1, hx1, hx2, d1⟩ := rw_at HR.out hlt
          obtain ⟨⟨a, c, xs⟩, hrow⟩ : ∃ r, rows[gs.length] = r := ⟨_, rfl⟩
          rw [hrow] at HI d1
          clear hrow
          subst e1
          have hsm := HR.out.small _ _ HI.out
          simp only [KRow.val] at d1 hsm
          generalize hn : xs.length = n at *
          have HN := Aside.mk hn
          clear hn
          have HO := Aside.mk (show Own wr 0 5 1 (.slice a n c) n (f gs.length) from by have := HR.out.row _ _ HI.out; simp only [KRow.val, HN.out] at this; exact this)
          go_wp2_with (at_builtin; refine wpList_app2 _ rfl _ _ 43 43 rfl 0 5 (.int .u8 0) 1 1 Tryz.underlying43 byteinfo8 rfl _ n (f gs.length) rfl (HO.out.alloc _) _ 1 [bM 100 gs.length] rfl (src_one Tryz.underlying43 _ _ _ rfl rfl) (by unfold maxLen; omega) (by omega) (Nat.zero_le _) ?_)
          intro v2 w2 hA
          obtain ⟨a2, q2, rfl⟩ := hA.own.form
          have HA := Aside.mk hA
          clear hA c0 c1 c2 c3 c4 c5 d1
          go_wp2_with (at_builtin; refine wpList_app2 _ rfl _ _ 43 43 rfl 0 5 (.int .u8 0) 1 1 Tryz.underlying43 byteinfo8 rfl _ (n + 1) (f gs.length ++ [bM 100 gs.length]) rfl (HA.out.own.alloc _) _ 1 [bM 101 gs.length] rfl (src_one Tryz.underlying43 _ _ _ rfl rfl) (by unfold maxLen; omega) (by omega) (Nat.zero_le _) ?_)
          intro v4 w4 hB
          obtain ⟨a4, q4, rfl⟩ := hB.own.form
          have HB := Aside.mk hB
          clear hB
          have HBS := Aside.mk (show w.heap.size ≤ w4.heap.size from by
            have s1 := HK.out.size
            have s2 : wr.heap.size ≤ w2.heap.size := by have := (Kept.of_grown HA.out.grown).size; simp at this; omega
            have s3 : w2.heap.size ≤ w4.heap.size := by have := (Kept.of_grown HB.out.grown).size; simp at this; omega
            omega)
          have HGV := Aside.mk (grow_gv HG.out HK.out.size (fun b e => HLT.out.1 b ⟨_, List.mem_of_getElem? HI.out, by simpa only [KRow.val, HN.out] using e⟩) (below_new wr _) HA.out (below_new w2 _) HB.out)
          go_wp2_with (at_builtin; refine wpList_app2 _ rfl _ _ 37 37 rfl w.heap.size 43 (.slice none 0 0) 1 24 Tryz.underlying37 bytesinfo8 rfl _ gs.length gs rfl (HGV.out.alloc _) _ 1 [.slice a4 (n + 1 + 1) q4] rfl (src_one Tryz.underlying37 _ _ _ rfl rfl) (by unfold maxLen; omega) (by omega) (Nat.le_trans HBS.out (by simp)) ?_)
          intro v6 w6 hC
          obtain ⟨a6, q6, rfl⟩ := hC.own.form
          have HC := Aside.mk hC
          clear hC
          go_wp2_with fail
          have hstep := grow_step (r := ⟨a, c, xs⟩) HR.out HFULL.out HG.out HI.out HK.out.size HLT.out.1 HLT.out.2 (by decide) (below_new wr _) (by simp only [KRow.val, HN.out]; exact HA.out) (below_new w2 _) (by simp only [HN.out]; exact HB.out) (below_new w4 _) HC.out
          refine ⟨⟨gs ++ [.slice a4 (n + 1 + 1) q4], a6, q6, by simp; omega, by simp, by simp, ⟨hstep.1, by simpa using hstep.2.1, HK.out.trans hstep.2.2 (fun b e hb => e.elim id (fun h => by omega))⟩⟩, by simp [intOf]; omega⟩
        · obtain hge : gs.length = rows.length := by omega
          clear hi hlt
          obtain ⟨wg, hwg⟩ : ∃ x, x = wr := ⟨_, rfl⟩
          subst hwg
          go_wp2_with fail
          clear c0 c1 c2 c3 c4 c5
          go_loopw [8] (fun i0 wr2 => ∃ i : Nat, i ≤ rows.length ∧ i0 = .int .i64 (i : Int) ∧ Aside (Below wg.heap.size wg wr2)) (fun i0 _ => rows.length - (intOf i0).toNat)
          case atStart => exact ⟨0, by omega, rfl, ⟨Below.refl _ _⟩⟩
          case round =>
            obtain ⟨i, hi, rfl, hp⟩ := hrel
            have HR2 := Aside.mk (HR.out.below hp.out)
            have HG2 := Aside.mk (HG.out.below hp.out)
            have HK2 := Aside.mk (HK.out.trans (Kept.of_below (S := fun _ => False) hp.out) (fun _ h _ => h.elim))
            obtain ⟨c0, c1, c2, c3, c4, c5⟩ := box6b (HBK.out HK2.out)
            by_cases hlt : i < rows.length
            · have HI := Aside.mk (List.getElem?_eq_getElem hlt)
              obtain ⟨g1, o1, e1, hx1, hx2, d1⟩ := rw_at HR2.out hlt
              obtain ⟨⟨a, c, xs⟩, hrow⟩ : ∃ r, rows[i] = r := ⟨_, rfl⟩
              rw [hrow] at HI d1
              clear hrow
              subst e1
              have hsm := HR2.out.small _ _ HI.out
              simp only [KRow.val] at d1 hsm
              generalize hn : xs.length = n at *
              have HN := Aside.mk hn
              clear hn
              have hl2 : i < gs.length := by omega
              go_wp2_with fail
              clear c0 c1 c2 c3 c4 c5 d1 HR2 HG2 HK2
              go_loopw [10] (fun j0 wr2 => ∃ k : Nat, k ≤ n ∧ j0 = .int .i64 (k : Int) ∧ Aside (Below wg.heap.size wg wr2)) (fun j0 _ => n - (intOf j0).toNat)
              case atStart => exact ⟨0, by omega, rfl, hp⟩
              case round =>
                clear hp
                obtain ⟨k, hk, rfl, hp⟩ := hrel
                have HR2 := Aside.mk (HR.out.below hp.out)
                have HG2 := Aside.mk (HG.out.below hp.out)
                have HK2 := Aside.mk (HK.out.trans (Kept.of_below (S := fun _ => False) hp.out) (fun _ h _ => h.elim))
                obtain ⟨c0, c1, c2, c3, c4, c5⟩ := box6b (HBK.out HK2.out)
                obtain ⟨g1, o1, e1, _, _, d1⟩ := rw_at HR2.out hlt
                rw [(Option.some.inj ((List.getElem?_eq_getElem hlt).symm.trans HI.out))] at d1
                simp only [KRow.val, HN.out] at d1
                cases e1
                obtain ⟨g2, o2, g5, o5, c6, e2, hy1, hy2, d2, hy3, hy4, hm, hm0, hm1⟩ := gr_at HG2.out HI.out hl2
                subst e2
                have hx : (((i : Int) % 256) != ((i : Int) % 256)) = false := by simp
                have hxx : ((((i : Int) + 100) % 256) != (((i : Int) + 100) % 256)) = false := by simp
                have hxy : ((((i : Int) + 101) % 256) != (((i : Int) + 101) % 256)) = false := by simp
                rw [HN.out] at hm hm0 hm1 d2 hy3
                by_cases hkl : k < n
                · obtain ⟨g, o, e3, hz1, hz2, d3⟩ := rw_mark HR2.out HFULL.out HI.out (show k < xs.length by have := HN.out; omega)
                  subst e3
                  rw [HN.out] at hz1
                  have d4 := hm k hkl
                  replace d3 : wr.cell? ⟨g, o + k, none⟩ = some (.int .u8 ((i : Int) % 256)) := d3
                  replace d4 : wr.cell? ⟨g5, o5 + k, none⟩ = some (.int .u8 ((i : Int) % 256)) := d4
                  clear hm hm0 hm1
                  go_wp2_with fail
                  exact ⟨⟨k + 1, by omega, by simp, ⟨by first | exact hp.out | exact below_chain hp.out (below_drewN _ _ _)⟩⟩, by simp [intOf]; omega⟩
                · obtain rfl : k = n := by omega
                  clear hm
                  replace hm0 : wr.cell? ⟨g5, o5 + k, none⟩ = some (.int .u8 (((i : Int) + 100) % 256)) := hm0
                  replace hm1 : wr.cell? ⟨g5, o5 + (k + 1), none⟩ = some (.int .u8 (((i : Int) + 101) % 256)) := hm1
                  go_wp2_with fail
                  exact ⟨⟨i + 1, by omega, by simp, ⟨by first | exact hp.out | exact below_chain hp.out (below_drewN _ _ _)⟩⟩, by simp [intOf]; omega⟩
            · obtain rfl : i = rows.length := by omega
              go_wp2_with fail
              go_ret
              exact ⟨rfl, HK2.out⟩
end Go.Proofs.YtmhjjhaipcgbiaaGreat


namespace Go.Proofs.YtmhjjhaipcgbiaaGreat
open Go.RowKit
set_option linter.unusedVariables false
set_option linter.unusedSimpArgs false
set_option maxRecDepth 100000
set_option maxHeartbeats 1000000
def iM (d : Int) (m : Nat) : Value := .int .i64 ((m : Int) + d)
theorem intinfo8 : (Tryz.prog.info? 3).map (fun i => (i.zero, i.size, i.bytes)) = some (some (.int .i64 0), 1, 8) := by kernel_rfl
theorem intsinfo8 : (Tryz.prog.info? 61).map (fun i => (i.zero, i.size, i.bytes)) = some (some (.slice none 0 0), 1, 24) := by kernel_rfl
theorem close_ints (bk : Nat) (rows : List KRow) (iv hv bv sv : Value) (w : World) (hblk : w.heap[bk]? = some (.cells #[iv, hv, .slice none 0 0, .slice none 0 0, bv, sv] 41 (0, 0))) (hb : BR w 3 61 .i64 bv rows) :
    Calls Tryz.prog 98 #[.pointer (some ⟨bk, 0, none⟩)] w (fun e w' => e = .returned (.bool true) ∧ Kept (RowsB rows) w w') := by
  obtain ⟨ba, bc, rfl⟩ := hb.rv.form
  have hf1 := hb.few
  have hnr : ¬ RowsB rows bk := by
    rintro ⟨r, hr, e⟩
    obtain ⟨m, hm, rfl⟩ := List.mem_iff_getElem.1 hr
    obtain ⟨cur, q⟩ := own_blk (hb.row m _ (List.getElem?_eq_getElem hm)) e
    exact blk_ne hblk q (by decide) rfl
  have HBK := Aside.mk (show ∀ {wr : World}, Kept (RowsB rows) w wr → wr.heap[bk]? = some (.cells #[iv, hv, .slice none 0 0, .slice none 0 0, .slice ba rows.length bc, sv] 41 (0, 0)) from fun {wr} k => (k.block bk (lt_of_blk hblk) hnr).trans hblk)
  have H0 := Aside.mk hb.rw_
  have HLT := Aside.mk (And.intro (show ∀ b, RowsB rows b → b < w.heap.size from fun b ⟨r, hr, e⟩ => hb.lt.2 r hr b e) hb.lt.1)
  clear hblk hb hnr
  go_enter Tryz.func98, Tryz.ntmps98
  go_wp2_with fail
  go_loopw [3] (fun i0 wr => ∃ i : Nat, i ≤ rows.length ∧ i0 = .int .i64 (i : Int) ∧ Aside (∃ f, RW wr 3 61 (.slice ba rows.length bc) rows f ∧ Full (iM 0) rows f i 0 ∧ Kept (RowsB rows) w wr)) (fun i0 _ => rows.length - (intOf i0).toNat)
  case atStart => exact ⟨0, by omega, rfl, ⟨_, H0.out, Full.start _ _ _, Kept.refl _ _⟩⟩
  case round =>
    obtain ⟨i, hi, rfl, hp⟩ := hrel
    obtain ⟨f, hR, hF, hK⟩ := hp.out
    have HR := Aside.mk hR
    have HF := Aside.mk hF
    have HK := Aside.mk hK
    clear hR hF hK hp
    obtain ⟨c0, c1, c2, c3, c4, c5⟩ := box6b (HBK.out HK.out)
    by_cases hlt : i < rows.length
    · have HI := Aside.mk (List.getElem?_eq_getElem hlt)
      obtain ⟨⟨a, c, xs⟩, hrow⟩ : ∃ r, rows[i] = r := ⟨_, rfl⟩
      rw [hrow] at HI
      clear hrow
      generalize hn : xs.length = n at *
      have HN := Aside.mk hn
      clear hn
      go_wp2_with fail
      clear c0 c1 c2 c3 c4 c5
      go_loopw [4] (fun j0 wr => ∃ k : Nat, k ≤ n ∧ j0 = .int .i64 (k : Int) ∧ Aside (∃ f, RW wr 3 61 (.slice ba rows.length bc) rows f ∧ Full (iM 0) rows f i k ∧ Kept (RowsB rows) w wr)) (fun j0 _ => n - (intOf j0).toNat)
      case atStart => exact ⟨0, by omega, rfl, ⟨_, HR.out, HF.out, HK.out⟩⟩
      case round =>
        clear HR HF HK
        obtain ⟨k, hk, rfl, hp⟩ := hrel
        obtain ⟨f, hR, hF, hK⟩ := hp.out
        have HR := Aside.mk hR
        have HF := Aside.mk hF
        have HK := Aside.mk hK
        clear hR hF hK hp
        obtain ⟨c0, c1, c2, c3, c4, c5⟩ := box6b (HBK.out HK.out)
        obtain ⟨g1, o1, e1, hx1, hx2, d1⟩ := rw_at HR.out hlt
        rw [(Option.some.inj ((List.getElem?_eq_getElem hlt).symm.trans HI.out))] at d1
        subst e1
        simp only [KRow.val, HN.out] at d1
        by_cases hkl : k < n
        · obtain ⟨g, o, u, e2, hx3, hx4, d2, hu, hf0⟩ := rw_row HR.out HI.out (show k < xs.length by have := HN.out; omega)
          subst e2
          rw [HN.out] at hx3
          have HU := Aside.mk hu
          clear hu
          go_wp2_with fail
          refine ⟨⟨k + 1, by omega, by simp, ⟨_, HR.out.store (by decide) HI.out k (iM 0 i), HF.out.step (List.getElem?_eq_some_iff.1 HU.out).1, HK.out.trans (Kept.setCell _ _ _) (fun b e _ => ?_)⟩⟩, by simp [intOf]; omega⟩
          exact e ▸ ⟨_, List.mem_of_getElem? HI.out, rfl⟩
        · obtain rfl : k = n := by omega
          go_wp2_with fail
          refine ⟨⟨i + 1, by omega, by simp, ⟨_, HR.out, Full.next (r := ⟨a, c, xs⟩) (by rw [HN.out]; exact HF.out) HR.out HI.out, HK.out⟩⟩, by simp [intOf]; omega⟩
    · obtain rfl : i = rows.length := by omega
      have HFULL := Aside.mk (show ∀ m r, rows[m]? = some r → f m = List.replicate r.xs.length (iM 0 m) from fun m r hm => HF.out.1 m r (List.getElem?_eq_some_iff.1 hm).1 hm)
      clear HF
      go_wp2_with fail
      clear c0 c1 c2 c3 c4 c5
      go_loopw [5, 6] (fun gv i0 wr => ∃ (gs : List Value) (ga : Option Addr) (gc : Nat), gs.length ≤ rows.length ∧ gv = .slice ga gs.length gc ∧ i0 = .int .i64 (gs.length : Int) ∧ Aside (RW wr 3 61 (.slice ba rows.length bc) rows f ∧ GR w.heap.size wr 3 61 (iM 0) (iM 1000) (iM 1001) rows (.slice ga gs.length gc) gs ∧ Kept (RowsB rows) w wr)) (fun _ i0 _ => rows.length - (intOf i0).toNat)
      case atStart => exact ⟨[], none, 0, by simp, rfl, rfl, ⟨HR.out, GR.start, HK.out⟩⟩
      case round =>
        clear HR HK
        obtain ⟨gs, ga, gc, hi, rfl, rfl, hp⟩ := hrel
        obtain ⟨hR, hG, hK⟩ := hp.out
        have HR := Aside.mk hR
        have HG := Aside.mk hG
        have HK := Aside.mk hK
        clear hR hG hK hp
        obtain ⟨c0, c1, c2, c3, c4, c5⟩ := box6b (HBK.out HK.out)
        by_cases hlt : gs.length < rows.length
        · have HI := Aside.mk (List.getElem?_eq_getElem hlt)
          obtain ⟨g1, o1, e1, hx1, hx2, d1⟩ := rw_at HR.out hlt
          obtain ⟨⟨a, c, xs⟩, hrow⟩ : ∃ r, rows[gs.length] = r := ⟨_, rfl⟩
          rw [hrow] at HI d1
          clear hrow
          subst e1
          have hsm := HR.out.small _ _ HI.out
          simp only [KRow.val] at d1 hsm
          generalize hn : xs.length = n at *
          have HN := Aside.mk hn
          clear hn
          have HO := Aside.mk (show Own wr 0 3 1 (.slice a n c) n (f gs.length) from by have := HR.out.row _ _ HI.out; simp only [KRow.val, HN.out] at this; exact this)
          go_wp2_with (at_builtin; refine wpList_app2 _ rfl _ _ 61 61 rfl 0 3 (.int .i64 0) 1 8 Tryz.underlying61 intinfo8 rfl _ n (f gs.length) rfl (HO.out.alloc _) _ 1 [iM 1000 gs.length] rfl (src_one Tryz.underlying61 _ _ _ rfl rfl) (by unfold maxLen; omega) (by omega) (Nat.zero_le _) ?_)
          intro v2 w2 hA
          obtain ⟨a2, q2, rfl⟩ := hA.own.form
          have HA := Aside.mk hA
          clear hA c0 c1 c2 c3 c4 c5 d1
          go_wp2_with (at_builtin; refine wpList_app2 _ rfl _ _ 61 61 rfl 0 3 (.int .i64 0) 1 8 Tryz.underlying61 intinfo8 rfl _ (n + 1) (f gs.length ++ [iM 1000 gs.length]) rfl (HA.out.own.alloc _) _ 1 [iM 1001 gs.length] rfl (src_one Tryz.underlying61 _ _ _ rfl rfl) (by unfold maxLen; omega) (by omega) (Nat.zero_le _) ?_)
          intro v4 w4 hB
          obtain ⟨a4, q4, rfl⟩ := hB.own.form
          have HB := Aside.mk hB
          clear hB
          have HBS := Aside.mk (show w.heap.size ≤ w4.heap.size from by
            have s1 := HK.out.size
            have s2 : wr.heap.size ≤ w2.heap.size := by have := (Kept.of_grown HA.out.grown).size; simp at this; omega
            have s3 : w2.heap.size ≤ w4.heap.size := by have := (Kept.of_grown HB.out.grown).size; simp at this; omega
            omega)
          have HGV := Aside.mk (grow_gv HG.out HK.out.size (fun b e => HLT.out.1 b ⟨_, List.mem_of_getElem? HI.out, by simpa only [KRow.val, HN.out] using e⟩) (below_new wr _) HA.out (below_new w2 _) HB.out)
          go_wp2_with (at_builtin; refine wpList_app2 _ rfl _ _ 39 39 rfl w.heap.size 61 (.slice none 0 0) 1 24 Tryz.underlying39 intsinfo8 rfl _ gs.length gs rfl (HGV.out.alloc _) _ 1 [.slice a4 (n + 1 + 1) q4] rfl (src_one Tryz.underlying39 _ _ _ rfl rfl) (by unfold maxLen; omega) (by omega) (Nat.le_trans HBS.out (by simp)) ?_)
          intro v6 w6 hC
          obtain ⟨a6, q6, rfl⟩ := hC.own.form
          have HC := Aside.mk hC
          clear hC
          go_wp2_with fail
          have hstep := grow_step (r := ⟨a, c, xs⟩) HR.out HFULL.out HG.out HI.out HK.out.size HLT.out.1 HLT.out.2 (by decide) (below_new wr _) (by simp only [KRow.val, HN.out]; exact HA.out) (below_new w2 _) (by simp only [HN.out]; exact HB.out) (below_new w4 _) HC.out
          refine ⟨⟨gs ++ [.slice a4 (n + 1 + 1) q4], a6, q6, by simp; omega, by simp, by simp, ⟨hstep.1, by simpa using hstep.2.1, HK.out.trans hstep.2.2 (fun b e hb => e.elim id (fun h => by omega))⟩⟩, by simp [intOf]; omega⟩
        · obtain hge : gs.length = rows.length := by omega
          clear hi hlt
          obtain ⟨wg, hwg⟩ : ∃ x, x = wr := ⟨_, rfl⟩
          subst hwg
          go_wp2_with fail
          clear c0 c1 c2 c3 c4 c5
          go_loopw [8] (fun i0 wr2 => ∃ i : Nat, i ≤ rows.length ∧ i0 = .int .i64 (i : Int) ∧ Aside (Below wg.heap.size wg wr2)) (fun i0 _ => rows.length - (intOf i0).toNat)
          case atStart => exact ⟨0, by omega, rfl, ⟨Below.refl _ _⟩⟩
          case round =>
            obtain ⟨i, hi, rfl, hp⟩ := hrel
            have HR2 := Aside.mk (HR.out.below hp.out)
            have HG2 := Aside.mk (HG.out.below hp.out)
            have HK2 := Aside.mk (HK.out.trans (Kept.of_below (S := fun _ => False) hp.out) (fun _ h _ => h.elim))
            obtain ⟨c0, c1, c2, c3, c4, c5⟩ := box6b (HBK.out HK2.out)
            by_cases hlt : i < rows.length
            · have HI := Aside.mk (List.getElem?_eq_getElem hlt)
              obtain ⟨g1, o1, e1, hx1, hx2, d1⟩ := rw_at HR2.out hlt
              obtain ⟨⟨a, c, xs⟩, hrow⟩ : ∃ r, rows[i] = r := ⟨_, rfl⟩
              rw [hrow] at HI d1
              clear hrow
              subst e1
              have hsm := HR2.out.small _ _ HI.out
              simp only [KRow.val] at d1 hsm
              generalize hn : xs.length = n at *
              have HN := Aside.mk hn
              clear hn
              have hl2 : i < gs.length := by omega
              go_wp2_with fail
              clear c0 c1 c2 c3 c4 c5 d1 HR2 HG2 HK2
              go_loopw [10] (fun j0 wr2 => ∃ k : Nat, k ≤ n ∧ j0 = .int .i64 (k : Int) ∧ Aside (Below wg.heap.size wg wr2)) (fun j0 _ => n - (intOf j0).toNat)
              case atStart => exact ⟨0, by omega, rfl, hp⟩
              case round =>
                clear hp
                obtain ⟨k, hk, rfl, hp⟩ := hrel
                have HR2 := Aside.mk (HR.out.below hp.out)
                have HG2 := Aside.mk (HG.out.below hp.out)
                have HK2 := Aside.mk (HK.out.trans (Kept.of_below (S := fun _ => False) hp.out) (fun _ h _ => h.elim))
                obtain ⟨c0, c1, c2, c3, c4, c5⟩ := box6b (HBK.out HK2.out)
                obtain ⟨g1, o1, e1, _, _, d1⟩ := rw_at HR2.out hlt
                rw [(Option.some.inj ((List.getElem?_eq_getElem hlt).symm.trans HI.out))] at d1
                simp only [KRow.val, HN.out] at d1
                cases e1
                obtain ⟨g2, o2, g5, o5, c6, e2, hy1, hy2, d2, hy3, hy4, hm, hm0, hm1⟩ := gr_at HG2.out HI.out hl2
                subst e2
                have hx : ((i : Int) != (i : Int)) = false := by simp
                have hxx : (((i : Int) + 1000) != ((i : Int) + 1000)) = false := by simp
                have hxy : (((i : Int) + 1001) != ((i : Int) + 1001)) = false := by simp
                rw [HN.out] at hm hm0 hm1 d2 hy3
                by_cases hkl : k < n
                · obtain ⟨g, o, e3, hz1, hz2, d3⟩ := rw_mark HR2.out HFULL.out HI.out (show k < xs.length by have := HN.out; omega)
                  subst e3
                  rw [HN.out] at hz1
                  have d4 := hm k hkl
                  replace d3 : wr.cell? ⟨g, o + k, none⟩ = some (.int .i64 (i : Int)) := d3
                  replace d4 : wr.cell? ⟨g5, o5 + k, none⟩ = some (.int .i64 (i : Int)) := d4
                  clear hm hm0 hm1
                  go_wp2_with fail
                  exact ⟨⟨k + 1, by omega, by simp, ⟨by first | exact hp.out | exact below_chain hp.out (below_drewN _ _ _)⟩⟩, by simp [intOf]; omega⟩
                · obtain rfl : k = n := by omega
                  clear hm
                  replace hm0 : wr.cell? ⟨g5, o5 + k, none⟩ = some (.int .i64 ((i : Int) + 1000)) := hm0
                  replace hm1 : wr.cell? ⟨g5, o5 + (k + 1), none⟩ = some (.int .i64 ((i : Int) + 1001)) := hm1
                  go_wp2_with fail
                  exact ⟨⟨i + 1, by omega, by simp, ⟨by first | exact hp.out | exact below_chain hp.out (below_drewN _ _ _)⟩⟩, by simp [intOf]; omega⟩
            · obtain rfl : i = rows.length := by omega
              go_wp2_with fail
              go_ret
              exact ⟨rfl, HK2.out⟩
end Go.Proofs.YtmhjjhaipcgbiaaGreat


namespace Go.Proofs.YtmhjjhaipcgbiaaGreat
open Go.RowKit
set_option linter.unusedVariables false
set_option linter.unusedSimpArgs false
set_option maxRecDepth 100000
set_option maxHeartbeats 1000000
theorem ints_eq (xs : List Int) (A B : SL) (hl : xs.length ≤ 100000000) (w : World) (ha : Rd w 1 (.slice A.a xs.length A.c) xs.length (xs.map (.int .i64))) (hb : Rd w 1 (.slice B.a xs.length B.c) xs.length (xs.map (.int .i64))) :
    Calls Tryz.prog 156 #[.slice A.a xs.length A.c, .slice B.a xs.length B.c] w (BoolP true w) := by
  obtain ⟨aa, ac⟩ := A
  obtain ⟨ba, bc⟩ := B
  have HA := Aside.mk ha
  have HB := Aside.mk hb
  clear ha hb
  dsimp only at HA HB ⊢
  generalize hn : xs.length = n at *
  have HN := Aside.mk hn
  clear hn
  have hne : ((n : Int) != (n : Int)) = false := by simp
  go_enter Tryz.func156, Tryz.ntmps156
  go_wp2_with fail
  go_loopw [5] (fun iv wr => ∃ i : Nat, i ≤ n ∧ iv = .int .i64 (i : Int) ∧ Aside (Below w.heap.size w wr)) (fun iv _ => n - (intOf iv).toNat)
  case atStart => exact ⟨0, by omega, rfl, ⟨Below.refl _ _⟩⟩
  case round =>
    obtain ⟨i, hi, rfl, hp⟩ := hrel
    by_cases hlt : i < n
    · have hil : i < xs.length := by have := HN.out; omega
      obtain ⟨g1, o1, k1, e1, h1, h2, hc⟩ := (HA.out.below hp.out).some_ (by rw [List.length_map]; omega)
      simp only [Value.slice.injEq, true_and] at e1
      obtain ⟨rfl, rfl⟩ := e1
      obtain ⟨g2, o2, k2, e2, h3, h4, hd⟩ := (HB.out.below hp.out).some_ (by rw [List.length_map]; omega)
      simp only [Value.slice.injEq, true_and] at e2
      obtain ⟨rfl, rfl⟩ := e2
      have hc2 := hc i (.int .i64 xs[i]) (by rw [List.getElem?_map, List.getElem?_eq_getElem hil]; rfl)
      have hd2 := hd i (.int .i64 xs[i]) (by rw [List.getElem?_map, List.getElem?_eq_getElem hil]; rfl)
      clear hc hd
      generalize xs[i] = x at *
      have hx : (x != x) = false := by simp
      go_wp2_with fail
      try go_quiet (fail)
      go_wp2_with fail
      exact ⟨⟨i + 1, by omega, by simp, ⟨by first | exact hp.out.trans (below_drewN _ _ _) | exact hp.out⟩⟩, by simp [intOf]; omega⟩
    · obtain rfl : i = n := by omega
      go_wp2_with fail
      go_ret
      exact ⟨rfl, hp.out⟩
theorem same_same (xs : List Int) (A B : SL) (hx : IsBytes xs) (w : World) (ha : Rd w 1 (.slice A.a xs.length A.c) xs.length (xs.map (.int .u8))) (hb : Rd w 1 (.slice B.a xs.length B.c) xs.length (xs.map (.int .u8))) :
    Calls Tryz.prog 47 #[.slice A.a xs.length A.c, .slice B.a xs.length B.c] w (BoolP true w) := by
  refine (same_bytes xs xs A B hx hx w ha hb).mono ?_
  rintro e w' ⟨rfl, rfl⟩
  exact ⟨by rw [decide_eq_true rfl], Below.refl _ _⟩
theorem row_at {w : World} {E TE : TypeId} {K : IntKind} {a : Option Addr} {cp n : Nat} {rows : List KRow} (h : Own w 0 TE 1 (.slice a n cp) rows.length (rows.map KRow.val)) {i : Nat} (hi : i < rows.length) : ∃ g off, a = some ⟨g, off, none⟩ ∧ n = rows.length ∧ cp ≤ 9223372036854775807 ∧ n ≤ cp ∧ w.cell? ⟨g, off + i, none⟩ = some rows[i].val := by
  obtain ⟨g, off, cap, e, h1, h2, h3, h4, h5, _⟩ := h.some_ (by omega)
  simp only [Value.slice.injEq] at e
  obtain ⟨rfl, rfl, rfl⟩ := e
  exact ⟨g, off, rfl, rfl, h4, h3, h5 i _ (by rw [List.getElem?_map, List.getElem?_eq_getElem hi]; rfl)⟩
theorem said_at {w : World} {E TE : TypeId} {K : IntKind} {a : Option Addr} {cp : Nat} {rows : List KRow} {ss : List Value} (h : BS_ w E TE K (.slice a rows.length cp) rows ss) {i : Nat} (hi : i < rows.length) : ∃ g off ta tc, a = some ⟨g, off, none⟩ ∧ cp ≤ 9223372036854775807 ∧ rows.length ≤ cp ∧ w.cell? ⟨g, off + i, none⟩ = some (.slice ta rows[i].xs.length tc) ∧ Own w 0 E 1 (.slice ta rows[i].xs.length tc) rows[i].xs.length (rows[i].xs.map (.int K)) := by
  obtain ⟨ta, tc, q1, q2⟩ := h.said i _ (List.getElem?_eq_getElem hi)
  obtain ⟨g, off, cap, e, h1, h2, h3, h4, h5, _⟩ := h.rs.some_ (by omega)
  simp only [Value.slice.injEq, true_and] at e
  obtain ⟨rfl, rfl⟩ := e
  exact ⟨g, off, ta, tc, rfl, h4, h3, h5 i _ q1, q2⟩
theorem look_any (T : Nat → Prop) (bk : Nat) (rows irows : List KRow) (ss hs : List Value) (bv sv iv hv : Value) (w : World) (h : BKx w T bk rows irows ss hs bv sv iv hv) :
    Calls Tryz.prog 95 #[.pointer (some ⟨bk, 0, none⟩)] w (BoolP true w) := by
  obtain ⟨ba, bc, rfl⟩ := h.b.rv.form
  obtain ⟨sa, sc, rfl⟩ := h.bs.rs.form
  obtain ⟨ia, ic, rfl⟩ := h.i.rv.form
  obtain ⟨ha, hc, rfl⟩ := h.is.rs.form
  have hf1 := h.b.few
  have hf2 := h.i.few
  have H := Aside.mk h
  clear h
  have K0 : ∀ {wr : World}, Below w.heap.size w wr → BKx wr T bk rows irows ss hs (.slice ba rows.length bc) (.slice sa rows.length sc) (.slice ia irows.length ic) (.slice ha irows.length hc) := fun {wr} hb => H.out.kept (Kept.of_below (S := fun _ => False) hb) (fun _ _ _ e => e)
  have HK := Aside.mk @K0
  clear K0
  go_enter Tryz.func95, Tryz.ntmps95
  go_wp2_with fail
  go_loopw [3] (fun i0 wr => ∃ i : Nat, i ≤ rows.length ∧ i0 = .int .i64 (i : Int) ∧ Aside (Below w.heap.size w wr)) (fun i0 _ => rows.length - (intOf i0).toNat)
  case atStart => exact ⟨0, by omega, rfl, ⟨Below.refl _ _⟩⟩
  case round =>
    obtain ⟨i, hi, rfl, hp⟩ := hrel
    have HB := Aside.mk (HK.out hp.out)
    obtain ⟨c0, c1, c2, c3, c4, c5⟩ := box6b HB.out.blk
    by_cases hlt : i < rows.length
    · obtain ⟨g1, o1, e1, _, hx1, hx2, d1⟩ := row_at (E := 5) (K := .u8) HB.out.b.rv hlt
      obtain ⟨g2, o2, ta, tc, e2, hx3, hx4, d2, hd2⟩ := said_at HB.out.bs hlt
      rw [e1] at c0
      rw [e2] at c1
      have hrow := HB.out.b.row i _ (List.getElem?_eq_getElem hlt)
      have HS := Aside.mk (same_same rows[i].xs ⟨rows[i].a, rows[i].c⟩ ⟨ta, tc⟩ (HB.out.by_ _ (List.getElem_mem hlt)) wr.drew (hrow.rd.below (below_drewN wr _ 1)) (hd2.rd.below (below_drewN wr _ 1)))
      clear hrow hd2 e1 e2
      unfold KRow.val at d1
      dsimp only at HS
      generalize rows[i] = r at *
      obtain ⟨ra, rc, rx⟩ := r
      dsimp only at d1 d2 HS
      generalize rx.length = rn at *
      go_wp2_with fail
      go_region_law ((refine step_call (P := Tryz.prog) wr.drew (by rfl) 47 [.tmp 21, .tmp 28] _ (by rfl) [.slice ra rn rc, .slice ta rn tc] (by rfl) (fun _ _ => rfl) HS.out ?_; rintro e w5 ⟨rfl, hb5⟩; have HB5 := Aside.mk (below_chain (below_chain hp.out (below_drewN wr _ 1)) hb5); clear hb5; refine ⟨_, rfl, ?_⟩))
      all_goals
        go_wp2_with fail
        exact ⟨⟨i + 1, by omega, by simp, HB5⟩, by simp [intOf]; omega⟩
    · obtain rfl : i = rows.length := by omega
      clear HB
      go_wp2_with fail
      clear c0 c1 c2 c3 c4 c5
      go_loopw [4] (fun i0 wr2 => i0 = .int .i64 0 ∧ wr2 = wr) (fun _ _ => 0)
      case atStart => exact ⟨rfl, rfl⟩
      case round =>
        obtain ⟨rfl, rfl⟩ := hrel
        have HB := Aside.mk (HK.out hp.out)
        obtain ⟨c0, c1, c2, c3, c4, c5⟩ := box6b HB.out.blk
        go_wp2_with fail
        clear c0 c1 c2 c3 c4 c5
        go_loopw [5] (fun i0 wr => ∃ i : Nat, i ≤ irows.length ∧ i0 = .int .i64 (i : Int) ∧ Aside (Below w.heap.size w wr)) (fun i0 _ => irows.length - (intOf i0).toNat)
        case atStart => exact ⟨0, by omega, rfl, hp⟩
        case round =>
          clear hp HB
          obtain ⟨i, hi, rfl, hp⟩ := hrel
          have HB := Aside.mk (HK.out hp.out)
          obtain ⟨c0, c1, c2, c3, c4, c5⟩ := box6b HB.out.blk
          by_cases hlt : i < irows.length
          · obtain ⟨g1, o1, e1, _, hx1, hx2, d1⟩ := row_at (E := 3) (K := .i64) HB.out.i.rv hlt
            obtain ⟨g2, o2, ta, tc, e2, hx3, hx4, d2, hd2⟩ := said_at HB.out.is hlt
            rw [e1] at c4
            rw [e2] at c5
            have hrow := HB.out.i.row i _ (List.getElem?_eq_getElem hlt)
            have HS := Aside.mk (ints_eq irows[i].xs ⟨irows[i].a, irows[i].c⟩ ⟨ta, tc⟩ (HB.out.i.small _ (List.getElem_mem hlt)) wr.drew (hrow.rd.below (below_drewN wr _ 1)) (hd2.rd.below (below_drewN wr _ 1)))
            clear hrow hd2 e1 e2
            unfold KRow.val at d1
            dsimp only at HS
            generalize irows[i] = r at *
            obtain ⟨ra, rc, rx⟩ := r
            dsimp only at d1 d2 HS
            generalize rx.length = rn at *
            go_wp2_with fail
            go_region_law ((refine step_call (P := Tryz.prog) wr.drew (by rfl) 156 [.tmp 71, .tmp 78] _ (by rfl) [.slice ra rn rc, .slice ta rn tc] (by rfl) (fun _ _ => rfl) HS.out ?_; rintro e w5 ⟨rfl, hb5⟩; have HB5 := Aside.mk (below_chain (below_chain hp.out (below_drewN wr _ 1)) hb5); clear hb5; refine ⟨_, rfl, ?_⟩))
            all_goals
              go_wp2_with fail
              exact ⟨⟨i + 1, by omega, by simp, HB5⟩, by simp [intOf]; omega⟩
          · obtain rfl : i = irows.length := by omega
            go_wp2_with fail
            go_ret
            exact ⟨rfl, hp.out⟩
end Go.Proofs.YtmhjjhaipcgbiaaGreat


namespace Go.Proofs.YtmhjjhaipcgbiaaGreat
open Go.RowKit
set_option linter.unusedVariables false
set_option linter.unusedSimpArgs false
set_option maxRecDepth 100000
set_option maxHeartbeats 1000000
theorem close_words (bk : Nat) (bv sv iv hv : Value) (w : World) (hblk : w.heap[bk]? = some (.cells #[bv, sv, .slice none 0 0, .slice none 0 0, iv, hv] 41 (0, 0))) :
    Calls Tryz.prog 97 #[.pointer (some ⟨bk, 0, none⟩)] w (fun e w' => e = .returned (.bool true) ∧ w' = w) := by
  have HB := Aside.mk hblk
  clear hblk
  go_enter Tryz.func97, Tryz.ntmps97
  go_wp2_with fail
  go_loopw [3] (fun i0 wr => i0 = .int .i64 0 ∧ wr = w) (fun _ _ => 0)
  case atStart => exact ⟨rfl, rfl⟩
  case round =>
    obtain ⟨rfl, rfl⟩ := hrel
    obtain ⟨c0, c1, c2, c3, c4, c5⟩ := box6b HB.out
    go_wp2_with fail
    go_loopw [5, 6] (fun g0 i0 wr2 => g0 = .slice none 0 0 ∧ i0 = .int .i64 0 ∧ wr2 = wr) (fun _ _ _ => 0)
    case atStart => exact ⟨rfl, rfl, rfl⟩
    case round =>
      obtain ⟨rfl, rfl, rfl⟩ := hrel
      go_wp2_with fail
      go_loopw [8] (fun i0 wr2 => i0 = .int .i64 0 ∧ wr2 = wr) (fun _ _ => 0)
      case atStart => exact ⟨rfl, rfl⟩
      case round =>
        obtain ⟨rfl, rfl⟩ := hrel
        go_wp2_with fail
        go_ret
        exact ⟨rfl, rfl⟩
theorem rows_ne {w : World} {E TE : TypeId} {K : IntKind} {v : Value} {rows : List KRow} (h : BR w E TE K v rows) {b : Nat} (hb : RowsB rows b) : ∃ cur, w.heap[b]? = some (.cells cur E (0, 0)) := by
  obtain ⟨r, hr, e⟩ := hb
  obtain ⟨m, hm, rfl⟩ := List.mem_iff_getElem.1 hr
  exact own_blk (h.row m _ (List.getElem?_eq_getElem hm)) e
theorem book_at {w w1 w2 : World} {T : Nat → Prop} {bk : Nat} {rows irows : List KRow} {ss hs : List Value} {bv sv iv hv : Value} (H : BKx w T bk rows irows ss hs bv sv iv hv) (hb : Below w.heap.size w w1) (hk : Kept (RowsB rows) w1 w2) :
    w2.heap[bk]? = some (.cells #[bv, sv, .slice none 0 0, .slice none 0 0, iv, hv] 41 (0, 0)) ∧ BR w2 3 61 .i64 iv irows ∧ Kept T w w2 := by
  have hr : ∀ b, RowsB rows b → ∃ cur, w1.heap[b]? = some (.cells cur 5 (0, 0)) := fun b h => by
    obtain ⟨cur, q⟩ := rows_ne H.b h
    exact ⟨cur, (hb.block b (lt_of_blk q)).trans q⟩
  have h1 := (hb.block _ (lt_of_blk H.blk)).trans H.blk
  refine ⟨(hk.block _ (lt_of_blk h1) (fun e => ?_)).trans h1, (H.i.kept (Kept.of_below (S := fun _ => False) hb) (fun _ _ e => e) (fun _ _ _ _ e => e)).keptT hk (fun b e _ cs q => ?_) (fun b e _ cs q => ?_), (Kept.of_below (S := T) hb).trans hk (fun b e _ => ?_)⟩
  · obtain ⟨cur, q⟩ := hr _ e
    exact blk_ne h1 q (by decide) rfl
  · obtain ⟨cur, q2⟩ := hr _ e
    exact blk_ne q q2 (by decide) rfl
  · obtain ⟨cur, q2⟩ := hr _ e
    exact blk_ne q q2 (by decide) rfl
  · obtain ⟨r, hr, e⟩ := e
    exact H.bt.trow r hr b e
theorem book_close (T : Nat → Prop) (bk : Nat) (w : World) (h : BK w T bk) : Calls Tryz.prog 36 #[.pointer (some ⟨bk, 0, none⟩)] w (fun e w' => e = .returned (.bool true) ∧ Kept T w w') := by
  obtain ⟨rows, irows, ss, hs, bv, sv, iv, hv, h⟩ := h
  have H := Aside.mk h
  clear h
  go_enter Tryz.func36, Tryz.ntmps36
  go_wp2_with (first
    | (go_at_call 95; refine (look_any T bk rows irows ss hs bv sv iv hv _ H.out).mono ?_; rintro e w1 ⟨rfl, hb1⟩; have HB1 := Aside.mk hb1; clear hb1)
    | (go_at_call 96; refine (close_bytes bk rows bv sv iv hv w1 ((HB1.out.block _ (lt_of_blk H.out.blk)).trans H.out.blk) (H.out.b.kept (Kept.of_below (S := fun _ => False) HB1.out) (fun _ _ e => e) (fun _ _ _ _ e => e))).mono ?_; rintro e w2 ⟨rfl, hk2⟩; have HB2 := Aside.mk (book_at H.out HB1.out hk2); clear hk2)
    | (go_at_call 97; refine (close_words bk bv sv iv hv w2 HB2.out.1).mono ?_; rintro e w3 ⟨rfl, rfl⟩)
    | (go_at_call 98; refine (close_ints bk irows bv sv iv hv _ HB2.out.1 HB2.out.2.1).mono ?_; rintro e w4 ⟨rfl, hk4⟩; have HK4 := Aside.mk (HB2.out.2.2.trans hk4 (fun b ⟨r, hr, e⟩ _ => H.out.it.trow r hr b e)); clear hk4))
  go_ret
  exact ⟨rfl, HK4.out⟩
end Go.Proofs.YtmhjjhaipcgbiaaGreat


namespace Go.Proofs.YtmhjjhaipcgbiaaGreat
open Go.RowKit
set_option linter.unusedVariables false
set_option linter.unusedSimpArgs false
set_option maxRecDepth 100000
set_option maxHeartbeats 1000000
structure AskS (w0 : World) (bk : Nat) (L : List Nat) (M : Nat) (W : World) : Prop where
  bel : Below w0.heap.size w0 W
  lo : w0.heap.size ≤ M
  mm : M ≤ W.heap.size
  own : ∀ b ∈ L, w0.heap.size ≤ b ∧ b < W.heap.size
  book : BK W (fun b => w0.heap.size ≤ b ∧ b < M ∧ b ∉ L) bk
namespace AskS
variable {w0 W W' : World} {bk M : Nat} {L : List Nat}
theorem below (h : AskS w0 bk L M W) (hb : Below W.heap.size W W') : AskS w0 bk L M W' :=
  ⟨h.bel.trans (hb.mono h.bel.size), h.lo, Nat.le_trans h.mm hb.size, fun b e => ⟨(h.own b e).1, Nat.lt_of_lt_of_le (h.own b e).2 hb.size⟩, h.book.below hb⟩
theorem alloc (h : AskS w0 bk L M W) (o : Obj) : AskS w0 bk (W.heap.size :: L) M (W.alloc o) := by
  have h1 := h.below (below_new W o)
  have hs : (W.alloc o).heap.size = W.heap.size + 1 := by simp
  refine ⟨h1.bel, h1.lo, h1.mm, fun b e => ?_, h1.book.mono (fun b e _ => ⟨e.1, e.2.1, fun hm => ?_⟩)⟩
  · rcases List.mem_cons.1 e with rfl | e
    · have := h.lo; have := h.mm; omega
    · exact h1.own b e
  · rcases List.mem_cons.1 hm with rfl | hm
    · have := h.mm; omega
    · exact e.2.2 hm
theorem turn (h : AskS w0 bk L M W) {b : Nat} (hb : b ∈ L) (hk : Kept (fun k => k = b) W W') : AskS w0 bk L M W' :=
  ⟨h.bel.trans (hk.to_below h.bel.size (fun k e => by subst e; exact (h.own _ hb).1)), h.lo, Nat.le_trans h.mm hk.size, fun b e => ⟨(h.own b e).1, Nat.lt_of_lt_of_le (h.own b e).2 hk.size⟩, h.book.kept hk (fun k e _ e2 => by subst e2; exact e.2.2 hb)⟩
theorem bytes (h : AskS w0 bk L M W) (a : Option Addr) (c : Nat) (xs : List Int) {base : Nat} (hM : M ≤ base) (hb : IsBytes xs) (hl : xs.length ≤ 100000000) (hr : Own W base 5 1 (.slice a xs.length c) xs.length (xs.map (.int .u8))) (hL : ∀ b ∈ L, (Value.slice a xs.length c).ownBlock ≠ some b) :
    Calls Tryz.prog 42 #[.pointer (some ⟨bk, 0, none⟩), .slice a xs.length c] W (fun e W' => e = .returned (.tuple #[]) ∧ AskS w0 bk L W'.heap.size W' ∧ ∀ b ∈ L, W'.heap[b]? = W.heap[b]?) := by
  refine (book_bytes _ bk a c xs hb hl W h.book (hr.mono (Nat.zero_le _)) (fun b e t => by have := (hr.lt b e).1; omega)).mono ?_
  rintro e W' ⟨rfl, h1, h2⟩
  have hlo := h.lo
  have hmm := h.mm
  refine ⟨rfl, ⟨h.bel.trans (h2.to_below h.bel.size (fun k e => e.1)), by have := h2.size; omega, Nat.le_refl _, fun b e => ⟨(h.own b e).1, Nat.lt_of_lt_of_le (h.own b e).2 h2.size⟩, h1.mono (fun b e hbl => ?_)⟩, fun b e => h2.block b (h.own b e).2 (fun t => t.2.2 e)⟩
  rcases e with e | e | e
  · exact ⟨e.1, hbl, e.2.2⟩
  · exact ⟨by have := (hr.lt b e).1; omega, hbl, fun hm => hL b hm e⟩
  · exact ⟨by omega, hbl, fun hm => by have := (h.own b hm).2; omega⟩
theorem keep (h : AskS w0 bk L M W) (c : Col) (hc : COK c) (B D E X : SL) (vals : List Value) {base : Nat} (hM : M ≤ base) (hbase : base ≤ W.heap.size) (ho : OwnC W base c B D E X vals) (hL : ∀ b ∈ L, ∃ cur F, W.heap[b]? = some (.cells cur F (0, 0)) ∧ F ≠ 5 ∧ F ≠ 3) :
    Calls Tryz.prog 35 #[.pointer (some ⟨bk, 0, none⟩), colV c B D E X] W (fun e W' => e = .returned (.tuple #[]) ∧ AskS w0 bk L W'.heap.size W' ∧ ∀ b ∈ L, W'.heap[b]? = W.heap[b]?) := by
  refine (keep_colR _ bk c B D E X vals base (fun b e => by have := e.2.1; omega) hc.data hc.bits (fun t ht => (hc.words t ht).1) hc.ld hc.lb hc.le (fun t ht => (hc.words t ht).2) hc.lw W hbase h.book ho).mono ?_
  rintro e W' ⟨rfl, h1, h2⟩
  have hlo := h.lo
  have hmm := h.mm
  have hnr : ∀ b ∈ L, ¬ RowsC c B D E vals b := fun b e r => by
    obtain ⟨cur, F, q1, q2, q3⟩ := hL b e
    obtain ⟨_, _, cur', F', q4, q5⟩ := rowsC_blk ho r
    rw [q1] at q4
    cases q4
    exact q5.elim q2 q3
  refine ⟨rfl, ⟨h.bel.trans (h2.to_below h.bel.size (fun k e => ?_)), by have := h2.size; omega, Nat.le_refl _, fun b e => ⟨(h.own b e).1, Nat.lt_of_lt_of_le (h.own b e).2 h2.size⟩, h1.mono (fun b e hbl => ?_)⟩, fun b e => h2.block b (h.own b e).2 (fun t => ?_)⟩
  · rcases e with e | e | e
    · exact e.1
    · have := (rowsC_blk ho e).1; omega
    · omega
  · rcases e with e | e | e
    · exact ⟨e.1, hbl, e.2.2⟩
    · exact ⟨by have := (rowsC_blk ho e).1; omega, hbl, fun hm => hnr b hm e⟩
    · exact ⟨by omega, hbl, fun hm => by have := (h.own b hm).2; omega⟩
  · rcases t with t | t | t
    · exact t.2.2 e
    · exact hnr b e t
    · have := (h.own b e).2; omega
end AskS
end Go.Proofs.YtmhjjhaipcgbiaaGreat
