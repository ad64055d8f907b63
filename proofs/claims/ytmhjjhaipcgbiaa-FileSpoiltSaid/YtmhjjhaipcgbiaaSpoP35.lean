/- Texts of this claim, one behind the other: Fq, Fr, Fu. -/
import Derived.Test.YtmhjjhaipcgbiaaSpoP34
import Derived.Test.YtmhjjhaipcgbiaaSpoP29
import Derived.Test.YtmhjjhaipcgbiaaSpoP24
import Derived.Test.YtmhjjhaipcgbiaaSpoP10
import Derived.Deep.QuietTactic
import Derived.BigQuiet

namespace Go.Proofs.Ytmhjjhaipcgbiaa
open Go.RowKit
set_option linter.unusedVariables false
set_option linter.unusedSimpArgs false
set_option maxRecDepth 100000
set_option maxHeartbeats 1000000
theorem bequal_any (xs ys : List Int) (A B : SL) (hx : IsBytes xs) (hy : IsBytes ys) (w : World) (ha : Rd w 1 (.slice A.a xs.length A.c) xs.length (xs.map (.int .u8))) (hb : Rd w 1 (.slice B.a ys.length B.c) ys.length (ys.map (.int .u8))) :
    Calls Try.prog 79 #[.slice A.a xs.length A.c, .slice B.a ys.length B.c] w (BoolP (decide (xs = ys)) w) := by
  have h1 := conv_any A.a _ A.c xs rfl _ ha
  have h2 := conv_any B.a _ B.c ys rfl _ hb
  have hd := str_eq hx hy
  clear ha hb
  go_enter Try.func79, Try.ntmps79
  go_wp2
  go_ret
  exact ⟨ret_bool rfl, Below.refl _ _⟩
end Go.Proofs.Ytmhjjhaipcgbiaa


namespace Go.Proofs.Ytmhjjhaipcgbiaa
open Go.RowKit
set_option linter.unusedVariables false
set_option linter.unusedSimpArgs false
set_option maxRecDepth 100000
set_option maxHeartbeats 1000000
theorem sum_head {bs : List Int} (hb : IsBytes bs) {n k : Nat} (hnk : n ≤ k) (hk : k ≤ bs.length) {g off Ac : Nat} {U : World} (hU : Rd U 1 (.slice (some ⟨g, off, none⟩) k Ac) k (bs.map (.int .u8))) : Calls Try.prog 76 #[.slice (some ⟨g, off, none⟩) n Ac] U (SumP (bs.take n) U) := by
  have hr := hU.mid (Nat.zero_le n) hnk
  simp only [Nat.zero_mul, List.drop_zero, Nat.sub_zero, Nat.mul_one, ← List.map_take] at hr
  have hl2 : (bs.take n).length = n := by rw [List.length_take]; omega
  have hc0 : cutA (some ⟨g, off, none⟩) Ac 0 1 = some ⟨g, off, none⟩ := by unfold cutA; split <;> simp [Addr.add]
  rw [hc0] at hr
  have := fsum_any (bs.take n) (fun v hv => hb v (List.mem_of_mem_take hv)) ⟨some ⟨g, off, none⟩, Ac⟩ U (by rw [hl2]; exact hr)
  rwa [hl2] at this
theorem equal_tail {bs : List Int} (hb : IsBytes bs) {n k : Nat} (hnk : n ≤ k) (hn : n + 8 = k) (hk : k = bs.length) (hne : lows (sumN (bs.take n)) 8 ≠ bs.drop n) {g off Ac : Nat} {U : World} (hU : Rd U 1 (.slice (some ⟨g, off, none⟩) k Ac) k (bs.map (.int .u8))) {na : Option Addr} {nc : Nat} (ho : Rd U 1 (.slice na ([] ++ lows (sumN (bs.take n)) 8).length nc) ([] ++ lows (sumN (bs.take n)) 8).length (([] ++ lows (sumN (bs.take n)) 8).map (.int .u8))) :
    Calls Try.prog 79 #[.slice na ([] ++ lows (sumN (bs.take n)) 8).length nc, .slice (if Ac = n then some ⟨g, off, none⟩ else some ⟨g, off + n, none⟩) (k - n) (Ac - n)] U (BoolP false U) := by
  have hr := hU.mid hnk (Nat.le_refl k)
  simp only [Nat.mul_one, ← List.map_drop, ← List.map_take] at hr
  have hl : (bs.drop n).length = k - n := by rw [List.length_drop, hk]
  rw [List.take_of_length_le (by omega)] at hr
  have hc0 : cutA (some ⟨g, off, none⟩) Ac n 1 = if Ac = n then some ⟨g, off, none⟩ else some ⟨g, off + n, none⟩ := by unfold cutA; split <;> simp [Addr.add]
  rw [hc0] at hr
  have := bequal_any ([] ++ lows (sumN (bs.take n)) 8) (bs.drop n) ⟨na, nc⟩ ⟨if Ac = n then some ⟨g, off, none⟩ else some ⟨g, off + n, none⟩, Ac - n⟩ (lows_bytes _ _) (fun v hv => hb v (List.mem_of_mem_drop hv)) U ho (by rw [hl]; exact hr)
  rw [hl] at this
  rwa [show decide ([] ++ lows (sumN (bs.take n)) 8 = bs.drop n) = false from decide_eq_false hne] at this
theorem dsum_any (bs : List Int) (hb : IsBytes bs) (n : Nat) (hn : n + 8 = bs.length) (hl : bs.length ≤ 100000000) (hne : lows (sumN (bs.take n)) 8 ≠ bs.drop n) (A : SL) (w : World) (h : Rd w 1 (.slice A.a bs.length A.c) bs.length (bs.map (.int .u8))) :
    Calls Try.prog 34 #[.slice A.a bs.length A.c] w (fun e w' => e = .returned (.tuple #[.agg #[.slice none 0 0, .int .i64 0, .slice none 0 0], .int .i64 251]) ∧ Below w.heap.size w w') := by
  have HR := Aside.mk h
  have HN := Aside.mk hn
  have HNE := Aside.mk hne
  obtain ⟨Aa, Ac⟩ := A
  obtain ⟨g, off, cap, e, q1, q2, hc⟩ := h.some_ (by simpa using (show 0 < bs.length by omega))
  simp only [Value.slice.injEq, true_and] at e
  obtain ⟨rfl, rfl⟩ := e
  obtain ⟨k, hk⟩ : ∃ k, k = bs.length := ⟨_, rfl⟩
  rw [← hk] at q1 HN ⊢
  have HK := Aside.mk hk
  have hw1 : IntKind.i64.wrap ((k : Int) - 8) = (n : Int) := by rw [IntWalk.i64_left, IntWalk.wrap64_in] <;> omega
  have hw2 : decide ((n : Int) < 0) = false := decide_eq_false (by omega)
  have hw3 : (n : Int) ≤ (Ac : Int) := by omega
  clear h hn hne hc hk
  dsimp only
  go_enter Try.func34, Try.ntmps34
  go_upto_region 2 with fail
  have HB2 := Aside.mk (below_new w (.cells #[.slice none 0 0, .int .i64 0, .slice none 0 0] 73))
  have HX2 := Aside.mk (heap_alloc_new w (.cells #[.slice none 0 0, .int .i64 0, .slice none 0 0] 73))
  have hn0 : (0 : Int) ≤ (n : Int) := by omega
  have hnk : n ≤ k := by have := HN.out; omega
  have HRK := Aside.mk (show Rd w 1 (.slice (some ⟨g, off, none⟩) k Ac) k (bs.map (.int .u8)) from by rw [HK.out]; exact HR.out)
  have HSUM := Aside.mk (fun (U : World) (hU : Rd U 1 (.slice (some ⟨g, off, none⟩) k Ac) k (bs.map (.int .u8))) => sum_head hb hnk (by have := HK.out; omega) hU)
  generalize w.alloc (.cells #[.slice none 0 0, .int .i64 0, .slice none 0 0] 73) = w2 at *
  refine wp_regionO (fun U : World => Rd U 1 (.slice (some ⟨g, off, none⟩) k Ac) k (bs.map (.int .u8))) 13 14 (by kernel_rfl) rfl ?_
  have hS : (fun U : World => Rd U 1 (.slice (some ⟨g, off, none⟩) k Ac) k (bs.map (.int .u8))) w2.drew := (HRK.out.below HB2.out).below (below_drewN w2 _ 1)
  refine wpE_take (k := 0) (o := ⟨some 14, _, _, _, _, _⟩) (v := ?_) rfl (by kernel_rfl) (by kernel_rfl) (by kernel_rfl) (by kernel_rfl) (fun _ _ _ h => absurd h.1 (by simp)) (Or.inl ⟨by rfl, ?_⟩) (by assumption) ?_
  rotate_left
  · (intro w hSw; go_simp; (try with_reducible rfl))
  (try simp only [Act.put, List.setIfInBounds_toArray, List.set_cons_zero, List.set_cons_succ])
  refine wpE_take (k := 1) (o := ⟨some 15, _, _, _, _, _⟩) (v := ?_) rfl (by kernel_rfl) (by kernel_rfl) (by kernel_rfl) (by kernel_rfl) (fun _ _ _ h => absurd h.1 (by simp)) (Or.inl ⟨by rfl, ?_⟩) (by assumption) ?_
  rotate_left
  · (intro w hSw; go_simp; (try with_reducible rfl))
  (try simp only [Act.put, List.setIfInBounds_toArray, List.set_cons_zero, List.set_cons_succ])
  refine wpE_take (k := 2) (o := ⟨some 16, _, _, _, _, _⟩) (v := ?_) rfl (by kernel_rfl) (by kernel_rfl) (by kernel_rfl) (by kernel_rfl) (fun _ _ _ h => absurd h.1 (by simp)) (Or.inl ⟨by rfl, ?_⟩) (by assumption) ?_
  rotate_left
  · (intro w hSw; go_simp; (try with_reducible rfl))
  (try simp only [Act.put, List.setIfInBounds_toArray, List.set_cons_zero, List.set_cons_succ])
  refine wpE_take (k := 3) (o := ⟨some 17, _, _, _, _, _⟩) (v := ?_) rfl (by kernel_rfl) (by kernel_rfl) (by kernel_rfl) (by kernel_rfl) (fun _ _ _ h => absurd h.1 (by simp)) (Or.inl ⟨by rfl, ?_⟩) (by assumption) ?_
  rotate_left
  · (intro w hSw; go_simp; (try with_reducible rfl))
  (try simp only [Act.put, List.setIfInBounds_toArray, List.set_cons_zero, List.set_cons_succ])
  refine wpE_take (k := 4) (o := ⟨some 18, _, _, _, _, _⟩) (v := ?_) rfl (by kernel_rfl) (by kernel_rfl) (by kernel_rfl) (by kernel_rfl) (fun _ _ _ h => absurd h.1 (by simp)) (Or.inl ⟨by rfl, ?_⟩) (by assumption) ?_
  rotate_left
  · (intro w hSw; go_simp; (try with_reducible rfl))
  (try simp only [Act.put, List.setIfInBounds_toArray, List.set_cons_zero, List.set_cons_succ])
  refine wpE_take (k := 5) (o := ⟨some 19, _, _, _, _, _⟩) (v := ?_) rfl (by kernel_rfl) (by kernel_rfl) (by kernel_rfl) (by kernel_rfl) (fun _ _ _ h => absurd h.1 (by simp)) (Or.inl ⟨by rfl, ?_⟩) (by assumption) ?_
  rotate_left
  · (intro w hSw; go_simp; (try with_reducible rfl))
  (try simp only [Act.put, List.setIfInBounds_toArray, List.set_cons_zero, List.set_cons_succ])
  refine wpE_take (k := 8) (o := ⟨some 22, _, _, _, _, _⟩) (v := ?_) rfl (by kernel_rfl) (by kernel_rfl) (by kernel_rfl) (by kernel_rfl) (fun _ _ _ h => absurd h.1 (by simp)) (Or.inl ⟨by rfl, ?_⟩) (by assumption) ?_
  rotate_left
  · (intro w hSw; go_simp; (try with_reducible rfl))
  (try simp only [Act.put, List.setIfInBounds_toArray, List.set_cons_zero, List.set_cons_succ])
  refine wpE_take (k := 9) (o := ⟨some 23, _, _, _, _, _⟩) (v := ?_) rfl (by kernel_rfl) (by kernel_rfl) (by kernel_rfl) (by kernel_rfl) (fun _ _ _ h => absurd h.1 (by simp)) (Or.inl ⟨by rfl, ?_⟩) (by assumption) ?_
  rotate_left
  · (intro w hSw; go_simp; (try with_reducible rfl))
  (try simp only [Act.put, List.setIfInBounds_toArray, List.set_cons_zero, List.set_cons_succ])
  refine wpE_take (k := 10) (o := ⟨some 24, _, _, _, _, _⟩) (v := ?_) rfl (by kernel_rfl) (by kernel_rfl) (by kernel_rfl) (by kernel_rfl) (fun _ _ _ h => absurd h.1 (by simp)) (Or.inl ⟨by rfl, ?_⟩) (by assumption) ?_
  rotate_left
  · (intro w hSw; go_simp; (try with_reducible rfl))
  (try simp only [Act.put, List.setIfInBounds_toArray, List.set_cons_zero, List.set_cons_succ])
  refine wpE_one (k := 6) (o := ⟨some 20, _, _, _, _, _⟩) rfl (by kernel_rfl) (fun K hK => ?_)
  refine step_callG (P := Try.prog) w2.drew 76 [.tmp 19] _ (by rfl) (by kernel_rfl) [.slice (some ⟨g, off, none⟩) n Ac] (by rfl) (fun _ _ => rfl) (HSUM.out _ hS) ?_
  rintro e w3 ⟨rfl, rfl⟩
  refine ⟨_, rfl, ?_⟩
  refine hK.out _ _ hS (fun hS => ?_)
  clear hK K
  try simp only [Act.put, List.setIfInBounds_toArray, List.set_cons_zero, List.set_cons_succ]
  refine wpE_one (k := 7) (o := ⟨some 21, _, _, _, _, _⟩) rfl (by kernel_rfl) (fun K hK => ?_)
  refine step_callG (P := Try.prog) w2.drew 75 [.const (.slice none 0 0), .tmp 20] _ (by rfl) (by kernel_rfl) [.slice none 0 0, .int .u64 ((sumN (bs.take n) : Nat) : Int)] (by rfl) (fun _ _ => rfl) (fnumu_any w2.drew.heap.size [] (sumN (bs.take n)) (sumN_lt _) (by simp) none 0 w2.drew (Own.nil _ _ _ _) (Nat.le_refl _)) ?_
  rintro e w5 ⟨na, nc, rfl, ho5, hr5⟩
  refine ⟨_, rfl, ?_⟩
  have hb5 : Below w2.heap.size w2 w5 := undrew (hr5.to_below (Nat.le_refl _) (fun k e => by cases e))
  have HB5 := Aside.mk hb5
  have hS5 := (HRK.out.below HB2.out).below hb5
  have HEQ := Aside.mk (equal_tail hb hnk HN.out HK.out HNE.out hS5 ho5.rd)
  refine hK.out _ _ hS5 (fun hS => ?_)
  clear ho5 hr5 hb5
  clear hK K
  try simp only [Act.put, List.setIfInBounds_toArray, List.set_cons_zero, List.set_cons_succ]
  refine wpE_one (k := 11) (o := ⟨some 25, _, _, _, _, _⟩) rfl (by kernel_rfl) (fun K hK => ?_)
  refine step_callG (P := Try.prog) w5 79 [.tmp 21, .tmp 24] _ (by rfl) (by kernel_rfl) _ (by rfl) (fun _ _ => rfl) HEQ.out ?_
  rintro e w6 ⟨rfl, hb6⟩
  refine ⟨_, rfl, ?_⟩
  have HB6 := Aside.mk (below_chain HB5.out hb6)
  refine hK.out _ _ (hS5.below hb6) (fun hS => ?_)
  clear hb6 hS5
  clear hK K
  try simp only [Act.put, List.setIfInBounds_toArray, List.set_cons_zero, List.set_cons_succ]
  refine wpE_take (k := 12) (o := ⟨some 26, _, _, _, _, _⟩) (v := ?_) rfl (by kernel_rfl) (by kernel_rfl) (by kernel_rfl) (by kernel_rfl) (fun _ _ _ h => absurd h.1 (by simp)) (Or.inl ⟨by rfl, ?_⟩) (by assumption) ?_
  rotate_left
  · (intro w hSw; go_simp; (try with_reducible rfl))
  (try simp only [Act.put, List.setIfInBounds_toArray, List.set_cons_zero, List.set_cons_succ])
  refine wpE_last (k := 13) (o := ⟨some 27, _, _, _, _, _⟩) rfl (by kernel_rfl) (by kernel_rfl) rfl (fun K hK => ?_)
  go_simp
  refine hK.out _ _ ?_
  clear hK K hS
  refine ⟨rfl, ?_⟩
  have h6 := (HB6.out.block _ (lt_of_blk HX2.out)).trans HX2.out
  have hfr := fun k => frozen_blk (k := k) h6
  obtain ⟨r0, r1, r2⟩ := box3t h6
  have ha0 := heap_setCell_at (k := 0) h6 (.slice none 0 0)
  have ha1 := heap_setCell_at (k := 1) ha0 (.int .i64 0)
  have ha2 := heap_setCell_at (k := 2) ha1 (.slice none 0 0)
  simp only [Array.setIfInBounds, List.setIfInBounds_toArray, List.set_cons_zero, List.set_cons_succ] at ha0 ha1 ha2
  obtain ⟨g0, g1, g2⟩ := box3t (by simpa using ha2)
  have HG := Aside.mk (And.intro g0 (And.intro g1 g2))
  clear ha0 ha1 ha2 g0 g1 g2 h6
  go_wp2_with fail
  all_goals
    obtain ⟨g0, g1, g2⟩ := HG.out
    refine bodyPost_ret (v := .tuple #[.agg #[.slice none 0 0, .int .i64 0, .slice none 0 0], .int .i64 251]) (by simp [results, Try.results34, go_sem, g0, g1, g2]) rfl ?_
    exact ⟨rfl, (((below_chain HB2.out HB6.out).setCell (Nat.le_refl _) _).setCell (Nat.le_refl _) _).setCell (Nat.le_refl _) _⟩
end Go.Proofs.Ytmhjjhaipcgbiaa


namespace Go.Proofs.Ytmhjjhaipcgbiaa
open Go.RowKit
set_option linter.unusedVariables false
set_option linter.unusedSimpArgs false
set_option maxRecDepth 100000
set_option maxHeartbeats 1000000
theorem dnil_any (w : World) : Calls Try.prog 34 #[.slice none 0 0] w (fun e w' => e = .returned (.tuple #[.agg #[.slice none 0 0, .int .i64 0, .slice none 0 0], .int .i64 251]) ∧ Below w.heap.size w w') := by
  have hg : decide ((-8 : Int) < 0) = true := by decide
  go_enter Try.func34, Try.ntmps34
  go_upto_region 2 with fail
  go_quiet (fail)
  go_wp2_with fail
  all_goals
    refine bodyPost_ret (v := .tuple #[.agg #[.slice none 0 0, .int .i64 0, .slice none 0 0], .int .i64 251]) (by simp [results, Try.results34, go_sem]) rfl ?_
    exact ⟨rfl, ((((below_new w _).trans (below_drewN _ _ _)).setCell (Nat.le_refl _) _).setCell (Nat.le_refl _) _).setCell (Nat.le_refl _) _⟩
end Go.Proofs.Ytmhjjhaipcgbiaa
