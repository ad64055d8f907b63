/- Texts of this claim, one behind the other: Print, Moment, Bits. -/
import Derived.Test.YtmhjjhaipcgbiaaBakP2
import Derived.Test.YtmhjjhaipcgbiaaBakP1

namespace Go.Proofs.Ytmhjjhaipcgbiaa
open Go.RowKit
set_option linter.unusedVariables false
set_option linter.unusedSimpArgs false
set_option maxRecDepth 100000
set_option maxHeartbeats 400000
theorem date_at (n : Int) (h0 : -719528 ≤ n) (h1 : n ≤ 2932896) (w : World) : Calls Try.prog 92 #[.int .i64 n] w (DateP (n + 719528) w) := by
  have := date_any (n + 719528) (by omega) (by omega) w
  rwa [show n + 719528 - 719528 = n by omega] at this
def DateB (w : World) (e : Ending) (w' : World) : Prop := ∃ y m d : Nat, e = .returned (.tuple #[.int .i64 y, .int .i64 m, .int .i64 d]) ∧ y < 10000 ∧ m < 100 ∧ d < 100 ∧ Below w.heap.size w w'
theorem date_b (n : Int) (h0 : -719528 ≤ n) (h1 : n ≤ 2932896) (w : World) : Calls Try.prog 92 #[.int .i64 n] w (DateB w) := by
  refine (date_at n h0 h1 w).mono ?_
  rintro e w' ⟨y, m, d, rfl, ⟨hy0, hy1, j, rfl, hj, hd1, hd2, _⟩, hb⟩
  have := mlens_pos y j hj
  refine ⟨y.toNat, j + 1, d.toNat, ?_, by omega, by omega, by omega, hb⟩
  rw [Int.toNat_of_nonneg hy0, Int.toNat_of_nonneg (by omega)]
  rfl
def PrintP (ok : Bool) (err : Int) (w : World) (e : Ending) (w' : World) : Prop := ∃ a n c xs, e = .returned (.tuple #[.slice a n c, .int .i64 (if ok then 0 else err)]) ∧ Own w' w.heap.size 5 1 (.slice a n c) n xs ∧ n ≤ 60 ∧ Below w.heap.size w w'
theorem printDay_any (b : Int) (h0 : 0 ≤ b) (h1 : b ≤ 18446744073709551615) (w : World) : Calls Try.prog 42 #[.int .u64 b] w (PrintP (dayOK b) 131 w) := by
  by_cases h1 : -719528 ≤ wrap64 b
  · have c1 : (decide (wrap64 b < -719528)) = false := by simp; omega
    by_cases h2 : wrap64 b ≤ 2932896
    · have hd : Aside (dayOK b = true) := ⟨by unfold dayOK asInt; simp [h1, h2]⟩
      have c2 : (decide (2932896 < wrap64 b)) = false := by simp; omega
      have H12 := Aside.mk (And.intro h1 h2)
      clear h1 h2
      go_enter Try.func42, Try.ntmps42
      go_wp2_with (first | (go_at_call 92; refine (date_b (wrap64 b) H12.out.1 H12.out.2 _).mono ?_; rintro e w1 ⟨y, m, d, rfl, hy, hm, hdd, hb1⟩; have B1 := Aside.mk hb1; clear hb1) | (go_at_call 93; refine (pad3 y m d hy hm hdd _ _ _ (heap_alloc_new w1 _)).mono ?_; rintro e w2 ⟨a2, n2, c2', xs, rfl, ho2, hn2, hb2⟩; have O2 := Aside.mk ho2; have B2 := Aside.mk hb2; clear ho2 hb2))
      go_ret2
      have hs := B1.out.size
      refine ⟨a2, n2, c2', xs, by rw [hd.out]; rfl, O2.out.mono (by simp; omega), by omega, (B1.out.alloc hs _).trans (B2.out.mono (by simp; omega))⟩
    · have hd : Aside (dayOK b = false) := ⟨by unfold dayOK asInt; simp [h2]⟩
      have c2 : (decide (2932896 < wrap64 b)) = true := by simp; omega
      clear h1 h2
      go_enter Try.func42, Try.ntmps42
      go_wp2
      go_ret2
      exact ⟨none, 0, 0, [], by rw [hd.out]; rfl, Own.nil _ _ _ _, by omega, Below.refl _ _⟩
  · have c1 : (decide (wrap64 b < -719528)) = true := by simp; omega
    have hd : Aside (dayOK b = false) := ⟨by unfold dayOK asInt; simp [h1]⟩
    clear h1
    go_enter Try.func42, Try.ntmps42
    go_wp2
    go_ret2
    exact ⟨none, 0, 0, [], by rw [hd.out]; rfl, Own.nil _ _ _ _, by omega, Below.refl _ _⟩
end Go.Proofs.Ytmhjjhaipcgbiaa


namespace Go.Proofs.Ytmhjjhaipcgbiaa
open Go.RowKit
set_option linter.unusedVariables false
set_option linter.unusedSimpArgs false
set_option maxRecDepth 100000
set_option maxHeartbeats 400000
theorem quo_neg {n : Int} (h0 : -62167219200000000 ≤ n) (h1 : n < 253402300800000000) (h : Int.tmod n 86400000000 < 0) : wrap64 (wrap64 (n.tdiv 86400000000) - 1) = n / 86400000000 ∧ wrap64 (n.tmod 86400000000 + 86400000000) = n % 86400000000 := by
  rw [Int.tmod_eq_emod] at h
  rw [Int.tdiv_eq_ediv, Int.tmod_eq_emod]
  unfold wrap64
  split at h
  · omega
  · rename_i h2
    rw [if_neg h2, if_neg h2]
    simp only [Int.sign_eq_one_of_pos (show (0 : Int) < 86400000000 by decide)] at h ⊢
    have hn : ((Int.natAbs (86400000000 : Int) : Nat) : Int) = 86400000000 := rfl
    rw [hn] at h ⊢
    constructor <;> omega
theorem quo_pos {n : Int} (h0 : -62167219200000000 ≤ n) (h1 : n < 253402300800000000) (h : ¬ Int.tmod n 86400000000 < 0) : wrap64 (n.tdiv 86400000000) = n / 86400000000 ∧ n.tmod 86400000000 = n % 86400000000 := by
  rw [Int.tmod_eq_emod] at h
  rw [Int.tdiv_eq_ediv, Int.tmod_eq_emod]
  unfold wrap64
  split at h
  · rename_i h2
    rw [if_pos h2, if_pos h2]
    constructor <;> omega
  · rename_i h2
    have hn : ((Int.natAbs (86400000000 : Int) : Nat) : Int) = 86400000000 := rfl
    rw [hn] at h
    omega
theorem printMoment_any (b : Int) (h0 : 0 ≤ b) (h1 : b ≤ 18446744073709551615) (w : World) : Calls Try.prog 43 #[.int .u64 b] w (PrintP (momOK b) 131 w) := by
  by_cases h1 : -62167219200000000 ≤ wrap64 b
  · have c1 : (decide (wrap64 b < -62167219200000000)) = false := by simp; omega
    by_cases h2 : wrap64 b < 253402300800000000
    · have hd : Aside (momOK b = true) := ⟨by unfold momOK asInt; simp [h1, h2]⟩
      have c2 : (decide (253402300800000000 ≤ wrap64 b)) = false := by simp; omega
      have H12 := Aside.mk (And.intro h1 h2)
      clear h1 h2
      have hM : ∃ D : Int, ∃ M : Nat, D = wrap64 b / 86400000000 ∧ (M : Int) = wrap64 b % 86400000000 ∧ -719528 ≤ D ∧ D ≤ 2932896 ∧ M < 86400000000 := by
        refine ⟨_, (wrap64 b % 86400000000).toNat, rfl, ?_, ?_, ?_, ?_⟩ <;> have := H12.out <;> omega
      obtain ⟨D, M, hD, hM, hD0, hD1, hM1⟩ := hM
      have HDM := Aside.mk (And.intro hD hM)
      clear hD hM
      go_enter Try.func43, Try.ntmps43
      go_upto_if 27 with fail
      go_cut [5, 6] from 26 to 31 (fun s5 s6 wx => s5 = .int .i64 D ∧ s6 = .int .i64 (M : Int) ∧ wx = w)
      case first =>
        by_cases hm : Int.tmod (wrap64 b) 86400000000 < 0
        · have hq := Aside.mk (quo_neg H12.out.1 H12.out.2 hm)
          go_wp2
          go_meet
          exact ⟨by rw [HDM.out.1, ← hq.out.1], by rw [HDM.out.2, ← hq.out.2], rfl⟩
        · have hq := Aside.mk (quo_pos H12.out.1 H12.out.2 hm)
          go_wp2
          go_meet
          exact ⟨by rw [HDM.out.1, ← hq.out.1], by rw [HDM.out.2, ← hq.out.2], rfl⟩
      case rest =>
        obtain ⟨rfl, rfl, rfl⟩ := hcut
        go_wp2_with (go_at_call 92; refine (date_b D hD0 hD1 _).mono ?_; rintro e w1 ⟨y, m, d, rfl, hy, hm, hdd, hb1⟩; have B1 := Aside.mk hb1; clear hb1)
        refine (pad6 y m d (M / 1000000 / 3600) (M / 1000000 / 60 % 60) (M / 1000000 % 60) hy hm hdd (by omega) (by omega) (by omega) _ 3 _ ?hh).mono ?_
        case hh =>
          rw [heap_alloc_new]; simp
        rintro e w2 ⟨a2, n2, c2', xs, rfl, ho2, hn2, hb2⟩
        have hs1 := B1.out.size
        have O2 := Aside.mk (ho2.mono (show wc.heap.size ≤ _ by simp; omega))
        have B2 := Aside.mk ((B1.out.alloc hs1 _).trans (hb2.mono (by simp; omega)))
        clear ho2 hb2
        by_cases hz : M % 1000000 = 0
        · have hz1 : ¬ (0 < M % 1000000) := by omega
          clear hz
          go_wp2_with (fail)
          go_ret2
          exact ⟨a2, n2, c2', xs, by rw [hd.out]; rfl, O2.out, by omega, B2.out⟩
        · have hz1 : (0 < M % 1000000) := by omega
          generalize hX : M % 1000000 = X at *
          have hX6 : X < 1000000 := by omega
          have hcast : ((M : Int) % 1000000) = (X : Int) := by omega
          have HX := Aside.mk hX
          clear hz hX
          go_wp2_with (go_at_call 94; simp only [hcast]; refine (pad_ok X 6 (by omega) (by omega) (by omega) (by omega) _).mono ?_; rintro e w3 ⟨da, dc, rfl, hd1, hd2⟩)
          obtain ⟨g, off, cap, hda, hg1, hg2, hcap, hcap2, hcells, hfz⟩ := hd1.some_ (by omega)
          simp only [Value.slice.injEq, true_and] at hda
          obtain ⟨rfl, rfl⟩ := hda
          have hs2 := B2.out.size
          have L2 := Aside.mk O2.out.lt
          have O3 := Aside.mk (O2.out.below hd2)
          have B3 := Aside.mk (B2.out.trans (hd2.mono hs2))
          have D3 := Aside.mk hd1
          have HCL := Aside.mk hcells
          have HS3 := Aside.mk hd2.size
          clear hd1 hd2 hfz hcells O2 B2
          go_loop [12] (fun vd => ∃ n j : Nat, vd = .slice (some ⟨g, off, none⟩) n dc ∧ j < n ∧ n ≤ 6 ∧ X / 10 ^ (5 - j) % 10 ≠ 0) (fun vd => (match vd with | .slice _ n _ => n | _ => 0))
          case atStart =>
            have hj : ∃ j, j < 6 ∧ X / 10 ^ (5 - j) % 10 ≠ 0 := by
              apply Classical.byContradiction
              intro hn
              have hn' : ∀ j, j < 6 → X / 10 ^ (5 - j) % 10 = 0 := fun j hj => Classical.byContradiction fun h => hn ⟨j, hj, h⟩
              have h0 := hn' 0 (by omega)
              have h1 := hn' 1 (by omega)
              have h2 := hn' 2 (by omega)
              have h3 := hn' 3 (by omega)
              have h4 := hn' 4 (by omega)
              have h5 := hn' 5 (by omega)
              simp only [Nat.reduceSub, Nat.reducePow, Nat.div_one] at h0 h1 h2 h3 h4 h5
              omega
            obtain ⟨j, hj, hj2⟩ := hj
            exact ⟨6, j, rfl, hj, by omega, hj2⟩
          case round =>
            obtain ⟨n, j, rfl, hjn, hn6, hj2⟩ := hrel
            have HJ := Aside.mk hj2
            clear hj2
            obtain ⟨k, rfl⟩ : ∃ k, n = k + 1 := ⟨n - 1, by omega⟩
            have hc : w3.cell? ⟨g, off + k, none⟩ = some (.int .u8 ((48 + X / 10 ^ (5 - k) % 10 : Nat) : Int)) := by
              apply HCL.out
              simp only [digs, List.getElem?_map, List.getElem?_range (show k < 6 by omega), Option.map_some, dg]
            by_cases hq : X / 10 ^ (5 - k) % 10 = 0
            · have hkj : j ≠ k := by
                intro e; subst e; exact HJ.out hq
              rw [hq] at hc
              clear hq
              go_wp2
              go_round
              case rel => exact ⟨k, j, by go_num, by omega, by omega, HJ.out⟩
              case measure => simp
            · have hq2 : ((48 + X / 10 ^ (5 - k) % 10 : Nat) : Int) ≠ 48 := by omega
              generalize ((48 + X / 10 ^ (5 - k) % 10 : Nat) : Int) = ch at *
              have hq3 : (ch == 48) = false := by simpa using hq2
              clear hq hq2
              go_wp2_with (at_builtin; go_loud (refine wpList_app _ rfl _ _ 37 37 rfl wc.heap.size 5 (.int .u8 0) 1 1 Try.underlying37 u8info rfl _ _ _ rfl (O3.out.alloc _) _ 1 [.int .u8 46] rfl (src_one Try.underlying37 _ _ _ rfl rfl) (by unfold maxLen; omega) (by omega) (by have := HS3.out; simp; omega) ?_))
              intro v' w5 hown' hgrow _ hat
              obtain ⟨a5, c5, rfl⟩ := hown'.form
              have hs5 := hgrow.size
              have hs3 := HS3.out
              rw [World.size_alloc] at hs5
              have O5 := Aside.mk hown'
              have B5 := Aside.mk ((B3.out.alloc B3.out.size (.cells #[.int .u8 46] 5)).trans (below_of_grown hgrow (by have := HS3.out; simp; omega) (fun k e => (O3.out.lt k e).1)))
              have D5 := Aside.mk (((D3.out.alloc (.cells #[.int .u8 46] 5)).moved (w' := w5) (fun kk e => hgrow.block kk (by have := (D3.out.lt kk e).2; simp; omega) (fun e2 => by have := (L2.out kk e2.symm).2; have := (D3.out.lt kk e).1; omega))).cut (i := 0) (j := k + 1) (by omega) hn6)
              have hsrc := D5.out.rd.src (tx := 37) Try.underlying37 (P := Try.prog) (fun u hu => one_digs X 6 u (List.mem_of_mem_drop (List.mem_of_mem_take hu)))
              simp only [Nat.zero_mul, Nat.add_zero, Nat.sub_zero, Nat.mul_one] at hsrc
              have HS5 := Aside.mk hsrc
              clear hown' hgrow hat hsrc
              go_wp2_with (at_builtin; refine wpList_app _ rfl _ _ 37 37 rfl wc.heap.size 5 (.int .u8 0) 1 1 Try.underlying37 u8info rfl _ _ _ rfl O5.out _ (k + 1) (((digs X 6).drop 0).take (k + 1)) rfl HS5.out (by unfold maxLen; omega) (by omega) (by omega) ?_)
              intro v' w7 hown' hgrow _ hat
              obtain ⟨a7, c7, rfl⟩ := hown'.form
              have O7 := Aside.mk hown'
              have B7 := Aside.mk (B5.out.trans (below_of_grown hgrow (by omega) (fun k e => (O5.out.lt k e).1)))
              clear hown' hgrow hat
              go_wp2_with (fail)
              go_ret2
              exact ⟨a7, _, c7, _, by rw [hd.out]; rfl, O7.out, by omega, B7.out⟩
    · have hd : Aside (momOK b = false) := ⟨by unfold momOK asInt; simp [h2]⟩
      have c2 : (decide (253402300800000000 ≤ wrap64 b)) = true := by simp; omega
      clear h1 h2
      go_enter Try.func43, Try.ntmps43
      go_wp2
      go_ret2
      exact ⟨none, 0, 0, [], by rw [hd.out]; rfl, Own.nil _ _ _ _, by omega, Below.refl _ _⟩
  · have c1 : (decide (wrap64 b < -62167219200000000)) = true := by simp; omega
    have hd : Aside (momOK b = false) := ⟨by unfold momOK asInt; simp [h1]⟩
    clear h1
    go_enter Try.func43, Try.ntmps43
    go_wp2
    go_ret2
    exact ⟨none, 0, 0, [], by rw [hd.out]; rfl, Own.nil _ _ _ _, by omega, Below.refl _ _⟩
end Go.Proofs.Ytmhjjhaipcgbiaa


namespace Go.Proofs.Ytmhjjhaipcgbiaa
open Go.RowKit
set_option linter.unusedVariables false
set_option linter.unusedSimpArgs false
set_option maxHeartbeats 1000000 in
theorem shapes_32 (w : World) : Calls Try.prog 90 #[.int .i64 9] w fun e w' => e = .returned (.tuple #[.agg #[.int .i64 24, .int .i64 (-149), .int .i64 32], .bool true]) ∧ Below w.heap.size w w' := by
  have i0 : ∀ w, (Instr.index 191 (.agg #[.int .i64 9, .int .i64 24, .int .i64 (-149), .int .i64 32, .int .i64 10, .int .i64 53, .int .i64 (-1074), .int .i64 64]) (.int .i64 0)).run Try.prog w = .ok (.agg #[.int .i64 9, .int .i64 24, .int .i64 (-149), .int .i64 32]) w := fun _ => by kernel_rfl
  have i1 : ∀ w, (Instr.index 191 (.agg #[.int .i64 9, .int .i64 24, .int .i64 (-149), .int .i64 32, .int .i64 10, .int .i64 53, .int .i64 (-1074), .int .i64 64]) (.int .i64 1)).run Try.prog w = .ok (.agg #[.int .i64 10, .int .i64 53, .int .i64 (-1074), .int .i64 64]) w := fun _ => by kernel_rfl
  go_enter Try.func90, Try.ntmps90
  go_wp2
  refine wp_loop_rounds 1 ?_
  rw [rounds_succ]
  go_wp2
  refine bodyPost_ret (v := .tuple #[.agg #[.int .i64 24, .int .i64 (-149), .int .i64 32], .bool true]) (by simp [results, Try.results90, go_sem]) rfl ⟨rfl, (by repeat (first | exact Below.refl _ _ | assumption | (refine Below.drew ?_) | (refine Below.trans ?_ (below_drewN _ _ _)) | (refine Below.alloc ?_ (by first | omega | (simp; done) | (simp; omega)) _) | (refine Below.setCell ?_ (by first | omega | (simp; done) | (simp; omega)) _)))⟩
set_option maxHeartbeats 1000000 in
theorem shapes_64 (w : World) : Calls Try.prog 90 #[.int .i64 10] w fun e w' => e = .returned (.tuple #[.agg #[.int .i64 53, .int .i64 (-1074), .int .i64 64], .bool true]) ∧ Below w.heap.size w w' := by
  have i0 : ∀ w, (Instr.index 191 (.agg #[.int .i64 9, .int .i64 24, .int .i64 (-149), .int .i64 32, .int .i64 10, .int .i64 53, .int .i64 (-1074), .int .i64 64]) (.int .i64 0)).run Try.prog w = .ok (.agg #[.int .i64 9, .int .i64 24, .int .i64 (-149), .int .i64 32]) w := fun _ => by kernel_rfl
  have i1 : ∀ w, (Instr.index 191 (.agg #[.int .i64 9, .int .i64 24, .int .i64 (-149), .int .i64 32, .int .i64 10, .int .i64 53, .int .i64 (-1074), .int .i64 64]) (.int .i64 1)).run Try.prog w = .ok (.agg #[.int .i64 10, .int .i64 53, .int .i64 (-1074), .int .i64 64]) w := fun _ => by kernel_rfl
  go_enter Try.func90, Try.ntmps90
  go_wp2
  refine wp_loop_rounds 2 ?_
  rw [rounds_succ]
  go_wp2
  rw [rounds_succ]
  go_wp2
  refine bodyPost_ret (v := .tuple #[.agg #[.int .i64 53, .int .i64 (-1074), .int .i64 64], .bool true]) (by simp [results, Try.results90, go_sem]) rfl ⟨rfl, (by repeat (first | exact Below.refl _ _ | assumption | (refine Below.drew ?_) | (refine Below.trans ?_ (below_drewN _ _ _)) | (refine Below.alloc ?_ (by first | omega | (simp; done) | (simp; omega)) _) | (refine Below.setCell ?_ (by first | omega | (simp; done) | (simp; omega)) _)))⟩
set_option maxHeartbeats 1000000 in
theorem sign_32 (w : World) : Calls Try.prog 88 #[.agg #[.int .i64 24, .int .i64 (-149), .int .i64 32]] w fun e w' => e = .returned (.int .u64 2147483648) ∧ w' = w.alloc (.cells #[.int .i64 24, .int .i64 (-149), .int .i64 32] 153) := by
  go_enter Try.func88, Try.ntmps88
  go_wp2
  go_ret
  exact ⟨rfl, rfl⟩
set_option maxHeartbeats 1000000 in
theorem sign_64 (w : World) : Calls Try.prog 88 #[.agg #[.int .i64 53, .int .i64 (-1074), .int .i64 64]] w fun e w' => e = .returned (.int .u64 9223372036854775808) ∧ w' = w.alloc (.cells #[.int .i64 53, .int .i64 (-1074), .int .i64 64] 153) := by
  go_enter Try.func88, Try.ntmps88
  go_wp2
  go_ret
  exact ⟨rfl, rfl⟩
set_option maxHeartbeats 1000000 in
theorem inf_32 (w : World) : Calls Try.prog 89 #[.agg #[.int .i64 24, .int .i64 (-149), .int .i64 32]] w fun e w' => e = .returned (.int .u64 2139095040) ∧ Below w.heap.size w w' := by
  go_enter Try.func89, Try.ntmps89
  go_wp2
  have e1 : IntKind.i64.wrap 23 = 23 := by decide
  go_region_with (go_at_call 88; refine (sign_32 _).mono ?_; rintro e w1 ⟨rfl, rfl⟩)
  all_goals (go_wp2; go_ret; exact ⟨rfl, (by repeat (first | exact Below.refl _ _ | assumption | (refine Below.drew ?_) | (refine Below.trans ?_ (below_drewN _ _ _)) | (refine Below.alloc ?_ (by first | omega | (simp; done) | (simp; omega)) _) | (refine Below.setCell ?_ (by first | omega | (simp; done) | (simp; omega)) _)))⟩)
set_option maxHeartbeats 1000000 in
theorem inf_64 (w : World) : Calls Try.prog 89 #[.agg #[.int .i64 53, .int .i64 (-1074), .int .i64 64]] w fun e w' => e = .returned (.int .u64 9218868437227405312) ∧ Below w.heap.size w w' := by
  go_enter Try.func89, Try.ntmps89
  go_wp2
  have e1 : IntKind.i64.wrap 52 = 52 := by decide
  go_region_with (go_at_call 88; refine (sign_64 _).mono ?_; rintro e w1 ⟨rfl, rfl⟩)
  all_goals (go_wp2; go_ret; exact ⟨rfl, (by repeat (first | exact Below.refl _ _ | assumption | (refine Below.drew ?_) | (refine Below.trans ?_ (below_drewN _ _ _)) | (refine Below.alloc ?_ (by first | omega | (simp; done) | (simp; omega)) _) | (refine Below.setCell ?_ (by first | omega | (simp; done) | (simp; omega)) _)))⟩)
set_option maxHeartbeats 1000000 in
theorem own_32 (b : Int) (h0 : 0 ≤ b) (h1 : b < 4294967296) (w : World) : Calls Try.prog 87 #[.int .i64 9, .int .u64 b] w fun e w' => e = .returned (.tuple #[.agg #[.int .i64 24, .int .i64 (-149), .int .i64 32], .int .i64 0]) ∧ Below w.heap.size w w' := by
  go_enter Try.func87, Try.ntmps87
  go_wp2_with (go_at_call 90; refine (shapes_32 _).mono ?_; rintro e w1 ⟨rfl, hb1⟩; obtain ⟨hc, hf⟩ := bcell hb1; have hz : w.heap.size < w1.heap.size := by have := hb1.size; simp at this; omega)
  have hB : Below w.heap.size w w1 := (below_new w _).trans (hb1.mono (by simp))
  refine bodyPost_ret (v := .tuple #[.agg #[.int .i64 24, .int .i64 (-149), .int .i64 32], .int .i64 0]) (by simp [results, Try.results87, go_sem, hc, hz]) rfl ⟨rfl, (by repeat (first | exact Below.refl _ _ | assumption | (refine Below.drew ?_) | (refine Below.trans ?_ (below_drewN _ _ _)) | (refine Below.alloc ?_ (by first | omega | (simp; done) | (simp; omega)) _) | (refine Below.setCell ?_ (by first | omega | (simp; done) | (simp; omega)) _)))⟩
set_option maxHeartbeats 1000000 in
theorem own_32_no (b : Int) (h0 : 4294967296 ≤ b) (w : World) : Calls Try.prog 87 #[.int .i64 9, .int .u64 b] w fun e w' => e = .returned (.tuple #[.agg #[.int .i64 24, .int .i64 (-149), .int .i64 32], .int .i64 31]) ∧ Below w.heap.size w w' := by
  go_enter Try.func87, Try.ntmps87
  go_wp2_with (go_at_call 90; refine (shapes_32 _).mono ?_; rintro e w1 ⟨rfl, hb1⟩; obtain ⟨hc, hf⟩ := bcell hb1; have hz : w.heap.size < w1.heap.size := by have := hb1.size; simp at this; omega)
  have hB : Below w.heap.size w w1 := (below_new w _).trans (hb1.mono (by simp))
  refine bodyPost_ret (v := .tuple #[.agg #[.int .i64 24, .int .i64 (-149), .int .i64 32], .int .i64 31]) (by simp [results, Try.results87, go_sem, hc, hz]) rfl ⟨rfl, (by repeat (first | exact Below.refl _ _ | assumption | (refine Below.drew ?_) | (refine Below.trans ?_ (below_drewN _ _ _)) | (refine Below.alloc ?_ (by first | omega | (simp; done) | (simp; omega)) _) | (refine Below.setCell ?_ (by first | omega | (simp; done) | (simp; omega)) _)))⟩
set_option maxHeartbeats 1000000 in
theorem own_64 (b : Int) (w : World) : Calls Try.prog 87 #[.int .i64 10, .int .u64 b] w fun e w' => e = .returned (.tuple #[.agg #[.int .i64 53, .int .i64 (-1074), .int .i64 64], .int .i64 0]) ∧ Below w.heap.size w w' := by
  go_enter Try.func87, Try.ntmps87
  go_wp2_with (go_at_call 90; refine (shapes_64 _).mono ?_; rintro e w1 ⟨rfl, hb1⟩; obtain ⟨hc, hf⟩ := bcell hb1; have hz : w.heap.size < w1.heap.size := by have := hb1.size; simp at this; omega)
  have hB : Below w.heap.size w w1 := (below_new w _).trans (hb1.mono (by simp))
  refine bodyPost_ret (v := .tuple #[.agg #[.int .i64 53, .int .i64 (-1074), .int .i64 64], .int .i64 0]) (by simp [results, Try.results87, go_sem, hc, hz]) rfl ⟨rfl, (by repeat (first | exact Below.refl _ _ | assumption | (refine Below.drew ?_) | (refine Below.trans ?_ (below_drewN _ _ _)) | (refine Below.alloc ?_ (by first | omega | (simp; done) | (simp; omega)) _) | (refine Below.setCell ?_ (by first | omega | (simp; done) | (simp; omega)) _)))⟩
end Go.Proofs.Ytmhjjhaipcgbiaa
