/- Texts of this claim, one behind the other: Zr, Zo, Twin. -/
import Derived.Test.YtmhjjhaipcgbiaaGreatZemP19
import Derived.Test.YtmhjjhaipcgbiaaGreatZemP16
import Derived.Test.YtmhjjhaipcgbiaaGreatZemP9

namespace Go.Proofs.YtmhjjhaipcgbiaaGreat
open Go.RowKit
set_option linter.unusedVariables false
set_option linter.unusedSimpArgs false
set_option maxRecDepth 100000
set_option maxHeartbeats 4000000
def sgn (n : Bool) (x : Int) : Int := if n then -x else x
theorem cmp_nn {x y : Int} : cmpS (sgn true x) (sgn true y) = cmpS y x := by
  unfold sgn
  simp only [if_true]
  rcases (by omega : x < y ∨ y < x ∨ x = y) with g | g | rfl
  · rw [cmpS_gt g, cmpS_gt (by omega)]
  · rw [cmpS_lt g, cmpS_lt (by omega)]
  · rw [cmpS_eq rfl, cmpS_eq rfl]
theorem cmp_np {x y : Int} (hx : 0 < x) (hy : 0 ≤ y) : cmpS (sgn true x) (sgn false y) = -1 := by unfold sgn; simp; exact cmpS_lt (by omega)
theorem cmp_pn {x y : Int} (hx : 0 ≤ x) (hy : 0 < y) : cmpS (sgn false x) (sgn true y) = 1 := by unfold sgn; simp; exact cmpS_gt (by omega)
theorem cmp_pp {x y : Int} : cmpS (sgn false x) (sgn false y) = cmpS x y := by unfold sgn; simp
def isNeg (k b : Int) : Bool := decide (k ≤ 4 ∧ maxOf (wbits k) < 2 * b)
def magW (k b : Int) : Int := if isNeg k b then maxOf (wbits k) + 1 - b else b
theorem keyW_sgn (k b : Int) : keyW k b = sgn (isNeg k b) (magW k b) := by
  unfold keyW sgn magW isNeg
  by_cases h : k ≤ 4 ∧ maxOf (wbits k) < 2 * b
  · simp [h]; omega
  · simp [h]
theorem magW_pos {k b : Int} (h0 : 0 ≤ b) (h1 : b ≤ maxOf (wbits k)) : 0 ≤ magW k b ∧ (isNeg k b = true → 0 < magW k b) := by
  unfold magW
  by_cases h : isNeg k b = true
  · simp [h]; omega
  · simp [h]; exact h0
theorem r5signed_any (k : Int) (w : World) : Calls Tryz.prog 189 #[.int .i64 k] w fun e w' => e = .returned (.bool (decide (k ≤ 4))) ∧ w = w' := by
  go_enter Tryz.func189, Tryz.ntmps189
  go_wp2
  go_ret
  exact ⟨rfl, rfl⟩
theorem r5below_u (k b : Int) (hk : 5 ≤ k ∧ k ≤ 8) (w : World) : Calls Tryz.prog 165 #[.int .i64 k, .int .u64 b] w fun e w' => e = .returned (.tuple #[.bool (isNeg k b), .int .u64 (magW k b)]) ∧ Below w.heap.size w w' := by
  have e1 : isNeg k b = false := by unfold isNeg; simp; omega
  have e2 : magW k b = b := by unfold magW; rw [e1]; simp
  rw [e1, e2]
  have hk4 : decide (k ≤ 4) = false := by simp; omega
  go_enter Tryz.func165, Tryz.ntmps165
  go_wp2_with (first | (go_at_call 148; refine (r5width_any k _).mono ?_; rintro e w1 ⟨rfl, rfl⟩) | (go_at_call 189; refine (r5signed_any k _).mono ?_; rintro e w1 ⟨rfl, rfl⟩))
  go_ret2
  exact ⟨rfl, (by repeat (first | exact Below.refl _ _ | assumption | (refine Below.drew ?_) | (refine Below.trans ?_ (below_drewN _ _ _)) | (refine Below.alloc ?_ (by first | omega | (simp; done) | (simp; omega)) _) | (refine Below.setCell ?_ (by first | omega | (simp; done) | (simp; omega)) _)))⟩
theorem r5below_s (k b : Int) (hk : 1 ≤ k ∧ k ≤ 4) (h0 : 0 ≤ b) (h1 : b ≤ maxOf (wbits k)) (w : World) : Calls Tryz.prog 165 #[.int .i64 k, .int .u64 b] w fun e w' => e = .returned (.tuple #[.bool (isNeg k b), .int .u64 (magW k b)]) ∧ Below w.heap.size w w' := by
  have h64 : maxOf (wbits k) ≤ 18446744073709551615 := by unfold maxOf; (repeat' split) <;> omega
  have hwr := Aside.mk (show IntKind.u64.wrap (-b) = (-b) % 18446744073709551616 from IntKind.wrap_u64 _)
  have HCUT := Aside.mk (fun W => r5cut_any k ((-b) % 18446744073709551616) (by omega) (by omega) W ⟨hk.1, by omega⟩)
  have HMAX := Aside.mk h1
  have HWD := Aside.mk (fun W => r5width_any k W)
  have HSG := Aside.mk (fun W => r5signed_any k W)
  obtain rfl | rfl | rfl | rfl : k = 1 ∨ k = 2 ∨ k = 3 ∨ k = 4 := by omega
  · have hm : maxOf (wbits 1) = 255 := by decide
    rw [hm] at HCUT h1
    have hwd : wbits 1 = 8 := by decide
    rw [hwd] at HWD
    by_cases hb : b < 128
    · have e1 : isNeg 1 b = false := by unfold isNeg; rw [hm]; simp; omega
      have e2 : magW 1 b = b := by unfold magW; rw [e1]; simp
      rw [e1, e2]
      clear hm e1 e2 h64 HCUT hwd hwr
      go_enter Tryz.func165, Tryz.ntmps165
      go_wp2_with (first | (go_at_call 148; refine (HWD.out _).mono ?_; rintro e w1 ⟨rfl, rfl⟩) | (go_at_call 189; refine (HSG.out _).mono ?_; rintro e w1 ⟨rfl, rfl⟩))
      go_ret2
      exact ⟨rfl, (by repeat (first | exact Below.refl _ _ | assumption | (refine Below.drew ?_) | (refine Below.trans ?_ (below_drewN _ _ _)) | (refine Below.alloc ?_ (by first | omega | (simp; done) | (simp; omega)) _) | (refine Below.setCell ?_ (by first | omega | (simp; done) | (simp; omega)) _)))⟩
    · have e1 : isNeg 1 b = true := by unfold isNeg; rw [hm]; simp; omega
      have e2 : magW 1 b = (-b) % 256 := by unfold magW; rw [e1, hm]; simp; omega
      rw [e1, e2]
      clear hm e1 e2 h64 hwd
      have hw2 := hwr.out
      have hb1 : decide (b < 128) = false := by simp; omega
      go_enter Tryz.func165, Tryz.ntmps165
      go_wp2_with (first | (go_at_call 148; refine (HWD.out _).mono ?_; rintro e w1 ⟨rfl, rfl⟩) | (go_at_call 189; refine (HSG.out _).mono ?_; rintro e w1 ⟨rfl, rfl⟩) | (go_at_call 186; refine (HCUT.out _).mono ?_; rintro e w2 ⟨rfl, hb2⟩; have HB2 := Aside.mk hb2; clear hb2))
      go_ret2
      exact ⟨rfl, HB2.out⟩
  · have hm : maxOf (wbits 2) = 65535 := by decide
    rw [hm] at HCUT h1
    have hwd : wbits 2 = 16 := by decide
    rw [hwd] at HWD
    by_cases hb : b < 32768
    · have e1 : isNeg 2 b = false := by unfold isNeg; rw [hm]; simp; omega
      have e2 : magW 2 b = b := by unfold magW; rw [e1]; simp
      rw [e1, e2]
      clear hm e1 e2 h64 HCUT hwd hwr
      go_enter Tryz.func165, Tryz.ntmps165
      go_wp2_with (first | (go_at_call 148; refine (HWD.out _).mono ?_; rintro e w1 ⟨rfl, rfl⟩) | (go_at_call 189; refine (HSG.out _).mono ?_; rintro e w1 ⟨rfl, rfl⟩))
      go_ret2
      exact ⟨rfl, (by repeat (first | exact Below.refl _ _ | assumption | (refine Below.drew ?_) | (refine Below.trans ?_ (below_drewN _ _ _)) | (refine Below.alloc ?_ (by first | omega | (simp; done) | (simp; omega)) _) | (refine Below.setCell ?_ (by first | omega | (simp; done) | (simp; omega)) _)))⟩
    · have e1 : isNeg 2 b = true := by unfold isNeg; rw [hm]; simp; omega
      have e2 : magW 2 b = (-b) % 65536 := by unfold magW; rw [e1, hm]; simp; omega
      rw [e1, e2]
      clear hm e1 e2 h64 hwd
      have hw2 := hwr.out
      have hb1 : decide (b < 32768) = false := by simp; omega
      go_enter Tryz.func165, Tryz.ntmps165
      go_wp2_with (first | (go_at_call 148; refine (HWD.out _).mono ?_; rintro e w1 ⟨rfl, rfl⟩) | (go_at_call 189; refine (HSG.out _).mono ?_; rintro e w1 ⟨rfl, rfl⟩) | (go_at_call 186; refine (HCUT.out _).mono ?_; rintro e w2 ⟨rfl, hb2⟩; have HB2 := Aside.mk hb2; clear hb2))
      go_ret2
      exact ⟨rfl, HB2.out⟩
  · have hm : maxOf (wbits 3) = 4294967295 := by decide
    rw [hm] at HCUT h1
    have hwd : wbits 3 = 32 := by decide
    rw [hwd] at HWD
    by_cases hb : b < 2147483648
    · have e1 : isNeg 3 b = false := by unfold isNeg; rw [hm]; simp; omega
      have e2 : magW 3 b = b := by unfold magW; rw [e1]; simp
      rw [e1, e2]
      clear hm e1 e2 h64 HCUT hwd hwr
      go_enter Tryz.func165, Tryz.ntmps165
      go_wp2_with (first | (go_at_call 148; refine (HWD.out _).mono ?_; rintro e w1 ⟨rfl, rfl⟩) | (go_at_call 189; refine (HSG.out _).mono ?_; rintro e w1 ⟨rfl, rfl⟩))
      go_ret2
      exact ⟨rfl, (by repeat (first | exact Below.refl _ _ | assumption | (refine Below.drew ?_) | (refine Below.trans ?_ (below_drewN _ _ _)) | (refine Below.alloc ?_ (by first | omega | (simp; done) | (simp; omega)) _) | (refine Below.setCell ?_ (by first | omega | (simp; done) | (simp; omega)) _)))⟩
    · have e1 : isNeg 3 b = true := by unfold isNeg; rw [hm]; simp; omega
      have e2 : magW 3 b = (-b) % 4294967296 := by unfold magW; rw [e1, hm]; simp; omega
      rw [e1, e2]
      clear hm e1 e2 h64 hwd
      have hw2 := hwr.out
      have hb1 : decide (b < 2147483648) = false := by simp; omega
      go_enter Tryz.func165, Tryz.ntmps165
      go_wp2_with (first | (go_at_call 148; refine (HWD.out _).mono ?_; rintro e w1 ⟨rfl, rfl⟩) | (go_at_call 189; refine (HSG.out _).mono ?_; rintro e w1 ⟨rfl, rfl⟩) | (go_at_call 186; refine (HCUT.out _).mono ?_; rintro e w2 ⟨rfl, hb2⟩; have HB2 := Aside.mk hb2; clear hb2))
      go_ret2
      exact ⟨rfl, HB2.out⟩
  · have hm : maxOf (wbits 4) = 18446744073709551615 := by decide
    rw [hm] at HCUT h1
    have hwd : wbits 4 = 64 := by decide
    rw [hwd] at HWD
    by_cases hb : b < 9223372036854775808
    · have e1 : isNeg 4 b = false := by unfold isNeg; rw [hm]; simp; omega
      have e2 : magW 4 b = b := by unfold magW; rw [e1]; simp
      rw [e1, e2]
      clear hm e1 e2 h64 HCUT hwd hwr
      go_enter Tryz.func165, Tryz.ntmps165
      go_wp2_with (first | (go_at_call 148; refine (HWD.out _).mono ?_; rintro e w1 ⟨rfl, rfl⟩) | (go_at_call 189; refine (HSG.out _).mono ?_; rintro e w1 ⟨rfl, rfl⟩))
      go_ret2
      exact ⟨rfl, (by repeat (first | exact Below.refl _ _ | assumption | (refine Below.drew ?_) | (refine Below.trans ?_ (below_drewN _ _ _)) | (refine Below.alloc ?_ (by first | omega | (simp; done) | (simp; omega)) _) | (refine Below.setCell ?_ (by first | omega | (simp; done) | (simp; omega)) _)))⟩
    · have e1 : isNeg 4 b = true := by unfold isNeg; rw [hm]; simp; omega
      have e2 : magW 4 b = (-b) % 18446744073709551616 := by unfold magW; rw [e1, hm]; simp; omega
      rw [e1, e2]
      clear hm e1 e2 h64 hwd
      have hw2 := hwr.out
      have hb1 : decide (b < 9223372036854775808) = false := by simp; omega
      go_enter Tryz.func165, Tryz.ntmps165
      go_wp2_with (first | (go_at_call 148; refine (HWD.out _).mono ?_; rintro e w1 ⟨rfl, rfl⟩) | (go_at_call 189; refine (HSG.out _).mono ?_; rintro e w1 ⟨rfl, rfl⟩) | (go_at_call 186; refine (HCUT.out _).mono ?_; rintro e w2 ⟨rfl, hb2⟩; have HB2 := Aside.mk hb2; clear hb2))
      go_ret2
      exact ⟨rfl, HB2.out⟩
theorem r5below_any (k b : Int) (hk : 1 ≤ k ∧ k ≤ 8) (h0 : 0 ≤ b) (h1 : b ≤ maxOf (wbits k)) (w : World) : Calls Tryz.prog 165 #[.int .i64 k, .int .u64 b] w fun e w' => e = .returned (.tuple #[.bool (isNeg k b), .int .u64 (magW k b)]) ∧ Below w.heap.size w w' := by
  by_cases h : k ≤ 4
  · exact r5below_s k b ⟨hk.1, h⟩ h0 h1 w
  · exact r5below_u k b ⟨by omega, hk.2⟩ w
theorem r5cmp_any (k a b : Int) (hk : 1 ≤ k ∧ k ≤ 8) (ha0 : 0 ≤ a) (ha : a ≤ maxOf (wbits k)) (hb0 : 0 ≤ b) (hb : b ≤ maxOf (wbits k)) (w : World) : Calls Tryz.prog 107 #[.int .i64 k, .int .u64 a, .int .u64 b] w fun e w' => e = .returned (.tuple #[.int .i64 (cmpS (keyW k a) (keyW k b)), .int .i64 0]) ∧ Below w.heap.size w w' := by
  have h64 : maxOf (wbits k) ≤ 18446744073709551615 := by unfold maxOf; (repeat' split) <;> omega
  have HWD := Aside.mk (fun W => r5width_any k W)
  have hw0 : (wbits k == 0) = false := by rcases whole_kinds hk with rfl | rfl | rfl | rfl | rfl | rfl | rfl | rfl <;> decide
  have HFA := Aside.mk (fun W => r5fits_yes k a ha0 (by omega) W hk)
  have HFB := Aside.mk (fun W => r5fits_yes k b hb0 (by omega) W hk)
  rw [show decide (a ≤ maxOf (wbits k)) = true by simpa using ha] at HFA
  rw [show decide (b ≤ maxOf (wbits k)) = true by simpa using hb] at HFB
  have HA := Aside.mk (fun W => r5below_any k a hk ha0 ha W)
  have HB := Aside.mk (fun W => r5below_any k b hk hb0 hb W)
  have HP := Aside.mk (And.intro (magW_pos ha0 ha) (magW_pos hb0 hb))
  rw [keyW_sgn, keyW_sgn]
  clear ha hb ha0 hb0 h64 hk
  generalize isNeg k a = na at *
  generalize isNeg k b = nb at *
  generalize magW k a = x at *
  generalize magW k b = y at *
  generalize wbits k = wb at *
  cases na <;> cases nb
  · rw [cmp_pp]
    rcases (by omega : x < y ∨ y < x ∨ x = y) with h | h | rfl
    · rw [cmpS_lt h]
      go_enter Tryz.func107, Tryz.ntmps107
      go_wp2_with (first | (go_at_call 148; refine (HWD.out _).mono ?_; rintro e w1 ⟨rfl, rfl⟩) | (go_at_call 146; first | (refine (HFA.out _).mono ?_; rintro e w2 ⟨rfl, hb2⟩; clear HFA; have B2 := Aside.mk hb2; clear hb2) | (refine (HFB.out _).mono ?_; rintro e w3 ⟨rfl, hb3⟩; have B3 := Aside.mk (below_chain B2.out hb3); clear hb3)) | (go_at_call 165; first | (refine (HA.out _).mono ?_; rintro e w4 ⟨rfl, hb4⟩; clear HA; have B4 := Aside.mk (below_chain B3.out hb4); clear hb4) | (refine (HB.out _).mono ?_; rintro e w5 ⟨rfl, hb5⟩; have B5 := Aside.mk (below_chain B4.out hb5); clear hb5)))
      go_ret2
      exact ⟨rfl, B5.out⟩
    · rw [cmpS_gt h]
      have h1 : decide (x < y) = false := by simp; omega
      go_enter Tryz.func107, Tryz.ntmps107
      go_wp2_with (first | (go_at_call 148; refine (HWD.out _).mono ?_; rintro e w1 ⟨rfl, rfl⟩) | (go_at_call 146; first | (refine (HFA.out _).mono ?_; rintro e w2 ⟨rfl, hb2⟩; clear HFA; have B2 := Aside.mk hb2; clear hb2) | (refine (HFB.out _).mono ?_; rintro e w3 ⟨rfl, hb3⟩; have B3 := Aside.mk (below_chain B2.out hb3); clear hb3)) | (go_at_call 165; first | (refine (HA.out _).mono ?_; rintro e w4 ⟨rfl, hb4⟩; clear HA; have B4 := Aside.mk (below_chain B3.out hb4); clear hb4) | (refine (HB.out _).mono ?_; rintro e w5 ⟨rfl, hb5⟩; have B5 := Aside.mk (below_chain B4.out hb5); clear hb5)))
      go_ret2
      exact ⟨rfl, B5.out⟩
    · rw [cmpS_eq rfl]
      go_enter Tryz.func107, Tryz.ntmps107
      go_wp2_with (first | (go_at_call 148; refine (HWD.out _).mono ?_; rintro e w1 ⟨rfl, rfl⟩) | (go_at_call 146; first | (refine (HFA.out _).mono ?_; rintro e w2 ⟨rfl, hb2⟩; clear HFA; have B2 := Aside.mk hb2; clear hb2) | (refine (HFB.out _).mono ?_; rintro e w3 ⟨rfl, hb3⟩; have B3 := Aside.mk (below_chain B2.out hb3); clear hb3)) | (go_at_call 165; first | (refine (HA.out _).mono ?_; rintro e w4 ⟨rfl, hb4⟩; clear HA; have B4 := Aside.mk (below_chain B3.out hb4); clear hb4) | (refine (HB.out _).mono ?_; rintro e w5 ⟨rfl, hb5⟩; have B5 := Aside.mk (below_chain B4.out hb5); clear hb5)))
      go_ret2
      exact ⟨rfl, B5.out⟩
  · rw [cmp_pn HP.out.1.1 (HP.out.2.2 rfl)]
    go_enter Tryz.func107, Tryz.ntmps107
    go_wp2_with (first | (go_at_call 148; refine (HWD.out _).mono ?_; rintro e w1 ⟨rfl, rfl⟩) | (go_at_call 146; first | (refine (HFA.out _).mono ?_; rintro e w2 ⟨rfl, hb2⟩; clear HFA; have B2 := Aside.mk hb2; clear hb2) | (refine (HFB.out _).mono ?_; rintro e w3 ⟨rfl, hb3⟩; have B3 := Aside.mk (below_chain B2.out hb3); clear hb3)) | (go_at_call 165; first | (refine (HA.out _).mono ?_; rintro e w4 ⟨rfl, hb4⟩; clear HA; have B4 := Aside.mk (below_chain B3.out hb4); clear hb4) | (refine (HB.out _).mono ?_; rintro e w5 ⟨rfl, hb5⟩; have B5 := Aside.mk (below_chain B4.out hb5); clear hb5)))
    go_ret2
    exact ⟨rfl, B5.out⟩
  · rw [cmp_np (HP.out.1.2 rfl) HP.out.2.1]
    go_enter Tryz.func107, Tryz.ntmps107
    go_wp2_with (first | (go_at_call 148; refine (HWD.out _).mono ?_; rintro e w1 ⟨rfl, rfl⟩) | (go_at_call 146; first | (refine (HFA.out _).mono ?_; rintro e w2 ⟨rfl, hb2⟩; clear HFA; have B2 := Aside.mk hb2; clear hb2) | (refine (HFB.out _).mono ?_; rintro e w3 ⟨rfl, hb3⟩; have B3 := Aside.mk (below_chain B2.out hb3); clear hb3)) | (go_at_call 165; first | (refine (HA.out _).mono ?_; rintro e w4 ⟨rfl, hb4⟩; clear HA; have B4 := Aside.mk (below_chain B3.out hb4); clear hb4) | (refine (HB.out _).mono ?_; rintro e w5 ⟨rfl, hb5⟩; have B5 := Aside.mk (below_chain B4.out hb5); clear hb5)))
    go_ret2
    exact ⟨rfl, B5.out⟩
  · rw [cmp_nn]
    rcases (by omega : x < y ∨ y < x ∨ x = y) with h | h | rfl
    · rw [cmpS_gt h]
      have h1 : decide (y < x) = false := by simp; omega
      go_enter Tryz.func107, Tryz.ntmps107
      go_wp2_with (first | (go_at_call 148; refine (HWD.out _).mono ?_; rintro e w1 ⟨rfl, rfl⟩) | (go_at_call 146; first | (refine (HFA.out _).mono ?_; rintro e w2 ⟨rfl, hb2⟩; clear HFA; have B2 := Aside.mk hb2; clear hb2) | (refine (HFB.out _).mono ?_; rintro e w3 ⟨rfl, hb3⟩; have B3 := Aside.mk (below_chain B2.out hb3); clear hb3)) | (go_at_call 165; first | (refine (HA.out _).mono ?_; rintro e w4 ⟨rfl, hb4⟩; clear HA; have B4 := Aside.mk (below_chain B3.out hb4); clear hb4) | (refine (HB.out _).mono ?_; rintro e w5 ⟨rfl, hb5⟩; have B5 := Aside.mk (below_chain B4.out hb5); clear hb5)))
      go_ret2
      exact ⟨rfl, B5.out⟩
    · rw [cmpS_lt h]
      go_enter Tryz.func107, Tryz.ntmps107
      go_wp2_with (first | (go_at_call 148; refine (HWD.out _).mono ?_; rintro e w1 ⟨rfl, rfl⟩) | (go_at_call 146; first | (refine (HFA.out _).mono ?_; rintro e w2 ⟨rfl, hb2⟩; clear HFA; have B2 := Aside.mk hb2; clear hb2) | (refine (HFB.out _).mono ?_; rintro e w3 ⟨rfl, hb3⟩; have B3 := Aside.mk (below_chain B2.out hb3); clear hb3)) | (go_at_call 165; first | (refine (HA.out _).mono ?_; rintro e w4 ⟨rfl, hb4⟩; clear HA; have B4 := Aside.mk (below_chain B3.out hb4); clear hb4) | (refine (HB.out _).mono ?_; rintro e w5 ⟨rfl, hb5⟩; have B5 := Aside.mk (below_chain B4.out hb5); clear hb5)))
      go_ret2
      exact ⟨rfl, B5.out⟩
    · rw [cmpS_eq rfl]
      go_enter Tryz.func107, Tryz.ntmps107
      go_wp2_with (first | (go_at_call 148; refine (HWD.out _).mono ?_; rintro e w1 ⟨rfl, rfl⟩) | (go_at_call 146; first | (refine (HFA.out _).mono ?_; rintro e w2 ⟨rfl, hb2⟩; clear HFA; have B2 := Aside.mk hb2; clear hb2) | (refine (HFB.out _).mono ?_; rintro e w3 ⟨rfl, hb3⟩; have B3 := Aside.mk (below_chain B2.out hb3); clear hb3)) | (go_at_call 165; first | (refine (HA.out _).mono ?_; rintro e w4 ⟨rfl, hb4⟩; clear HA; have B4 := Aside.mk (below_chain B3.out hb4); clear hb4) | (refine (HB.out _).mono ?_; rintro e w5 ⟨rfl, hb5⟩; have B5 := Aside.mk (below_chain B4.out hb5); clear hb5)))
      go_ret2
      exact ⟨rfl, B5.out⟩
end Go.Proofs.YtmhjjhaipcgbiaaGreat


namespace Go.Proofs.YtmhjjhaipcgbiaaGreat
open Go.RowKit
set_option linter.unusedVariables false
set_option linter.unusedSimpArgs false
set_option maxRecDepth 100000
set_option maxHeartbeats 4000000
def negD (b : Int) : Bool := decide (999999999999999999 < b)
def magD (b : Int) : Int := if negD b then (-b) % 18446744073709551616 else b
theorem keyD_sgn {b : Int} (h0 : 0 ≤ b) (h1 : b ≤ 18446744073709551615) (h : decOK b = true) : wrap64 b = sgn (negD b) (magD b) ∧ 0 ≤ magD b ∧ (negD b = true → 0 < magD b) := by
  have h : -999999999999999999 ≤ wrap64 b ∧ wrap64 b ≤ 999999999999999999 := by unfold decOK asInt at h; simpa using h
  unfold sgn magD negD
  unfold wrap64 at h ⊢
  by_cases hb : 999999999999999999 < b
  · simp only [hb, decide_true, if_true]
    exact ⟨by omega, by omega, fun _ => by omega⟩
  · simp only [hb, decide_false, Bool.false_eq_true, if_false]
    exact ⟨by omega, by omega, fun e => by cases e⟩
theorem r12fits_ok (b : Int) (h0 : 0 ≤ b) (h1 : b ≤ 18446744073709551615) (h : decOK b = true) (w : World) : Calls Tryz.prog 143 #[.int .u64 b] w fun e w' => e = .returned (.tuple #[.bool true, .bool (negD b), .int .u64 (magD b)]) ∧ w = w' := by
  have hw : IntKind.u64.wrap (-b) = (-b) % 18446744073709551616 := IntKind.wrap_u64 _
  have hd : -999999999999999999 ≤ wrap64 b ∧ wrap64 b ≤ 999999999999999999 := by unfold decOK asInt at h; simpa using h
  unfold wrap64 at hd
  by_cases hs : b ≤ 999999999999999999
  · have e1 : negD b = false := by unfold negD; simp; omega
    have e2 : magD b = b := by unfold magD; rw [e1]; simp
    rw [e1, e2]
    clear hw hd e1 e2 h
    go_enter Tryz.func143, Tryz.ntmps143
    go_wp2
    go_ret3
    exact ⟨rfl, rfl⟩
  · have e1 : negD b = true := by unfold negD; simp; omega
    have e2 : magD b = (-b) % 18446744073709551616 := by unfold magD; rw [e1]; simp
    have h3 : decide ((-b) % 18446744073709551616 ≤ 999999999999999999) = true := by simp; omega
    have h4 : decide (b ≤ 999999999999999999) = false := by simp; omega
    rw [e1, e2]
    clear hd e1 e2 h hs
    go_enter Tryz.func143, Tryz.ntmps143
    go_wp2
    go_ret3
    exact ⟨rfl, rfl⟩
theorem r12cmp_any (a b : Int) (ha0 : 0 ≤ a) (ha : a ≤ 18446744073709551615) (hda : decOK a = true) (hb0 : 0 ≤ b) (hb : b ≤ 18446744073709551615) (hdb : decOK b = true) (w : World) : Calls Tryz.prog 106 #[.int .u64 a, .int .u64 b] w fun e w' => e = .returned (.tuple #[.int .i64 (cmpS (wrap64 a) (wrap64 b)), .int .i64 0]) ∧ w = w' := by
  have HA := Aside.mk (fun W => r12fits_ok a ha0 ha hda W)
  have HB := Aside.mk (fun W => r12fits_ok b hb0 hb hdb W)
  have HP := Aside.mk (And.intro (keyD_sgn ha0 ha hda).2 (keyD_sgn hb0 hb hdb).2)
  rw [(keyD_sgn ha0 ha hda).1, (keyD_sgn hb0 hb hdb).1]
  clear ha hb ha0 hb0 hda hdb
  generalize negD a = na at *
  generalize negD b = nb at *
  generalize magD a = x at *
  generalize magD b = y at *
  cases na <;> cases nb
  · rw [cmp_pp]
    rcases (by omega : x < y ∨ y < x ∨ x = y) with h | h | rfl
    · rw [cmpS_lt h]
      go_enter Tryz.func106, Tryz.ntmps106
      go_wp2_with (go_at_call 143; first | (refine (HA.out _).mono ?_; rintro e w1 ⟨rfl, rfl⟩; clear HA) | (refine (HB.out _).mono ?_; rintro e w1 ⟨rfl, rfl⟩))
      go_ret2
      exact ⟨rfl, rfl⟩
    · rw [cmpS_gt h]
      have h1 : decide (x < y) = false := by simp; omega
      go_enter Tryz.func106, Tryz.ntmps106
      go_wp2_with (go_at_call 143; first | (refine (HA.out _).mono ?_; rintro e w1 ⟨rfl, rfl⟩; clear HA) | (refine (HB.out _).mono ?_; rintro e w1 ⟨rfl, rfl⟩))
      go_ret2
      exact ⟨rfl, rfl⟩
    · rw [cmpS_eq rfl]
      go_enter Tryz.func106, Tryz.ntmps106
      go_wp2_with (go_at_call 143; first | (refine (HA.out _).mono ?_; rintro e w1 ⟨rfl, rfl⟩; clear HA) | (refine (HB.out _).mono ?_; rintro e w1 ⟨rfl, rfl⟩))
      go_ret2
      exact ⟨rfl, rfl⟩
  · rw [cmp_pn HP.out.1.1 (HP.out.2.2 rfl)]
    go_enter Tryz.func106, Tryz.ntmps106
    go_wp2_with (go_at_call 143; first | (refine (HA.out _).mono ?_; rintro e w1 ⟨rfl, rfl⟩; clear HA) | (refine (HB.out _).mono ?_; rintro e w1 ⟨rfl, rfl⟩))
    go_ret2
    exact ⟨rfl, rfl⟩
  · rw [cmp_np (HP.out.1.2 rfl) HP.out.2.1]
    go_enter Tryz.func106, Tryz.ntmps106
    go_wp2_with (go_at_call 143; first | (refine (HA.out _).mono ?_; rintro e w1 ⟨rfl, rfl⟩; clear HA) | (refine (HB.out _).mono ?_; rintro e w1 ⟨rfl, rfl⟩))
    go_ret2
    exact ⟨rfl, rfl⟩
  · rw [cmp_nn]
    rcases (by omega : x < y ∨ y < x ∨ x = y) with h | h | rfl
    · rw [cmpS_gt h]
      have h1 : decide (y < x) = false := by simp; omega
      go_enter Tryz.func106, Tryz.ntmps106
      go_wp2_with (go_at_call 143; first | (refine (HA.out _).mono ?_; rintro e w1 ⟨rfl, rfl⟩; clear HA) | (refine (HB.out _).mono ?_; rintro e w1 ⟨rfl, rfl⟩))
      go_ret2
      exact ⟨rfl, rfl⟩
    · rw [cmpS_lt h]
      go_enter Tryz.func106, Tryz.ntmps106
      go_wp2_with (go_at_call 143; first | (refine (HA.out _).mono ?_; rintro e w1 ⟨rfl, rfl⟩; clear HA) | (refine (HB.out _).mono ?_; rintro e w1 ⟨rfl, rfl⟩))
      go_ret2
      exact ⟨rfl, rfl⟩
    · rw [cmpS_eq rfl]
      go_enter Tryz.func106, Tryz.ntmps106
      go_wp2_with (go_at_call 143; first | (refine (HA.out _).mono ?_; rintro e w1 ⟨rfl, rfl⟩; clear HA) | (refine (HB.out _).mono ?_; rintro e w1 ⟨rfl, rfl⟩))
      go_ret2
      exact ⟨rfl, rfl⟩
theorem keyF_sgn32 {b : Int} (h0 : 0 ≤ b) (h1 : b < 4294967296) : keyF 2147483648 b = sgn (decide (2147483648 < b)) (b % 2147483648) ∧ 0 ≤ b % 2147483648 ∧ (decide (2147483648 < b) = true → 0 < b % 2147483648) := by
  unfold sgn keyF
  by_cases hb : 2147483648 < b
  · simp only [hb, decide_true, if_true]
    rw [if_neg (by omega)]
    exact ⟨rfl, by omega, fun _ => by omega⟩
  · simp only [hb, decide_false, Bool.false_eq_true, if_false]
    refine ⟨?_, by omega, fun e => by cases e⟩
    split <;> omega
theorem r3rank_32 (b : Int) (h0 : 0 ≤ b) (w : World) : Calls Tryz.prog 164 #[.int .i64 9, .int .u64 b] w fun e w' => e = .returned (.tuple #[.bool (decide (2147483648 < b)), .int .u64 (b % 2147483648)]) ∧ Below w.heap.size w w' := by
  have htm : b.tmod 2147483648 = b % 2147483648 := Int.tmod_eq_emod_of_nonneg h0
  go_enter Tryz.func164, Tryz.ntmps164
  go_wp2
  go_region_with (go_at_call 188; refine (r3sign_32 _).mono ?_; rintro e w1 ⟨rfl, rfl⟩)
  all_goals
    go_wp2
    go_ret2
    exact ⟨rfl, below_drewN _ _ _⟩
theorem r3cmp_32 (a b : Int) (ha0 : 0 ≤ a) (ha : a < 4294967296) (hna : nan32 a = false) (hb0 : 0 ≤ b) (hb : b < 4294967296) (hnb : nan32 b = false) (w : World) : Calls Tryz.prog 105 #[.int .i64 9, .int .u64 a, .int .u64 b] w fun e w' => e = .returned (.tuple #[.int .i64 (cmpS (keyF 2147483648 a) (keyF 2147483648 b)), .int .i64 0]) ∧ Below w.heap.size w w' := by
  have HCA := Aside.mk (fun W => r3check_32 a ha W)
  have HCB := Aside.mk (fun W => r3check_32 b hb W)
  have HLA := Aside.mk (fun W => r3c_32 a ha0 ha W)
  have HLB := Aside.mk (fun W => r3c_32 b hb0 hb W)
  rw [hna] at HLA
  rw [hnb] at HLB
  have HA := Aside.mk (fun W => r3rank_32 a ha0 W)
  have HB := Aside.mk (fun W => r3rank_32 b hb0 W)
  have HP := Aside.mk (And.intro (keyF_sgn32 ha0 ha).2 (keyF_sgn32 hb0 hb).2)
  rw [(keyF_sgn32 ha0 ha).1, (keyF_sgn32 hb0 hb).1]
  clear ha hb ha0 hb0 hna hnb
  generalize decide (2147483648 < a) = na at *
  generalize decide (2147483648 < b) = nb at *
  generalize a % 2147483648 = x at *
  generalize b % 2147483648 = y at *
  cases na <;> cases nb
  · rw [cmp_pp]
    rcases (by omega : x < y ∨ y < x ∨ x = y) with h | h | rfl
    · rw [cmpS_lt h]
      go_enter Tryz.func105, Tryz.ntmps105
      go_wp2_with (first | (go_at_call 161; first | (refine (HCA.out _).mono ?_; rintro e w1 ⟨rfl, rfl⟩; clear HCA) | (refine (HCB.out _).mono ?_; rintro e w1 ⟨rfl, rfl⟩)) | (go_at_call 104; first | (refine (HLA.out _).mono ?_; rintro e w2 ⟨ca, rfl, hca, hb2⟩; clear HLA; have B2 := Aside.mk hb2; clear hb2) | (refine (HLB.out _).mono ?_; rintro e w3 ⟨cb, rfl, hcb, hb3⟩; have B3 := Aside.mk (below_chain B2.out hb3); clear hb3)) | (go_at_call 164; first | (refine (HA.out _).mono ?_; rintro e w4 ⟨rfl, hb4⟩; clear HA; have B4 := Aside.mk (below_chain B3.out hb4); clear hb4) | (refine (HB.out _).mono ?_; rintro e w5 ⟨rfl, hb5⟩; have B5 := Aside.mk (below_chain B4.out hb5); clear hb5)))
      go_ret2
      exact ⟨rfl, B5.out⟩
    · rw [cmpS_gt h]
      have h1 : decide (x < y) = false := by simp; omega
      go_enter Tryz.func105, Tryz.ntmps105
      go_wp2_with (first | (go_at_call 161; first | (refine (HCA.out _).mono ?_; rintro e w1 ⟨rfl, rfl⟩; clear HCA) | (refine (HCB.out _).mono ?_; rintro e w1 ⟨rfl, rfl⟩)) | (go_at_call 104; first | (refine (HLA.out _).mono ?_; rintro e w2 ⟨ca, rfl, hca, hb2⟩; clear HLA; have B2 := Aside.mk hb2; clear hb2) | (refine (HLB.out _).mono ?_; rintro e w3 ⟨cb, rfl, hcb, hb3⟩; have B3 := Aside.mk (below_chain B2.out hb3); clear hb3)) | (go_at_call 164; first | (refine (HA.out _).mono ?_; rintro e w4 ⟨rfl, hb4⟩; clear HA; have B4 := Aside.mk (below_chain B3.out hb4); clear hb4) | (refine (HB.out _).mono ?_; rintro e w5 ⟨rfl, hb5⟩; have B5 := Aside.mk (below_chain B4.out hb5); clear hb5)))
      go_ret2
      exact ⟨rfl, B5.out⟩
    · rw [cmpS_eq rfl]
      go_enter Tryz.func105, Tryz.ntmps105
      go_wp2_with (first | (go_at_call 161; first | (refine (HCA.out _).mono ?_; rintro e w1 ⟨rfl, rfl⟩; clear HCA) | (refine (HCB.out _).mono ?_; rintro e w1 ⟨rfl, rfl⟩)) | (go_at_call 104; first | (refine (HLA.out _).mono ?_; rintro e w2 ⟨ca, rfl, hca, hb2⟩; clear HLA; have B2 := Aside.mk hb2; clear hb2) | (refine (HLB.out _).mono ?_; rintro e w3 ⟨cb, rfl, hcb, hb3⟩; have B3 := Aside.mk (below_chain B2.out hb3); clear hb3)) | (go_at_call 164; first | (refine (HA.out _).mono ?_; rintro e w4 ⟨rfl, hb4⟩; clear HA; have B4 := Aside.mk (below_chain B3.out hb4); clear hb4) | (refine (HB.out _).mono ?_; rintro e w5 ⟨rfl, hb5⟩; have B5 := Aside.mk (below_chain B4.out hb5); clear hb5)))
      go_ret2
      exact ⟨rfl, B5.out⟩
  · rw [cmp_pn HP.out.1.1 (HP.out.2.2 rfl)]
    go_enter Tryz.func105, Tryz.ntmps105
    go_wp2_with (first | (go_at_call 161; first | (refine (HCA.out _).mono ?_; rintro e w1 ⟨rfl, rfl⟩; clear HCA) | (refine (HCB.out _).mono ?_; rintro e w1 ⟨rfl, rfl⟩)) | (go_at_call 104; first | (refine (HLA.out _).mono ?_; rintro e w2 ⟨ca, rfl, hca, hb2⟩; clear HLA; have B2 := Aside.mk hb2; clear hb2) | (refine (HLB.out _).mono ?_; rintro e w3 ⟨cb, rfl, hcb, hb3⟩; have B3 := Aside.mk (below_chain B2.out hb3); clear hb3)) | (go_at_call 164; first | (refine (HA.out _).mono ?_; rintro e w4 ⟨rfl, hb4⟩; clear HA; have B4 := Aside.mk (below_chain B3.out hb4); clear hb4) | (refine (HB.out _).mono ?_; rintro e w5 ⟨rfl, hb5⟩; have B5 := Aside.mk (below_chain B4.out hb5); clear hb5)))
    go_ret2
    exact ⟨rfl, B5.out⟩
  · rw [cmp_np (HP.out.1.2 rfl) HP.out.2.1]
    go_enter Tryz.func105, Tryz.ntmps105
    go_wp2_with (first | (go_at_call 161; first | (refine (HCA.out _).mono ?_; rintro e w1 ⟨rfl, rfl⟩; clear HCA) | (refine (HCB.out _).mono ?_; rintro e w1 ⟨rfl, rfl⟩)) | (go_at_call 104; first | (refine (HLA.out _).mono ?_; rintro e w2 ⟨ca, rfl, hca, hb2⟩; clear HLA; have B2 := Aside.mk hb2; clear hb2) | (refine (HLB.out _).mono ?_; rintro e w3 ⟨cb, rfl, hcb, hb3⟩; have B3 := Aside.mk (below_chain B2.out hb3); clear hb3)) | (go_at_call 164; first | (refine (HA.out _).mono ?_; rintro e w4 ⟨rfl, hb4⟩; clear HA; have B4 := Aside.mk (below_chain B3.out hb4); clear hb4) | (refine (HB.out _).mono ?_; rintro e w5 ⟨rfl, hb5⟩; have B5 := Aside.mk (below_chain B4.out hb5); clear hb5)))
    go_ret2
    exact ⟨rfl, B5.out⟩
  · rw [cmp_nn]
    rcases (by omega : x < y ∨ y < x ∨ x = y) with h | h | rfl
    · rw [cmpS_gt h]
      have h1 : decide (y < x) = false := by simp; omega
      go_enter Tryz.func105, Tryz.ntmps105
      go_wp2_with (first | (go_at_call 161; first | (refine (HCA.out _).mono ?_; rintro e w1 ⟨rfl, rfl⟩; clear HCA) | (refine (HCB.out _).mono ?_; rintro e w1 ⟨rfl, rfl⟩)) | (go_at_call 104; first | (refine (HLA.out _).mono ?_; rintro e w2 ⟨ca, rfl, hca, hb2⟩; clear HLA; have B2 := Aside.mk hb2; clear hb2) | (refine (HLB.out _).mono ?_; rintro e w3 ⟨cb, rfl, hcb, hb3⟩; have B3 := Aside.mk (below_chain B2.out hb3); clear hb3)) | (go_at_call 164; first | (refine (HA.out _).mono ?_; rintro e w4 ⟨rfl, hb4⟩; clear HA; have B4 := Aside.mk (below_chain B3.out hb4); clear hb4) | (refine (HB.out _).mono ?_; rintro e w5 ⟨rfl, hb5⟩; have B5 := Aside.mk (below_chain B4.out hb5); clear hb5)))
      go_ret2
      exact ⟨rfl, B5.out⟩
    · rw [cmpS_lt h]
      go_enter Tryz.func105, Tryz.ntmps105
      go_wp2_with (first | (go_at_call 161; first | (refine (HCA.out _).mono ?_; rintro e w1 ⟨rfl, rfl⟩; clear HCA) | (refine (HCB.out _).mono ?_; rintro e w1 ⟨rfl, rfl⟩)) | (go_at_call 104; first | (refine (HLA.out _).mono ?_; rintro e w2 ⟨ca, rfl, hca, hb2⟩; clear HLA; have B2 := Aside.mk hb2; clear hb2) | (refine (HLB.out _).mono ?_; rintro e w3 ⟨cb, rfl, hcb, hb3⟩; have B3 := Aside.mk (below_chain B2.out hb3); clear hb3)) | (go_at_call 164; first | (refine (HA.out _).mono ?_; rintro e w4 ⟨rfl, hb4⟩; clear HA; have B4 := Aside.mk (below_chain B3.out hb4); clear hb4) | (refine (HB.out _).mono ?_; rintro e w5 ⟨rfl, hb5⟩; have B5 := Aside.mk (below_chain B4.out hb5); clear hb5)))
      go_ret2
      exact ⟨rfl, B5.out⟩
    · rw [cmpS_eq rfl]
      go_enter Tryz.func105, Tryz.ntmps105
      go_wp2_with (first | (go_at_call 161; first | (refine (HCA.out _).mono ?_; rintro e w1 ⟨rfl, rfl⟩; clear HCA) | (refine (HCB.out _).mono ?_; rintro e w1 ⟨rfl, rfl⟩)) | (go_at_call 104; first | (refine (HLA.out _).mono ?_; rintro e w2 ⟨ca, rfl, hca, hb2⟩; clear HLA; have B2 := Aside.mk hb2; clear hb2) | (refine (HLB.out _).mono ?_; rintro e w3 ⟨cb, rfl, hcb, hb3⟩; have B3 := Aside.mk (below_chain B2.out hb3); clear hb3)) | (go_at_call 164; first | (refine (HA.out _).mono ?_; rintro e w4 ⟨rfl, hb4⟩; clear HA; have B4 := Aside.mk (below_chain B3.out hb4); clear hb4) | (refine (HB.out _).mono ?_; rintro e w5 ⟨rfl, hb5⟩; have B5 := Aside.mk (below_chain B4.out hb5); clear hb5)))
      go_ret2
      exact ⟨rfl, B5.out⟩
theorem keyF_sgn64 {b : Int} (h0 : 0 ≤ b) (h1 : b ≤ 18446744073709551615) : keyF 9223372036854775808 b = sgn (decide (9223372036854775808 < b)) (b % 9223372036854775808) ∧ 0 ≤ b % 9223372036854775808 ∧ (decide (9223372036854775808 < b) = true → 0 < b % 9223372036854775808) := by
  unfold sgn keyF
  by_cases hb : 9223372036854775808 < b
  · simp only [hb, decide_true, if_true]
    rw [if_neg (by omega)]
    exact ⟨rfl, by omega, fun _ => by omega⟩
  · simp only [hb, decide_false, Bool.false_eq_true, if_false]
    refine ⟨?_, by omega, fun e => by cases e⟩
    split <;> omega
theorem r3rank_64 (b : Int) (h0 : 0 ≤ b) (w : World) : Calls Tryz.prog 164 #[.int .i64 10, .int .u64 b] w fun e w' => e = .returned (.tuple #[.bool (decide (9223372036854775808 < b)), .int .u64 (b % 9223372036854775808)]) ∧ Below w.heap.size w w' := by
  have htm : b.tmod 9223372036854775808 = b % 9223372036854775808 := Int.tmod_eq_emod_of_nonneg h0
  go_enter Tryz.func164, Tryz.ntmps164
  go_wp2
  go_region_with (go_at_call 188; refine (r3sign_64 _).mono ?_; rintro e w1 ⟨rfl, rfl⟩)
  all_goals
    go_wp2
    go_ret2
    exact ⟨rfl, below_drewN _ _ _⟩
theorem r3cmp_64 (a b : Int) (ha0 : 0 ≤ a) (ha : a ≤ 18446744073709551615) (hna : nan64 a = false) (hb0 : 0 ≤ b) (hb : b ≤ 18446744073709551615) (hnb : nan64 b = false) (w : World) : Calls Tryz.prog 105 #[.int .i64 10, .int .u64 a, .int .u64 b] w fun e w' => e = .returned (.tuple #[.int .i64 (cmpS (keyF 9223372036854775808 a) (keyF 9223372036854775808 b)), .int .i64 0]) ∧ Below w.heap.size w w' := by
  have HCA := Aside.mk (fun W => r3check_64 a  W)
  have HCB := Aside.mk (fun W => r3check_64 b  W)
  have HLA := Aside.mk (fun W => r3c_64 a ha0 ha W)
  have HLB := Aside.mk (fun W => r3c_64 b hb0 hb W)
  rw [hna] at HLA
  rw [hnb] at HLB
  have HA := Aside.mk (fun W => r3rank_64 a ha0 W)
  have HB := Aside.mk (fun W => r3rank_64 b hb0 W)
  have HP := Aside.mk (And.intro (keyF_sgn64 ha0 ha).2 (keyF_sgn64 hb0 hb).2)
  rw [(keyF_sgn64 ha0 ha).1, (keyF_sgn64 hb0 hb).1]
  clear ha hb ha0 hb0 hna hnb
  generalize decide (9223372036854775808 < a) = na at *
  generalize decide (9223372036854775808 < b) = nb at *
  generalize a % 9223372036854775808 = x at *
  generalize b % 9223372036854775808 = y at *
  cases na <;> cases nb
  · rw [cmp_pp]
    rcases (by omega : x < y ∨ y < x ∨ x = y) with h | h | rfl
    · rw [cmpS_lt h]
      go_enter Tryz.func105, Tryz.ntmps105
      go_wp2_with (first | (go_at_call 161; first | (refine (HCA.out _).mono ?_; rintro e w1 ⟨rfl, rfl⟩; clear HCA) | (refine (HCB.out _).mono ?_; rintro e w1 ⟨rfl, rfl⟩)) | (go_at_call 104; first | (refine (HLA.out _).mono ?_; rintro e w2 ⟨ca, rfl, hca, hb2⟩; clear HLA; have B2 := Aside.mk hb2; clear hb2) | (refine (HLB.out _).mono ?_; rintro e w3 ⟨cb, rfl, hcb, hb3⟩; have B3 := Aside.mk (below_chain B2.out hb3); clear hb3)) | (go_at_call 164; first | (refine (HA.out _).mono ?_; rintro e w4 ⟨rfl, hb4⟩; clear HA; have B4 := Aside.mk (below_chain B3.out hb4); clear hb4) | (refine (HB.out _).mono ?_; rintro e w5 ⟨rfl, hb5⟩; have B5 := Aside.mk (below_chain B4.out hb5); clear hb5)))
      go_ret2
      exact ⟨rfl, B5.out⟩
    · rw [cmpS_gt h]
      have h1 : decide (x < y) = false := by simp; omega
      go_enter Tryz.func105, Tryz.ntmps105
      go_wp2_with (first | (go_at_call 161; first | (refine (HCA.out _).mono ?_; rintro e w1 ⟨rfl, rfl⟩; clear HCA) | (refine (HCB.out _).mono ?_; rintro e w1 ⟨rfl, rfl⟩)) | (go_at_call 104; first | (refine (HLA.out _).mono ?_; rintro e w2 ⟨ca, rfl, hca, hb2⟩; clear HLA; have B2 := Aside.mk hb2; clear hb2) | (refine (HLB.out _).mono ?_; rintro e w3 ⟨cb, rfl, hcb, hb3⟩; have B3 := Aside.mk (below_chain B2.out hb3); clear hb3)) | (go_at_call 164; first | (refine (HA.out _).mono ?_; rintro e w4 ⟨rfl, hb4⟩; clear HA; have B4 := Aside.mk (below_chain B3.out hb4); clear hb4) | (refine (HB.out _).mono ?_; rintro e w5 ⟨rfl, hb5⟩; have B5 := Aside.mk (below_chain B4.out hb5); clear hb5)))
      go_ret2
      exact ⟨rfl, B5.out⟩
    · rw [cmpS_eq rfl]
      go_enter Tryz.func105, Tryz.ntmps105
      go_wp2_with (first | (go_at_call 161; first | (refine (HCA.out _).mono ?_; rintro e w1 ⟨rfl, rfl⟩; clear HCA) | (refine (HCB.out _).mono ?_; rintro e w1 ⟨rfl, rfl⟩)) | (go_at_call 104; first | (refine (HLA.out _).mono ?_; rintro e w2 ⟨ca, rfl, hca, hb2⟩; clear HLA; have B2 := Aside.mk hb2; clear hb2) | (refine (HLB.out _).mono ?_; rintro e w3 ⟨cb, rfl, hcb, hb3⟩; have B3 := Aside.mk (below_chain B2.out hb3); clear hb3)) | (go_at_call 164; first | (refine (HA.out _).mono ?_; rintro e w4 ⟨rfl, hb4⟩; clear HA; have B4 := Aside.mk (below_chain B3.out hb4); clear hb4) | (refine (HB.out _).mono ?_; rintro e w5 ⟨rfl, hb5⟩; have B5 := Aside.mk (below_chain B4.out hb5); clear hb5)))
      go_ret2
      exact ⟨rfl, B5.out⟩
  · rw [cmp_pn HP.out.1.1 (HP.out.2.2 rfl)]
    go_enter Tryz.func105, Tryz.ntmps105
    go_wp2_with (first | (go_at_call 161; first | (refine (HCA.out _).mono ?_; rintro e w1 ⟨rfl, rfl⟩; clear HCA) | (refine (HCB.out _).mono ?_; rintro e w1 ⟨rfl, rfl⟩)) | (go_at_call 104; first | (refine (HLA.out _).mono ?_; rintro e w2 ⟨ca, rfl, hca, hb2⟩; clear HLA; have B2 := Aside.mk hb2; clear hb2) | (refine (HLB.out _).mono ?_; rintro e w3 ⟨cb, rfl, hcb, hb3⟩; have B3 := Aside.mk (below_chain B2.out hb3); clear hb3)) | (go_at_call 164; first | (refine (HA.out _).mono ?_; rintro e w4 ⟨rfl, hb4⟩; clear HA; have B4 := Aside.mk (below_chain B3.out hb4); clear hb4) | (refine (HB.out _).mono ?_; rintro e w5 ⟨rfl, hb5⟩; have B5 := Aside.mk (below_chain B4.out hb5); clear hb5)))
    go_ret2
    exact ⟨rfl, B5.out⟩
  · rw [cmp_np (HP.out.1.2 rfl) HP.out.2.1]
    go_enter Tryz.func105, Tryz.ntmps105
    go_wp2_with (first | (go_at_call 161; first | (refine (HCA.out _).mono ?_; rintro e w1 ⟨rfl, rfl⟩; clear HCA) | (refine (HCB.out _).mono ?_; rintro e w1 ⟨rfl, rfl⟩)) | (go_at_call 104; first | (refine (HLA.out _).mono ?_; rintro e w2 ⟨ca, rfl, hca, hb2⟩; clear HLA; have B2 := Aside.mk hb2; clear hb2) | (refine (HLB.out _).mono ?_; rintro e w3 ⟨cb, rfl, hcb, hb3⟩; have B3 := Aside.mk (below_chain B2.out hb3); clear hb3)) | (go_at_call 164; first | (refine (HA.out _).mono ?_; rintro e w4 ⟨rfl, hb4⟩; clear HA; have B4 := Aside.mk (below_chain B3.out hb4); clear hb4) | (refine (HB.out _).mono ?_; rintro e w5 ⟨rfl, hb5⟩; have B5 := Aside.mk (below_chain B4.out hb5); clear hb5)))
    go_ret2
    exact ⟨rfl, B5.out⟩
  · rw [cmp_nn]
    rcases (by omega : x < y ∨ y < x ∨ x = y) with h | h | rfl
    · rw [cmpS_gt h]
      have h1 : decide (y < x) = false := by simp; omega
      go_enter Tryz.func105, Tryz.ntmps105
      go_wp2_with (first | (go_at_call 161; first | (refine (HCA.out _).mono ?_; rintro e w1 ⟨rfl, rfl⟩; clear HCA) | (refine (HCB.out _).mono ?_; rintro e w1 ⟨rfl, rfl⟩)) | (go_at_call 104; first | (refine (HLA.out _).mono ?_; rintro e w2 ⟨ca, rfl, hca, hb2⟩; clear HLA; have B2 := Aside.mk hb2; clear hb2) | (refine (HLB.out _).mono ?_; rintro e w3 ⟨cb, rfl, hcb, hb3⟩; have B3 := Aside.mk (below_chain B2.out hb3); clear hb3)) | (go_at_call 164; first | (refine (HA.out _).mono ?_; rintro e w4 ⟨rfl, hb4⟩; clear HA; have B4 := Aside.mk (below_chain B3.out hb4); clear hb4) | (refine (HB.out _).mono ?_; rintro e w5 ⟨rfl, hb5⟩; have B5 := Aside.mk (below_chain B4.out hb5); clear hb5)))
      go_ret2
      exact ⟨rfl, B5.out⟩
    · rw [cmpS_lt h]
      go_enter Tryz.func105, Tryz.ntmps105
      go_wp2_with (first | (go_at_call 161; first | (refine (HCA.out _).mono ?_; rintro e w1 ⟨rfl, rfl⟩; clear HCA) | (refine (HCB.out _).mono ?_; rintro e w1 ⟨rfl, rfl⟩)) | (go_at_call 104; first | (refine (HLA.out _).mono ?_; rintro e w2 ⟨ca, rfl, hca, hb2⟩; clear HLA; have B2 := Aside.mk hb2; clear hb2) | (refine (HLB.out _).mono ?_; rintro e w3 ⟨cb, rfl, hcb, hb3⟩; have B3 := Aside.mk (below_chain B2.out hb3); clear hb3)) | (go_at_call 164; first | (refine (HA.out _).mono ?_; rintro e w4 ⟨rfl, hb4⟩; clear HA; have B4 := Aside.mk (below_chain B3.out hb4); clear hb4) | (refine (HB.out _).mono ?_; rintro e w5 ⟨rfl, hb5⟩; have B5 := Aside.mk (below_chain B4.out hb5); clear hb5)))
      go_ret2
      exact ⟨rfl, B5.out⟩
    · rw [cmpS_eq rfl]
      go_enter Tryz.func105, Tryz.ntmps105
      go_wp2_with (first | (go_at_call 161; first | (refine (HCA.out _).mono ?_; rintro e w1 ⟨rfl, rfl⟩; clear HCA) | (refine (HCB.out _).mono ?_; rintro e w1 ⟨rfl, rfl⟩)) | (go_at_call 104; first | (refine (HLA.out _).mono ?_; rintro e w2 ⟨ca, rfl, hca, hb2⟩; clear HLA; have B2 := Aside.mk hb2; clear hb2) | (refine (HLB.out _).mono ?_; rintro e w3 ⟨cb, rfl, hcb, hb3⟩; have B3 := Aside.mk (below_chain B2.out hb3); clear hb3)) | (go_at_call 164; first | (refine (HA.out _).mono ?_; rintro e w4 ⟨rfl, hb4⟩; clear HA; have B4 := Aside.mk (below_chain B3.out hb4); clear hb4) | (refine (HB.out _).mono ?_; rintro e w5 ⟨rfl, hb5⟩; have B5 := Aside.mk (below_chain B4.out hb5); clear hb5)))
      go_ret2
      exact ⟨rfl, B5.out⟩
end Go.Proofs.YtmhjjhaipcgbiaaGreat


namespace Go.Proofs.YtmhjjhaipcgbiaaGreat
open Go.RowKit
set_option linter.unusedVariables false
set_option linter.unusedSimpArgs false
set_option maxRecDepth 100000
set_option maxHeartbeats 1000000
theorem twin_bytes (xs : List Int) (A : SL) (hl : xs.length ≤ 100000000) (w : World) (h : Rd w 1 (.slice A.a xs.length A.c) xs.length (xs.map (.int .u8))) :
    Calls Tryz.prog 80 #[.slice A.a xs.length A.c] w fun e w' => ∃ a c, e = .returned (.slice a xs.length c) ∧ Own w' w.heap.size 5 1 (.slice a xs.length c) xs.length (xs.map (.int .u8)) ∧ Below w.heap.size w w' := by
  have HS := Aside.mk (h.src (tx := 43) (P := Tryz.prog) Tryz.underlying43 (one_map (fun x : Int => Value.int .u8 x) (fun _ => rfl) xs))
  clear h
  go_enter Tryz.func80, Tryz.ntmps80
  go_wp2_with (at_builtin; refine wpList_app _ rfl _ _ 43 43 rfl w.heap.size 5 (.int .u8 0) 1 1 Tryz.underlying43 u8info rfl _ _ _ rfl (Own.nil w w.heap.size 5 1) _ xs.length (xs.map (.int .u8)) rfl HS.out (by unfold maxLen; omega) (by omega) (Nat.le_refl _) ?_)
  intro v' w5 hown' hgrow _ hat
  obtain ⟨a5, c5, rfl⟩ := hown'.form
  have HO := Aside.mk hown'
  have HB := Aside.mk (below_of_grown hgrow (Nat.le_refl _) (fun k e => by cases e))
  clear hown' hgrow hat
  go_wp2
  go_ret
  refine ⟨a5, c5, ?_, ?_, HB.out⟩
  · simp
  · simpa using HO.out
theorem cut_bytes (xs : List Int) (A : SL) (hl : xs.length ≤ 9223372036854775807) (w : World) (h : Rd w 1 (.slice A.a xs.length A.c) xs.length (xs.map (.int .u8))) :
    Calls Tryz.prog 20 #[.slice A.a xs.length A.c, .int .i64 40] w fun e w' => ∃ a c, e = .returned (.slice a (xs.take 40).length c) ∧ Rd w 1 (.slice a (xs.take 40).length c) (xs.take 40).length ((xs.take 40).map (.int .u8)) ∧ w = w' := by
  by_cases h40 : 40 < xs.length
  · obtain ⟨g, off, cap, e, h1, h2, hc⟩ := h.some_ (by rw [List.length_map]; omega)
    obtain ⟨aa, ac⟩ := A
    simp only [Value.slice.injEq, true_and] at e
    obtain ⟨rfl, rfl⟩ := e
    have HT := Aside.mk (rd_cut (i := 0) (j := 40) h (by omega) (by omega))
    have hlen : (xs.take 40).length = 40 := by rw [List.length_take]; omega
    rw [hlen]
    clear h hc hlen
    generalize hn : xs.length = n at *
    have HN := Aside.mk hn
    clear hn
    go_enter Tryz.func20, Tryz.ntmps20
    go_wp2
    go_ret
    refine ⟨_, _, rfl, ?_, rfl⟩
    have := HT.out
    simpa [List.map_take] using this
  · have e : xs.take 40 = xs := List.take_of_length_le (by omega)
    have HR := Aside.mk h
    rw [e]
    clear h e
    generalize hn : xs.length = n at *
    clear hn
    go_enter Tryz.func20, Tryz.ntmps20
    go_wp2
    go_ret
    exact ⟨_, _, rfl, HR.out, rfl⟩
theorem fits_zero {k s : Int} (h : okType k s = true) (hw : wordedB k = false) : fitsB k s 0 = true := by
  unfold fitsB
  rw [h]
  unfold okType at h
  simp only [decide_eq_true_eq] at h
  unfold wordedB at hw
  simp only [Bool.or_eq_false_iff, beq_eq_false_iff_ne] at hw
  have hk : k = 1 ∨ k = 2 ∨ k = 3 ∨ k = 4 ∨ k = 5 ∨ k = 6 ∨ k = 7 ∨ k = 8 ∨ k = 9 ∨ k = 10 ∨ k = 11 ∨ k = 12 ∨ k = 13 ∨ k = 14 := by omega
  rcases hk with rfl | rfl | rfl | rfl | rfl | rfl | rfl | rfl | rfl | rfl | rfl | rfl | rfl | rfl
  all_goals first | decide | (have hz : asInt 0 = 0 := by kernel_rfl
                              simp [bitsOK, decOK, dayOK, momOK, hz])
end Go.Proofs.YtmhjjhaipcgbiaaGreat
