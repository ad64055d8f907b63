/- Texts of this claim, one behind the other: Inv, Kind2. -/
import Derived.Test.YtmhjjhaipcgbiaaGreatZemP47
import Derived.Test.YtmhjjhaipcgbiaaGreatZemP35
import Derived.Test.YtmhjjhaipcgbiaaGreatZemP46

namespace Go.Proofs.YtmhjjhaipcgbiaaGreat
open Go.RowKit
set_option linter.unusedVariables false
section
variable {P : Program} {ops : Array Oper} {Q : Exit → Act → World → Prop} {md : Region.Mode}
theorem ready_open {l : Array Bool} {k : Nat} (h : k ∈ Region.ready md ops l) : l[k]? = some false := by
  have h1 := (mem_ready.1 h).1
  rcases Nat.lt_or_ge k l.size with hl | hl
  · rw [Array.getElem?_eq_getElem hl]; simpa [hl] using h1
  · simp [Array.getElem?_eq_none hl] at h1
def upd (f : Nat → Value) (k : Nat) (v : Value) : Nat → Value := fun j => if j = k then v else f j
def Taken (n : Nat) (ks : List Nat) (l : Array Bool) : Prop := l.size = n ∧ ∀ k ∈ ks, l.getD k false = true
theorem Taken.set {n : Nat} {ks : List Nat} {l : Array Bool} (h : Taken n ks l) (k : Nat) : Taken n ks (l.setIfInBounds k true) := ⟨by simpa using h.1, fun j hj => getD_set_true (h.2 j hj)⟩
theorem Taken.no {n : Nat} {ks : List Nat} {l : Array Bool} (h : Taken n ks l) {k : Nat} (hk : k ∈ Region.ready md ops l) (hm : k ∈ ks) : False := by
  have h1 := h.2 k hm
  have h2 := (Array.getElem?_eq_some_iff.1 (ready_open hk))
  obtain ⟨h3, h4⟩ := h2
  simp [h3, h4] at h1
theorem Taken.lt {n : Nat} {ks : List Nat} {l : Array Bool} (h : Taken n ks l) {k : Nat} (hk : k ∈ Region.ready md ops l) : k < n := by
  rw [← h.1]; exact (Array.getElem?_eq_some_iff.1 (ready_open hk)).1
end
end Go.Proofs.YtmhjjhaipcgbiaaGreat


namespace Go.Proofs.YtmhjjhaipcgbiaaGreat
open Go.RowKit
set_option linter.unusedVariables false
set_option linter.unusedSimpArgs false
set_option maxRecDepth 100000
set_option maxHeartbeats 200000
theorem within_1 (n : Int) (w : World) : Calls Tryz.prog 15 #[.int .i64 n, .int .i64 1, .int .i64 16] w fun e w' => e = .returned (.int .i64 (withinI n 1 16)) ∧ w = w' := within_any n 1 16 (by omega) (by omega) (by omega) w
theorem within_0 (n : Int) (w : World) : Calls Tryz.prog 15 #[.int .i64 n, .int .i64 0, .int .i64 18] w fun e w' => e = .returned (.int .i64 (withinI n 0 18)) ∧ w = w' := within_any n 0 18 (by omega) (by omega) (by omega) w
def kindI (n : Int) : Int := withinI n 1 16
def scaleI (n : Int) : Int := if kindI n = 12 then withinI (n / 16) 0 18 else 0
theorem kind_any (n : Int) (w : World) : Calls Tryz.prog 24 #[.int .i64 n] w fun e w' => e = .returned (.agg #[.int .i64 (kindI n), .int .i64 (scaleI n)]) ∧ Below w.heap.size w w' := by
  by_cases h : kindI n = 12
  · have hk : withinI n 1 16 = 12 := h
    have hs : Aside (scaleI n = withinI (n / 16) 0 18) := ⟨by unfold scaleI; rw [if_pos h]⟩
    have hk := Aside.mk hk
    clear h
    go_enter Tryz.func24, Tryz.ntmps24
    go_wp2_with (fail)
    refine (within_1 _ _).mono ?_
    rintro e w1 ⟨rfl, rfl⟩
    rw [hk.out]
    go_wp2_with (fail)
    refine (within_0 _ _).mono ?_
    rintro e w1 ⟨rfl, rfl⟩
    go_wp2_with (fail)
    refine bodyPost_ret (v := .agg #[.int .i64 12, .int .i64 (withinI (n / 16) 0 18)]) (by simp [results, Tryz.results24, go_sem]) rfl ⟨?_, (by repeat (first | exact Below.refl _ _ | assumption | (refine Below.drew ?_) | (refine Below.trans ?_ (below_drewN _ _ _)) | (refine Below.alloc ?_ (by first | omega | (simp; done) | (simp; omega)) _) | (refine Below.setCell ?_ (by first | omega | (simp; done) | (simp; omega)) _)))⟩
    rw [hs.out, kindI, hk.out]
  · have hk : (withinI n 1 16 == 12) = false := by simpa [kindI] using h
    have hs : Aside (scaleI n = 0) := ⟨by unfold scaleI; rw [if_neg h]⟩
    have hu : Aside (kindI n = withinI n 1 16) := ⟨rfl⟩
    clear h
    go_enter Tryz.func24, Tryz.ntmps24
    go_wp2_with (fail)
    refine (within_1 _ _).mono ?_
    rintro e w1 ⟨rfl, rfl⟩
    go_wp2_with (fail)
    refine bodyPost_ret (v := .agg #[.int .i64 (withinI n 1 16), .int .i64 0]) (by simp [results, Tryz.results24, go_sem]) rfl ⟨?_, (by repeat (first | exact Below.refl _ _ | assumption | (refine Below.drew ?_) | (refine Below.trans ?_ (below_drewN _ _ _)) | (refine Below.alloc ?_ (by first | omega | (simp; done) | (simp; omega)) _) | (refine Below.setCell ?_ (by first | omega | (simp; done) | (simp; omega)) _)))⟩
    rw [hs.out, hu.out]
theorem kind_ok (n : Int) : okType (kindI n) (scaleI n) = true := by
  unfold okType scaleI kindI withinI
  simp only [decide_eq_true_eq]
  split <;> omega
end Go.Proofs.YtmhjjhaipcgbiaaGreat
