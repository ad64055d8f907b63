/- What a float's bits say: bits.Class, bits.NaN and what they call. -/
import Derived.Test.YtmhjjhaipcgbiaaTypes
namespace Go.Proofs.Ytmhjjhaipcgbiaa
open Go.RowKit
set_option linter.unusedVariables false
set_option linter.unusedSimpArgs false

def shape32 : Value := .agg #[.int .i64 24, .int .i64 (-149), .int .i64 32]
def shape64 : Value := .agg #[.int .i64 53, .int .i64 (-1074), .int .i64 64]

set_option maxHeartbeats 1000000 in
theorem shapes_32 (w : World) : Calls Try.prog 90 #[.int .i64 9] w fun e w' => e = .returned (.tuple #[.agg #[.int .i64 24, .int .i64 (-149), .int .i64 32], .bool true]) ∧ Below w.heap.size w w' := by
  have i0 : ∀ w, (Instr.index 191 (.agg #[.int .i64 9, .int .i64 24, .int .i64 (-149), .int .i64 32, .int .i64 10, .int .i64 53, .int .i64 (-1074), .int .i64 64]) (.int .i64 0)).run Try.prog w = .ok (.agg #[.int .i64 9, .int .i64 24, .int .i64 (-149), .int .i64 32]) w := fun _ => by kernel_rfl
  have i1 : ∀ w, (Instr.index 191 (.agg #[.int .i64 9, .int .i64 24, .int .i64 (-149), .int .i64 32, .int .i64 10, .int .i64 53, .int .i64 (-1074), .int .i64 64]) (.int .i64 1)).run Try.prog w = .ok (.agg #[.int .i64 10, .int .i64 53, .int .i64 (-1074), .int .i64 64]) w := fun _ => by kernel_rfl
  go_enter Try.func90, Try.ntmps90
  go_wp2
  refine wp_loop_rounds 1 ?_
  rw [rounds_succ]
  go_wp2
  refine bodyPost_ret (v := .tuple #[.agg #[.int .i64 24, .int .i64 (-149), .int .i64 32], .bool true]) (by simp [results, Try.results90, go_sem]) rfl ⟨rfl, (by repeat (first | exact Below.refl _ _ | assumption | (refine Below.drew ?_) | (refine Below.trans ?_ (below_drewN _ _ _)) | (refine Below.alloc ?_ (by first | omega | (simp; done) | (simp; omega)) _) | (refine Below.setCell ?_ (by first | omega | (simp; done) | (simp; omega)) _)))⟩

set_option maxHeartbeats 1000000 in
theorem shapes_64 (w : World) : Calls Try.prog 90 #[.int .i64 10] w fun e w' => e = .returned (.tuple #[.agg #[.int .i64 53, .int .i64 (-1074), .int .i64 64], .bool true]) ∧ Below w.heap.size w w' := by
  have i0 : ∀ w, (Instr.index 191 (.agg #[.int .i64 9, .int .i64 24, .int .i64 (-149), .int .i64 32, .int .i64 10, .int .i64 53, .int .i64 (-1074), .int .i64 64]) (.int .i64 0)).run Try.prog w = .ok (.agg #[.int .i64 9, .int .i64 24, .int .i64 (-149), .int .i64 32]) w := fun _ => by kernel_rfl
  have i1 : ∀ w, (Instr.index 191 (.agg #[.int .i64 9, .int .i64 24, .int .i64 (-149), .int .i64 32, .int .i64 10, .int .i64 53, .int .i64 (-1074), .int .i64 64]) (.int .i64 1)).run Try.prog w = .ok (.agg #[.int .i64 10, .int .i64 53, .int .i64 (-1074), .int .i64 64]) w := fun _ => by kernel_rfl
  go_enter Try.func90, Try.ntmps90
  go_wp2
  refine wp_loop_rounds 2 ?_
  rw [rounds_succ]
  go_wp2
  rw [rounds_succ]
  go_wp2
  refine bodyPost_ret (v := .tuple #[.agg #[.int .i64 53, .int .i64 (-1074), .int .i64 64], .bool true]) (by simp [results, Try.results90, go_sem]) rfl ⟨rfl, (by repeat (first | exact Below.refl _ _ | assumption | (refine Below.drew ?_) | (refine Below.trans ?_ (below_drewN _ _ _)) | (refine Below.alloc ?_ (by first | omega | (simp; done) | (simp; omega)) _) | (refine Below.setCell ?_ (by first | omega | (simp; done) | (simp; omega)) _)))⟩

set_option maxHeartbeats 1000000 in
theorem shapes_no (k : Int) (h9 : (9 == k) = false) (h10 : (10 == k) = false) (w : World) : Calls Try.prog 90 #[.int .i64 k] w fun e w' => e = .returned (.tuple #[.agg #[.int .i64 0, .int .i64 0, .int .i64 0], .bool false]) ∧ Below w.heap.size w w' := by
  have i0 : ∀ w, (Instr.index 191 (.agg #[.int .i64 9, .int .i64 24, .int .i64 (-149), .int .i64 32, .int .i64 10, .int .i64 53, .int .i64 (-1074), .int .i64 64]) (.int .i64 0)).run Try.prog w = .ok (.agg #[.int .i64 9, .int .i64 24, .int .i64 (-149), .int .i64 32]) w := fun _ => by kernel_rfl
  have i1 : ∀ w, (Instr.index 191 (.agg #[.int .i64 9, .int .i64 24, .int .i64 (-149), .int .i64 32, .int .i64 10, .int .i64 53, .int .i64 (-1074), .int .i64 64]) (.int .i64 1)).run Try.prog w = .ok (.agg #[.int .i64 10, .int .i64 53, .int .i64 (-1074), .int .i64 64]) w := fun _ => by kernel_rfl
  go_enter Try.func90, Try.ntmps90
  go_wp2
  refine wp_loop_rounds 3 ?_
  rw [rounds_succ]
  go_wp2
  rw [rounds_succ]
  go_wp2
  rw [rounds_succ]
  go_wp2
  refine bodyPost_ret (v := .tuple #[.agg #[.int .i64 0, .int .i64 0, .int .i64 0], .bool false]) (by simp [results, Try.results90, go_sem]) rfl ⟨rfl, (by repeat (first | exact Below.refl _ _ | assumption | (refine Below.drew ?_) | (refine Below.trans ?_ (below_drewN _ _ _)) | (refine Below.alloc ?_ (by first | omega | (simp; done) | (simp; omega)) _) | (refine Below.setCell ?_ (by first | omega | (simp; done) | (simp; omega)) _)))⟩

set_option maxHeartbeats 1000000 in
theorem sign_32 (w : World) : Calls Try.prog 88 #[.agg #[.int .i64 24, .int .i64 (-149), .int .i64 32]] w fun e w' => e = .returned (.int .u64 2147483648) ∧ w' = w.alloc (.cells #[.int .i64 24, .int .i64 (-149), .int .i64 32] 153) := by
  go_enter Try.func88, Try.ntmps88
  go_wp2
  go_ret
  exact ⟨rfl, rfl⟩

set_option maxHeartbeats 1000000 in
theorem sign_64 (w : World) : Calls Try.prog 88 #[.agg #[.int .i64 53, .int .i64 (-1074), .int .i64 64]] w fun e w' => e = .returned (.int .u64 9223372036854775808) ∧ w' = w.alloc (.cells #[.int .i64 53, .int .i64 (-1074), .int .i64 64] 153) := by
  go_enter Try.func88, Try.ntmps88
  go_wp2
  go_ret
  exact ⟨rfl, rfl⟩

set_option maxHeartbeats 1000000 in
theorem inf_32 (w : World) : Calls Try.prog 89 #[.agg #[.int .i64 24, .int .i64 (-149), .int .i64 32]] w fun e w' => e = .returned (.int .u64 2139095040) ∧ Below w.heap.size w w' := by
  go_enter Try.func89, Try.ntmps89
  go_wp2
  have e1 : IntKind.i64.wrap 23 = 23 := by decide
  go_region_with (go_at_call 88; refine (sign_32 _).mono ?_; rintro e w1 ⟨rfl, rfl⟩)
  all_goals (go_wp2; go_ret; exact ⟨rfl, (by repeat (first | exact Below.refl _ _ | assumption | (refine Below.drew ?_) | (refine Below.trans ?_ (below_drewN _ _ _)) | (refine Below.alloc ?_ (by first | omega | (simp; done) | (simp; omega)) _) | (refine Below.setCell ?_ (by first | omega | (simp; done) | (simp; omega)) _)))⟩)

set_option maxHeartbeats 1000000 in
theorem inf_64 (w : World) : Calls Try.prog 89 #[.agg #[.int .i64 53, .int .i64 (-1074), .int .i64 64]] w fun e w' => e = .returned (.int .u64 9218868437227405312) ∧ Below w.heap.size w w' := by
  go_enter Try.func89, Try.ntmps89
  go_wp2
  have e1 : IntKind.i64.wrap 52 = 52 := by decide
  go_region_with (go_at_call 88; refine (sign_64 _).mono ?_; rintro e w1 ⟨rfl, rfl⟩)
  all_goals (go_wp2; go_ret; exact ⟨rfl, (by repeat (first | exact Below.refl _ _ | assumption | (refine Below.drew ?_) | (refine Below.trans ?_ (below_drewN _ _ _)) | (refine Below.alloc ?_ (by first | omega | (simp; done) | (simp; omega)) _) | (refine Below.setCell ?_ (by first | omega | (simp; done) | (simp; omega)) _)))⟩)

set_option maxHeartbeats 1000000 in
theorem own_32 (b : Int) (h0 : 0 ≤ b) (h1 : b < 4294967296) (w : World) : Calls Try.prog 87 #[.int .i64 9, .int .u64 b] w fun e w' => e = .returned (.tuple #[.agg #[.int .i64 24, .int .i64 (-149), .int .i64 32], .int .i64 0]) ∧ Below w.heap.size w w' := by
  go_enter Try.func87, Try.ntmps87
  go_wp2_with (go_at_call 90; refine (shapes_32 _).mono ?_; rintro e w1 ⟨rfl, hb1⟩; obtain ⟨hc, hf⟩ := bcell hb1; have hz : w.heap.size < w1.heap.size := by have := hb1.size; simp at this; omega)
  have hB : Below w.heap.size w w1 := (below_new w _).trans (hb1.mono (by simp))
  refine bodyPost_ret (v := .tuple #[.agg #[.int .i64 24, .int .i64 (-149), .int .i64 32], .int .i64 0]) (by simp [results, Try.results87, go_sem, hc, hz]) rfl ⟨rfl, (by repeat (first | exact Below.refl _ _ | assumption | (refine Below.drew ?_) | (refine Below.trans ?_ (below_drewN _ _ _)) | (refine Below.alloc ?_ (by first | omega | (simp; done) | (simp; omega)) _) | (refine Below.setCell ?_ (by first | omega | (simp; done) | (simp; omega)) _)))⟩

set_option maxHeartbeats 1000000 in
theorem own_32_no (b : Int) (h0 : 4294967296 ≤ b) (w : World) : Calls Try.prog 87 #[.int .i64 9, .int .u64 b] w fun e w' => e = .returned (.tuple #[.agg #[.int .i64 24, .int .i64 (-149), .int .i64 32], .int .i64 31]) ∧ Below w.heap.size w w' := by
  go_enter Try.func87, Try.ntmps87
  go_wp2_with (go_at_call 90; refine (shapes_32 _).mono ?_; rintro e w1 ⟨rfl, hb1⟩; obtain ⟨hc, hf⟩ := bcell hb1; have hz : w.heap.size < w1.heap.size := by have := hb1.size; simp at this; omega)
  have hB : Below w.heap.size w w1 := (below_new w _).trans (hb1.mono (by simp))
  refine bodyPost_ret (v := .tuple #[.agg #[.int .i64 24, .int .i64 (-149), .int .i64 32], .int .i64 31]) (by simp [results, Try.results87, go_sem, hc, hz]) rfl ⟨rfl, (by repeat (first | exact Below.refl _ _ | assumption | (refine Below.drew ?_) | (refine Below.trans ?_ (below_drewN _ _ _)) | (refine Below.alloc ?_ (by first | omega | (simp; done) | (simp; omega)) _) | (refine Below.setCell ?_ (by first | omega | (simp; done) | (simp; omega)) _)))⟩

set_option maxHeartbeats 1000000 in
theorem own_64 (b : Int) (w : World) : Calls Try.prog 87 #[.int .i64 10, .int .u64 b] w fun e w' => e = .returned (.tuple #[.agg #[.int .i64 53, .int .i64 (-1074), .int .i64 64], .int .i64 0]) ∧ Below w.heap.size w w' := by
  go_enter Try.func87, Try.ntmps87
  go_wp2_with (go_at_call 90; refine (shapes_64 _).mono ?_; rintro e w1 ⟨rfl, hb1⟩; obtain ⟨hc, hf⟩ := bcell hb1; have hz : w.heap.size < w1.heap.size := by have := hb1.size; simp at this; omega)
  have hB : Below w.heap.size w w1 := (below_new w _).trans (hb1.mono (by simp))
  refine bodyPost_ret (v := .tuple #[.agg #[.int .i64 53, .int .i64 (-1074), .int .i64 64], .int .i64 0]) (by simp [results, Try.results87, go_sem, hc, hz]) rfl ⟨rfl, (by repeat (first | exact Below.refl _ _ | assumption | (refine Below.drew ?_) | (refine Below.trans ?_ (below_drewN _ _ _)) | (refine Below.alloc ?_ (by first | omega | (simp; done) | (simp; omega)) _) | (refine Below.setCell ?_ (by first | omega | (simp; done) | (simp; omega)) _)))⟩

set_option maxHeartbeats 1000000 in
theorem own_no (k b : Int) (h9 : (9 == k) = false) (h10 : (10 == k) = false) (w : World) : Calls Try.prog 87 #[.int .i64 k, .int .u64 b] w fun e w' => e = .returned (.tuple #[.agg #[.int .i64 0, .int .i64 0, .int .i64 0], .int .i64 30]) ∧ Below w.heap.size w w' := by
  go_enter Try.func87, Try.ntmps87
  go_wp2_with (go_at_call 90; refine (shapes_no k h9 h10 _).mono ?_; rintro e w1 ⟨rfl, hb1⟩; obtain ⟨hc, hf⟩ := bcell hb1; have hz : w.heap.size < w1.heap.size := by have := hb1.size; simp at this; omega)
  have hB : Below w.heap.size w w1 := (below_new w _).trans (hb1.mono (by simp))
  refine bodyPost_ret (v := .tuple #[.agg #[.int .i64 0, .int .i64 0, .int .i64 0], .int .i64 30]) (by simp [results, Try.results87, go_sem, hc, hz]) rfl ⟨rfl, (by repeat (first | exact Below.refl _ _ | assumption | (refine Below.drew ?_) | (refine Below.trans ?_ (below_drewN _ _ _)) | (refine Below.alloc ?_ (by first | omega | (simp; done) | (simp; omega)) _) | (refine Below.setCell ?_ (by first | omega | (simp; done) | (simp; omega)) _)))⟩

end Go.Proofs.Ytmhjjhaipcgbiaa
