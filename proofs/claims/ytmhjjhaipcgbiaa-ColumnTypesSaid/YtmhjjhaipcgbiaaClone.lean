/- slices.Clone of bytes and of numbers; Words of an empty list. -/
import Derived.Test.YtmhjjhaipcgbiaaNew
namespace Go.Proofs.Ytmhjjhaipcgbiaa
open Go.RowKit
set_option linter.unusedVariables false
set_option linter.unusedSimpArgs false
set_option maxRecDepth 100000
set_option maxHeartbeats 1000000

theorem intinfo : (Try.prog.info? 3).map (fun i => (i.zero, i.size, i.bytes)) = some (some (.int .i64 0), 1, 8) := by kernel_rfl

/-- A row of the same elements in new memory. -/
def CloneP (E : TypeId) (n : Nat) (xs : List Value) (w : World) (e : Ending) (w' : World) : Prop :=
  ∃ v', e = .returned v' ∧ Own w' w.heap.size E 1 v' n xs ∧ Below w.heap.size w w'

theorem eq_nil_some8 (a : Addr) (n c : Nat) (w : World) : (binOp .eql 37 (.slice (some a) n c) (.slice none 0 0)).run Try.prog w = .ok (.bool false) w := by kernel_rfl
theorem eq_nil_none8 (w : World) : (binOp .eql 37 (.slice none 0 0) (.slice none 0 0)).run Try.prog w = .ok (.bool true) w := by kernel_rfl
theorem eq_nil_somei (a : Addr) (n c : Nat) (w : World) : (binOp .eql 40 (.slice (some a) n c) (.slice none 0 0)).run Try.prog w = .ok (.bool false) w := by kernel_rfl
theorem eq_nil_nonei (w : World) : (binOp .eql 40 (.slice none 0 0) (.slice none 0 0)).run Try.prog w = .ok (.bool true) w := by kernel_rfl

theorem clone_bytes (v : Value) (n : Nat) (xs : List Value) (w : World) (hn : n ≤ 1000000000) (h : Rd w 1 v n xs) (h1 : ∀ u ∈ xs, u.oneCell' = true) : Calls Try.prog 66 #[v] w (CloneP 5 n xs w) := by
  obtain ⟨a, cap, rfl⟩ := h.form
  cases a with
  | none =>
    obtain ⟨hl, a', cap', hsl, _, _, h0, _⟩ := h
    simp only [Value.slice.injEq, true_and] at hsl
    obtain ⟨rfl, rfl⟩ := hsl
    obtain ⟨rfl, rfl⟩ := h0 rfl
    obtain rfl : xs = [] := List.eq_nil_of_length_eq_zero (by simpa using hl)
    have he := eq_nil_none8
    go_enter Try.func66, Try.ntmps66
    go_wp2
    go_ret
    exact ⟨_, rfl, Own.nil _ _ _ _, Below.refl _ _⟩
  | some a =>
    have hm := h.max
    have hs := h.below (below_new w (.cells #[] 5))
    have HS := Aside.mk (hs.src (tx := 37) (P := Try.prog) Try.underlying37 h1)
    have he := eq_nil_some8
    have hz : w.heap.size ≤ (w.alloc (.cells #[] 5)).heap.size := by simp
    have HZ := Aside.mk hz
    clear h hs hz
    go_enter Try.func66, Try.ntmps66
    go_wp2_with (at_builtin; refine wpList_app _ rfl _ _ 37 37 rfl w.heap.size 5 (.int .u8 0) 1 1 Try.underlying37 u8info rfl _ _ _ rfl (own_empty w w.heap.size w.heap.size 5 1 rfl (Nat.le_refl _)) _ n xs rfl HS.out (by unfold maxLen; omega) (by omega) HZ.out ?_)
    intro v' w5 hown' hgrow _ hat
    obtain ⟨a5, c5, rfl⟩ := hown'.form
    have HO := Aside.mk hown'
    have HB := Aside.mk ((below_new w (.cells #[] 5)).trans (below_of_grown hgrow HZ.out (fun k e => by simp [Value.ownBlock] at e; omega)))
    clear hown' hgrow hat
    go_wp2
    go_ret
    refine ⟨_, rfl, ?_, HB.out⟩
    have := HO.out
    simpa using this
theorem clone_ints (v : Value) (n : Nat) (xs : List Value) (w : World) (hn : n ≤ 1000000000) (h : Rd w 1 v n xs) (h1 : ∀ u ∈ xs, u.oneCell' = true) : Calls Try.prog 67 #[v] w (CloneP 3 n xs w) := by
  obtain ⟨a, cap, rfl⟩ := h.form
  cases a with
  | none =>
    obtain ⟨hl, a', cap', hsl, _, _, h0, _⟩ := h
    simp only [Value.slice.injEq, true_and] at hsl
    obtain ⟨rfl, rfl⟩ := hsl
    obtain ⟨rfl, rfl⟩ := h0 rfl
    obtain rfl : xs = [] := List.eq_nil_of_length_eq_zero (by simpa using hl)
    have he := eq_nil_nonei
    go_enter Try.func67, Try.ntmps67
    go_wp2
    go_ret
    exact ⟨_, rfl, Own.nil _ _ _ _, Below.refl _ _⟩
  | some a =>
    have hm := h.max
    have hs := h.below (below_new w (.cells #[] 3))
    have HS := Aside.mk (hs.src (tx := 40) (P := Try.prog) Try.underlying40 h1)
    have he := eq_nil_somei
    have hz : w.heap.size ≤ (w.alloc (.cells #[] 3)).heap.size := by simp
    have HZ := Aside.mk hz
    clear h hs hz
    go_enter Try.func67, Try.ntmps67
    go_wp2_with (at_builtin; refine wpList_app _ rfl _ _ 40 40 rfl w.heap.size 3 (.int .i64 0) 1 8 Try.underlying40 intinfo rfl _ _ _ rfl (own_empty w w.heap.size w.heap.size 3 1 rfl (Nat.le_refl _)) _ n xs rfl HS.out (by unfold maxLen; omega) (by omega) HZ.out ?_)
    intro v' w5 hown' hgrow _ hat
    obtain ⟨a5, c5, rfl⟩ := hown'.form
    have HO := Aside.mk hown'
    have HB := Aside.mk ((below_new w (.cells #[] 3)).trans (below_of_grown hgrow HZ.out (fun k e => by simp [Value.ownBlock] at e; omega)))
    clear hown' hgrow hat
    go_wp2
    go_ret
    refine ⟨_, rfl, ?_, HB.out⟩
    have := HO.out
    simpa using this

theorem make_none (w : World) : (Instr.makeSlice 41 (.int .i64 0) (.int .i64 0)).run Try.prog w = .ok (.slice (some ⟨w.heap.size, 0, none⟩) 0 0) (w.alloc (.cells #[] 37)) := by kernel_rfl
theorem words_empty (lw : Nat) (mv : Value) (w : World) (h : w.heap[lw]? = some (.cells #[.slice none 0 0, mv] 176 (0, 0))) : Calls Try.prog 68 #[.pointer (some ⟨lw, 0, none⟩)] w (CloneP 37 0 [] w) := by
  have hc := cell_blk (k := 0) h
  simp at hc
  have hl := lt_of_blk h
  have H := Aside.mk h
  clear h
  have hms := make_none
  go_enter Try.func68, Try.ntmps68
  go_wp2
  refine wp_loop_rounds 1 ?_
  rw [rounds_succ]
  go_wp2
  go_ret
  exact ⟨_, rfl, own_empty w w.heap.size w.heap.size 37 1 rfl (Nat.le_refl _), below_new w _⟩
end Go.Proofs.Ytmhjjhaipcgbiaa
