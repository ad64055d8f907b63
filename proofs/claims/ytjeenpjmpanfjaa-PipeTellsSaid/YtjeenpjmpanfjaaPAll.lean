/- (*pipe.Pipe[string]).All, and the function that it hands back: it tells the strings that the pipe held, in order. -/
import Derived.Test.YtjeenpjmpanfjaaPStr
import Derived.Test.YtjeenpjmpanfjaaRange
namespace Go.Proofs.Ytjeenpjmpanfjaa
open Go.RowKit Go.Shelf
namespace PAll
set_option linter.unusedVariables false
attribute [local go_sem] Oper.semAt_some

def strs (xs : List ByteArray) : List Value := xs.map Value.string
theorem len_strs (xs : List ByteArray) : (strs xs).length = xs.length := by simp [strs]
theorem strs_snoc (xs : List ByteArray) (x : ByteArray) : strs xs ++ [.string x] = strs (xs ++ [x]) := by simp [strs]
theorem strs_one (xs : List ByteArray) : ∀ u ∈ strs xs, u.oneCell' = true := by intro u hu; simp [strs] at hu; obtain ⟨a, _, rfl⟩ := hu; rfl

set_option maxRecDepth 100000 in
set_option maxHeartbeats 2000000 in
theorem tell_in (n : Nat) (hn : 1 ≤ n) (l Bs n₀ : Nat) (sv : Value) (xs : List ByteArray) (hlt : ∀ k, sv.ownBlock = some k → k < n₀) (J Jx : List ByteArray → World → Prop)
    (hY : ∀ pre x W, J pre W → pre.length < xs.length → YieldAt Fence.wide (n - 1) Try.prog l #[.string x] W fun e W' =>
      (e = .returned (.bool true) ∧ J (pre ++ [x]) W' ∧ Below n₀ W W') ∨ (e = .returned (.bool false) ∧ Jx (pre ++ [x]) W'))
    (W : World) (hBs : W.cell? ⟨Bs, 0, none⟩ = some sv) (hr : Rd W 1 sv xs.length (strs xs)) (h0 : J [] W) :
    CallsIn Fence.wide n Try.prog 20 #[.func (.yield l) #[] #[], .pointer (some ⟨Bs, 0, none⟩)] W fun e W' => (∃ v, e = .returned v) ∧
      ((∃ ys, ys = xs ∧ J ys W') ∨ (∃ pre, pre <+: xs ∧ Jx pre W')) := by
  obtain ⟨a, cap, rfl⟩ := hr.form
  have hmax := hr.max
  have HR := Aside.mk hr
  clear hr
  refine callsIn_of_wp Try.func20 rfl trivial ?_ rfl
  simp only [Try.ntmps20, List.size_toArray, List.length_cons, List.length_nil, Nat.reduceAdd, Nat.reduceSub, Array.replicate_succ, Array.replicate_zero, List.push_toArray, List.append_toArray, List.nil_append, List.cons_append]
  gi_wp2
  gi_loopw [7] (fun i wr => ∃ k : Nat, k ≤ xs.length ∧ i = .int .i64 k ∧ J (xs.take k) wr ∧ Aside (Below n₀ W wr))
    (fun i _ => xs.length - (intOf i).toNat)
  case atStart => exact ⟨0, Nat.zero_le _, rfl, h0, ⟨Below.refl _ _⟩⟩
  case round =>
    obtain ⟨k, hk, rfl, hJs, hnx⟩ := hrel
    by_cases hlt2 : k < xs.length
    · obtain ⟨b, off, cap', he, _, _, hc⟩ := HR.out.some_ (by rw [len_strs]; omega)
      simp only [Value.slice.injEq, true_and] at he
      obtain ⟨rfl, rfl⟩ := he
      have hc1 := hc k _ (by unfold strs; rw [List.getElem?_map, List.getElem?_eq_getElem hlt2]; rfl)
      have hcx := (hnx.out.cell (p := ⟨b, off + k, none⟩) (hlt b rfl)).trans hc1
      obtain ⟨x, hx⟩ : ∃ x, x = xs[k] := ⟨_, rfl⟩
      rw [← hx] at hcx
      have hts : xs.take k ++ [x] = xs.take (k + 1) := by rw [hx]; simp
      obtain ⟨fn, tmps, assign, body, hy, hR⟩ := hY _ x wr hJs (by rw [List.length_take]; omega)
      have HTS := Aside.mk hts
      clear hc hc1 hx hts
      gi_wp2
      refine hR.mono ?_
      rintro e W3 (⟨rfl, hJ3, hk3⟩ | ⟨rfl, hJx3⟩)
      · gi_wp2
        go_roundw
        case rel => exact ⟨k + 1, by omega, by go_num, by rw [← HTS.out]; exact hJ3, ⟨hnx.out.trans hk3⟩⟩
        case measure => simp [intOf]; omega
      · gi_wp2
        refine bodyPost_ret (results_none rfl _ _ _) rfl ?_
        exact ⟨⟨_, rfl⟩, .inr ⟨_, by rw [HTS.out]; exact List.take_prefix _ _, hJx3⟩⟩
    · obtain rfl : k = xs.length := by omega
      gi_wp2
      go_end0
      exact ⟨⟨_, rfl⟩, .inl ⟨_, by rw [List.take_length], hJs⟩⟩

theorem tell_stops (n : Nat) (hn : 1 ≤ n) (Bs n₀ : Nat) (sv : Value) (xs : List ByteArray) (w : World) (hlt : ∀ k, sv.ownBlock = some k → k < n₀) (hBs : Bs < w.heap.size) (hc : w.cell? ⟨Bs, 0, none⟩ = some sv) (hr : Rd w 1 sv xs.length (strs xs)) :
    SeqStopsK Fence.wide n Try.prog 20 #[.pointer (some ⟨Bs, 0, none⟩)] (fun x : ByteArray => #[Value.string x]) (Below n₀) (fun ys => ys = xs) (fun pre => pre <+: xs) xs.length w := fun l J Jx W hW _ _ hY h0 =>
  tell_in n hn l Bs n₀ sv xs hlt J Jx hY W ((hW.cell (p := ⟨Bs, 0, none⟩) hBs).trans hc) (hr.below hW) h0

variable {b : Nat} {most : Int} {xs : List ByteArray} {closed : Bool} {sv : Value} {w : World}

set_option maxHeartbeats 400000 in
theorem all_any (h : PStr.Is w b most (strs xs) closed sv) (hl : xs.length ≤ 64) :
    Calls Try.prog 18 #[.pointer (some ⟨b, 0, none⟩)] w fun e w' => ∃ Bs v, e = .returned (.func (.func 20) #[] #[.pointer (some ⟨Bs, 0, none⟩)]) ∧
      w.heap.size ≤ Bs ∧ w'.heap[Bs]? = some (.cells #[v] 39 (0, 0)) ∧ Own w' w.heap.size 9 1 v xs.length (strs xs) ∧ v.ownBlock ≠ some Bs ∧ Below w.heap.size w w' := by
  obtain ⟨c0, c1, c2, f0, f1, f2⟩ := h.cells
  have hrd := h.own.rd
  rw [len_strs] at hrd
  have hsrc := hrd.src (P := Try.prog) (tx := 39) Try.underlying39 (strs_one xs)
  obtain ⟨a, cap, rfl⟩ := h.own.form
  rw [len_strs] at c1 hsrc
  have HS := Aside.mk hsrc
  clear h hrd hsrc
  go_enter Try.func18, Try.ntmps18
  go_wp2_with (at_builtin; refine wpList_app _ rfl _ _ 39 39 rfl w.heap.size 9 (.string ByteArray.empty) 1 16 Try.underlying39 PStr.info rfl _ _ _ rfl (Own.nil _ _ _ _) _ xs.length (strs xs) rfl HS.out (by unfold maxLen; omega) (by omega) (by omega) ?_)
  intro v' w1 hown' hgrow _ hat
  obtain ⟨a', cap', rfl⟩ := hown'.form
  have HO := Aside.mk hown'
  have HG := Aside.mk hgrow
  clear hown' hgrow hat
  go_wp2
  go_ret
  refine ⟨w1.heap.size, _, rfl, HG.out.size, heap_alloc_new w1 _, ?_, ?_, ?_⟩
  · have := HO.out.alloc (.cells #[.slice a' (0 + xs.length) cap'] 39)
    simpa using this
  · intro e
    have := HO.out.lt _ e
    omega
  · exact (below_of_grown HG.out (Nat.le_refl _) (by simp [Value.ownBlock])).alloc HG.out.size _
end PAll
end Go.Proofs.Ytjeenpjmpanfjaa
