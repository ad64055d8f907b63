/- Texts of this claim, one behind the other: Val, Twin, Few. -/
import Derived.Test.YtmhjjhaipcgbiaaSpoP16
import Derived.Test.YtmhjjhaipcgbiaaSpoP9
import Derived.Test.YtmhjjhaipcgbiaaSpoP18
import Derived.Test.YtmhjjhaipcgbiaaSpoP20

namespace Go.Proofs.Ytmhjjhaipcgbiaa
open Go.RowKit
set_option linter.unusedVariables false
set_option linter.unusedSimpArgs false
set_option maxRecDepth 100000
set_option maxHeartbeats 2000000
theorem three_new (w : World) (x1 x2 x3 : Array Value) (t1 t2 t3 : TypeId) :
    Below w.heap.size w (((w.alloc (.cells x1 t1)).alloc (.cells x2 t2)).alloc (.cells x3 t3)) ∧
    (((w.alloc (.cells x1 t1)).alloc (.cells x2 t2)).alloc (.cells x3 t3)).heap[w.heap.size]? = some (.cells x1 t1 (0, 0)) ∧
    (((w.alloc (.cells x1 t1)).alloc (.cells x2 t2)).alloc (.cells x3 t3)).heap[w.heap.size + 1]? = some (.cells x2 t2 (0, 0)) ∧
    (((w.alloc (.cells x1 t1)).alloc (.cells x2 t2)).alloc (.cells x3 t3)).heap[w.heap.size + 1 + 1]? = some (.cells x3 t3 (0, 0)) ∧
    (((w.alloc (.cells x1 t1)).alloc (.cells x2 t2)).alloc (.cells x3 t3)).heap.size = w.heap.size + 3 := by
  refine ⟨(((Below.refl _ _).alloc (Nat.le_refl _) _).alloc (by simp) _).alloc (by simp; omega) _, ?_, ?_, ?_, by simp⟩
  · rw [Below.heap_alloc _ _ _ (by simp; omega), Below.heap_alloc _ _ _ (by simp)]; exact heap_alloc_new _ _
  · rw [Below.heap_alloc _ _ _ (by simp)]
    simpa using heap_alloc_new (w.alloc (.cells x1 t1)) (.cells x2 t2)
  · simpa using heap_alloc_new ((w.alloc (.cells x1 t1)).alloc (.cells x2 t2)) (.cells x3 t3)
theorem rd_cut {w : World} {g off n cap i j : Nat} {xs : List Value} (h : Rd w 1 (.slice (some ⟨g, off, none⟩) n cap) n xs) (hij : i ≤ j) (hj : j ≤ n) : Rd w 1 (.slice (some ⟨g, off + i, none⟩) (j - i) (cap - i)) (j - i) ((xs.drop i).take (j - i)) := by
  obtain ⟨hl, a, cap', e, h1, h2, h3, h4⟩ := h
  simp only [Value.slice.injEq, true_and] at e
  obtain ⟨rfl, rfl⟩ := e
  refine ⟨by rw [List.length_take, List.length_drop, hl]; omega, _, _, rfl, by omega, by omega, (fun e => by cases e), fun k u hu => ?_⟩
  have hk := (List.getElem?_eq_some_iff.1 hu).1
  rw [List.length_take, List.length_drop, hl] at hk
  rw [List.getElem?_take, if_pos (by omega), List.getElem?_drop] at hu
  obtain ⟨b, o, e, hc⟩ := h4 (i + k) u hu
  simp only [Option.some.injEq, Addr.mk.injEq, and_true] at e
  obtain ⟨rfl, rfl⟩ := e
  exact ⟨_, _, rfl, by rw [Nat.add_assoc]; exact hc⟩
end Go.Proofs.Ytmhjjhaipcgbiaa


namespace Go.Proofs.Ytmhjjhaipcgbiaa
open Go.RowKit
set_option linter.unusedVariables false
set_option linter.unusedSimpArgs false
set_option maxRecDepth 100000
set_option maxHeartbeats 1000000
theorem twin_bytes (xs : List Int) (A : SL) (hl : xs.length ≤ 100000000) (w : World) (h : Rd w 1 (.slice A.a xs.length A.c) xs.length (xs.map (.int .u8))) :
    Calls Try.prog 102 #[.slice A.a xs.length A.c] w fun e w' => ∃ a c, e = .returned (.slice a xs.length c) ∧ Own w' w.heap.size 5 1 (.slice a xs.length c) xs.length (xs.map (.int .u8)) ∧ Below w.heap.size w w' := by
  have HS := Aside.mk (h.src (tx := 37) (P := Try.prog) Try.underlying37 (one_map (fun x : Int => Value.int .u8 x) (fun _ => rfl) xs))
  clear h
  go_enter Try.func102, Try.ntmps102
  go_wp2_with (at_builtin; refine wpList_app _ rfl _ _ 37 37 rfl w.heap.size 5 (.int .u8 0) 1 1 Try.underlying37 u8info rfl _ _ _ rfl (Own.nil w w.heap.size 5 1) _ xs.length (xs.map (.int .u8)) rfl HS.out (by unfold maxLen; omega) (by omega) (Nat.le_refl _) ?_)
  intro v' w5 hown' hgrow _ hat
  obtain ⟨a5, c5, rfl⟩ := hown'.form
  have HO := Aside.mk hown'
  have HB := Aside.mk (below_of_grown hgrow (Nat.le_refl _) (fun k e => by cases e))
  clear hown' hgrow hat
  go_wp2
  go_ret
  refine ⟨a5, c5, ?_, ?_, HB.out⟩
  · simp
  · simpa using HO.out
theorem cut_bytes (xs : List Int) (A : SL) (hl : xs.length ≤ 9223372036854775807) (w : World) (h : Rd w 1 (.slice A.a xs.length A.c) xs.length (xs.map (.int .u8))) :
    Calls Try.prog 103 #[.slice A.a xs.length A.c, .int .i64 40] w fun e w' => ∃ a c, e = .returned (.slice a (xs.take 40).length c) ∧ Rd w 1 (.slice a (xs.take 40).length c) (xs.take 40).length ((xs.take 40).map (.int .u8)) ∧ w = w' := by
  by_cases h40 : 40 < xs.length
  · obtain ⟨g, off, cap, e, h1, h2, hc⟩ := h.some_ (by rw [List.length_map]; omega)
    obtain ⟨aa, ac⟩ := A
    simp only [Value.slice.injEq, true_and] at e
    obtain ⟨rfl, rfl⟩ := e
    have HT := Aside.mk (rd_cut (i := 0) (j := 40) h (by omega) (by omega))
    have hlen : (xs.take 40).length = 40 := by rw [List.length_take]; omega
    rw [hlen]
    clear h hc hlen
    generalize hn : xs.length = n at *
    have HN := Aside.mk hn
    clear hn
    go_enter Try.func103, Try.ntmps103
    go_wp2
    go_ret
    refine ⟨_, _, rfl, ?_, rfl⟩
    have := HT.out
    simpa [List.map_take] using this
  · have e : xs.take 40 = xs := List.take_of_length_le (by omega)
    have HR := Aside.mk h
    rw [e]
    clear h e
    generalize hn : xs.length = n at *
    clear hn
    go_enter Try.func103, Try.ntmps103
    go_wp2
    go_ret
    exact ⟨_, _, rfl, HR.out, rfl⟩
theorem fits_zero {k s : Int} (h : okType k s = true) (hw : wordedB k = false) : fitsB k s 0 = true := by
  unfold fitsB
  rw [h]
  unfold okType at h
  simp only [decide_eq_true_eq] at h
  unfold wordedB at hw
  simp only [Bool.or_eq_false_iff, beq_eq_false_iff_ne] at hw
  have hk : k = 1 ∨ k = 2 ∨ k = 3 ∨ k = 4 ∨ k = 5 ∨ k = 6 ∨ k = 7 ∨ k = 8 ∨ k = 9 ∨ k = 10 ∨ k = 11 ∨ k = 12 ∨ k = 13 ∨ k = 14 := by omega
  rcases hk with rfl | rfl | rfl | rfl | rfl | rfl | rfl | rfl | rfl | rfl | rfl | rfl | rfl | rfl
  all_goals first | decide | (have hz : asInt 0 = 0 := by kernel_rfl
                              simp [bitsOK, decOK, dayOK, momOK, hz])
end Go.Proofs.Ytmhjjhaipcgbiaa


namespace Go.Proofs.Ytmhjjhaipcgbiaa
open Go.RowKit
set_option linter.unusedVariables false
set_option linter.unusedSimpArgs false
set_option maxRecDepth 100000
set_option maxHeartbeats 2000000
def RdVs (w : World) (A : SL) (l : List V) : Prop :=
  ∃ xs, Rd w 3 (.slice A.a l.length A.c) l.length xs ∧ ∀ (i : Nat) v, l[i]? = some v → ∃ ta tc, xs[i * 3]? = some (.bool v.null) ∧ xs[i * 3 + 1]? = some (.int .u64 (v.bits : Int)) ∧ xs[i * 3 + 2]? = some (.slice ta v.text.length tc) ∧ Rd w 1 (.slice ta v.text.length tc) v.text.length (v.text.map (.int .u8))
theorem RdVs.below {w w' : World} {A : SL} {l : List V} (h : RdVs w A l) (hb : Below w.heap.size w w') : RdVs w' A l := by
  obtain ⟨xs, h1, h2⟩ := h
  exact ⟨xs, h1.below hb, fun i v hi => by obtain ⟨ta, tc, a, b, c, d⟩ := h2 i v hi; exact ⟨ta, tc, a, b, c, d.below hb⟩⟩
theorem RdVs.at {w : World} {A : SL} {l : List V} (h : RdVs w A l) {i : Nat} (hi : i < l.length) : ∃ b off cap ta tc, A.a = some ⟨b, off, none⟩ ∧ A.c = cap ∧ l.length ≤ cap ∧ cap ≤ 9223372036854775807 ∧ w.cell? ⟨b, off + i * 3, none⟩ = some (.bool l[i].null) ∧ w.cell? ⟨b, off + i * 3 + 1, none⟩ = some (.int .u64 (l[i].bits : Int)) ∧ w.cell? ⟨b, off + i * 3 + 2, none⟩ = some (.slice ta l[i].text.length tc) ∧ Rd w 1 (.slice ta l[i].text.length tc) l[i].text.length (l[i].text.map (.int .u8)) := by
  obtain ⟨xs, h1, h2⟩ := h
  obtain ⟨ta, tc, a, b, c, d⟩ := h2 i _ (List.getElem?_eq_getElem hi)
  obtain ⟨g, off, cap, e, q1, q2, hc⟩ := h1.some_ (by rw [h1.len]; omega)
  simp only [Value.slice.injEq, true_and] at e
  obtain ⟨e1, e2⟩ := e
  exact ⟨g, off, cap, ta, tc, e1, e2, q1, q2, hc _ _ a, by rw [Nat.add_assoc]; exact hc _ _ b, by rw [Nat.add_assoc]; exact hc _ _ c, d⟩
def Few (l : List V) : Prop := l.length ≤ 20000 ∧ ∀ v ∈ l, v.text.length ≤ 4900
theorem of_sizes (k : Int) (l : List V) (hl : ∀ v ∈ l, v.text.length ≤ 4900) : (CS.of k l).data.length ≤ l.length * 4900 ∧ (CS.of k l).nulls.length = l.length ∧ (CS.of k l).ends.length ≤ l.length ∧ (CS.of k l).words.length ≤ l.length := by
  induction l using snoc_ind with
  | h0 => exact ⟨Nat.le_refl _, rfl, Nat.le_refl _, Nat.le_refl _⟩
  | h1 l v ih =>
    obtain ⟨h1, h2, h3, h4⟩ := ih (fun v hv => hl v (List.mem_append_left _ hv))
    have hv := hl v (by simp)
    have hw8 : (widthOf k).toNat ≤ 8 := by
      unfold widthOf
      split
      · decide
      split
      · decide
      split
      · decide
      split <;> decide
    rw [CS.of_snoc]
    unfold CS.add
    split
    · refine ⟨?_, ?_, ?_, ?_⟩ <;> simp <;> omega
    split
    · refine ⟨?_, ?_, ?_, ?_⟩
      · simp [lows_len]; omega
      · simp; omega
      · simp; omega
      · dsimp only
        split
        · simp; omega
        · have := addWord_len (CS.of k l).words v.text; simp; omega
    · refine ⟨?_, ?_, ?_, ?_⟩
      · simp [lows_len]; omega
      · simp; omega
      · simp; omega
      · simp; omega
theorem of_words (k : Int) (l : List V) (hl : ∀ v ∈ l, v.text.length ≤ 4900) : ∀ t ∈ (CS.of k l).words, t.length ≤ 4900 := by
  induction l using snoc_ind with
  | h0 => intro t ht; cases ht
  | h1 l v ih =>
    have ih := ih (fun v hv => hl v (List.mem_append_left _ hv))
    have hv := hl v (by simp)
    rw [CS.of_snoc]
    unfold CS.add
    split
    · exact ih
    split
    · dsimp only
      split
      · exact ih
      · unfold addWord
        split
        · exact ih
        · intro t ht
          rcases List.mem_append.1 ht with h | h
          · exact ih t h
          · simp at h; subst h; exact hv
    · exact ih
theorem of_next (k : Int) (l : List V) {i : Nat} (hi : i < l.length) : CS.of k (l.take (i + 1)) = (CS.of k (l.take i)).add k l[i] := by
  rw [List.take_succ_eq_append_getElem hi, CS.of_snoc]
theorem kept8 (w : World) (b : Nat) (x0 x1 x2 x3 x4 x5 x6 x7 : Value) : Kept (fun k => k = b) w ((((((((w.setCell ⟨b, 0, none⟩ x0).setCell ⟨b, 1, none⟩ x1).setCell ⟨b, 2, none⟩ x2).setCell ⟨b, 3, none⟩ x3).setCell ⟨b, 4, none⟩ x4).setCell ⟨b, 5, none⟩ x5).setCell ⟨b, 6, none⟩ x6).setCell ⟨b, 7, none⟩ x7) := by
  repeat (refine Kept.trans ?_ (Kept.setCell _ _ _) (fun _ e _ => e))
  exact Kept.refl _ _
theorem OwnC.kept {w w' : World} {base : Nat} {c : Col} {B D E W : SL} {vals : List Value} {S : Nat → Prop} (h : OwnC w base c B D E W vals) (hk : Kept S w w') (hS : ∀ b, base ≤ b → ¬ S b) : OwnC w' base c B D E W vals :=
  ⟨h.bits.kept hk (fun b e => hS b (h.bits.lt b e).1), h.data.kept hk (fun b e => hS b (h.data.lt b e).1), h.ends.kept hk (fun b e => hS b (h.ends.lt b e).1), h.words.kept hk (fun b e => hS b (h.words.lt b e).1), h.len, fun i t hi ht => by
    obtain ⟨a, cap, q1, q2⟩ := h.each i t hi ht
    exact ⟨a, cap, q1, q2.kept hk (fun b e => hS b (q2.lt b e).1)⟩, h.sep⟩
theorem OwnC.mono {w : World} {base base' : Nat} {c : Col} {B D E W : SL} {vals : List Value} (h : OwnC w base c B D E W vals) (hb : base' ≤ base) : OwnC w base' c B D E W vals :=
  ⟨h.bits.mono hb, h.data.mono hb, h.ends.mono hb, h.words.mono hb, h.len, WOwn.mono h.each hb, h.sep⟩
theorem OwnC.below {w w' : World} {base : Nat} {c : Col} {B D E W : SL} {vals : List Value} (h : OwnC w base c B D E W vals) (hb : Below w.heap.size w w') : OwnC w' base c B D E W vals :=
  h.kept (Kept.of_below (S := fun _ => False) hb) (fun _ _ e => e)
end Go.Proofs.Ytmhjjhaipcgbiaa
