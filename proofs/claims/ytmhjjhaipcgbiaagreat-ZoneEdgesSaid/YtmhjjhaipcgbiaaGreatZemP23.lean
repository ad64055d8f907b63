/- Texts of this claim, one behind the other: Few, Fit, FitsL. -/
import Derived.Test.YtmhjjhaipcgbiaaGreatZemP22
import Derived.Test.YtmhjjhaipcgbiaaGreatZemP9
import Derived.Test.YtmhjjhaipcgbiaaGreatZemP16
import Derived.Test.YtmhjjhaipcgbiaaGreatZemP20

namespace Go.Proofs.YtmhjjhaipcgbiaaGreat
open Go.RowKit
set_option linter.unusedVariables false
set_option linter.unusedSimpArgs false
set_option maxRecDepth 100000
set_option maxHeartbeats 2000000
def RdVs (w : World) (A : SL) (l : List V) : Prop :=
  ∃ xs, Rd w 3 (.slice A.a l.length A.c) l.length xs ∧ ∀ (i : Nat) v, l[i]? = some v → ∃ ta tc, xs[i * 3]? = some (.bool v.null) ∧ xs[i * 3 + 1]? = some (.int .u64 (v.bits : Int)) ∧ xs[i * 3 + 2]? = some (.slice ta v.text.length tc) ∧ Rd w 1 (.slice ta v.text.length tc) v.text.length (v.text.map (.int .u8))
theorem RdVs.below {w w' : World} {A : SL} {l : List V} (h : RdVs w A l) (hb : Below w.heap.size w w') : RdVs w' A l := by
  obtain ⟨xs, h1, h2⟩ := h
  exact ⟨xs, h1.below hb, fun i v hi => by obtain ⟨ta, tc, a, b, c, d⟩ := h2 i v hi; exact ⟨ta, tc, a, b, c, d.below hb⟩⟩
theorem RdVs.at {w : World} {A : SL} {l : List V} (h : RdVs w A l) {i : Nat} (hi : i < l.length) : ∃ b off cap ta tc, A.a = some ⟨b, off, none⟩ ∧ A.c = cap ∧ l.length ≤ cap ∧ cap ≤ 9223372036854775807 ∧ w.cell? ⟨b, off + i * 3, none⟩ = some (.bool l[i].null) ∧ w.cell? ⟨b, off + i * 3 + 1, none⟩ = some (.int .u64 (l[i].bits : Int)) ∧ w.cell? ⟨b, off + i * 3 + 2, none⟩ = some (.slice ta l[i].text.length tc) ∧ Rd w 1 (.slice ta l[i].text.length tc) l[i].text.length (l[i].text.map (.int .u8)) := by
  obtain ⟨xs, h1, h2⟩ := h
  obtain ⟨ta, tc, a, b, c, d⟩ := h2 i _ (List.getElem?_eq_getElem hi)
  obtain ⟨g, off, cap, e, q1, q2, hc⟩ := h1.some_ (by rw [h1.len]; omega)
  simp only [Value.slice.injEq, true_and] at e
  obtain ⟨e1, e2⟩ := e
  exact ⟨g, off, cap, ta, tc, e1, e2, q1, q2, hc _ _ a, by rw [Nat.add_assoc]; exact hc _ _ b, by rw [Nat.add_assoc]; exact hc _ _ c, d⟩
def Few (l : List V) : Prop := l.length ≤ 20000 ∧ ∀ v ∈ l, v.text.length ≤ 4900
theorem of_sizes (k : Int) (l : List V) (hl : ∀ v ∈ l, v.text.length ≤ 4900) : (CS.of k l).data.length ≤ l.length * 4900 ∧ (CS.of k l).nulls.length = l.length ∧ (CS.of k l).ends.length ≤ l.length ∧ (CS.of k l).words.length ≤ l.length := by
  induction l using snoc_ind with
  | h0 => exact ⟨Nat.le_refl _, rfl, Nat.le_refl _, Nat.le_refl _⟩
  | h1 l v ih =>
    obtain ⟨h1, h2, h3, h4⟩ := ih (fun v hv => hl v (List.mem_append_left _ hv))
    have hv := hl v (by simp)
    have hw8 : (widthOf k).toNat ≤ 8 := by
      unfold widthOf
      split
      · decide
      split
      · decide
      split
      · decide
      split <;> decide
    rw [CS.of_snoc]
    unfold CS.add
    split
    · refine ⟨?_, ?_, ?_, ?_⟩ <;> simp <;> omega
    split
    · refine ⟨?_, ?_, ?_, ?_⟩
      · simp [lows_len]; omega
      · simp; omega
      · simp; omega
      · dsimp only
        split
        · simp; omega
        · have := addWord_len (CS.of k l).words v.text; simp; omega
    · refine ⟨?_, ?_, ?_, ?_⟩
      · simp [lows_len]; omega
      · simp; omega
      · simp; omega
      · simp; omega
theorem of_words (k : Int) (l : List V) (hl : ∀ v ∈ l, v.text.length ≤ 4900) : ∀ t ∈ (CS.of k l).words, t.length ≤ 4900 := by
  induction l using snoc_ind with
  | h0 => intro t ht; cases ht
  | h1 l v ih =>
    have ih := ih (fun v hv => hl v (List.mem_append_left _ hv))
    have hv := hl v (by simp)
    rw [CS.of_snoc]
    unfold CS.add
    split
    · exact ih
    split
    · dsimp only
      split
      · exact ih
      · unfold addWord
        split
        · exact ih
        · intro t ht
          rcases List.mem_append.1 ht with h | h
          · exact ih t h
          · simp at h; subst h; exact hv
    · exact ih
theorem of_room {k s : Int} {l : List V} (hf : Few l) (hl : ∀ v ∈ l, vOK k s v) {i : Nat} (hi : i < l.length) : Room (CS.of k (l.take i)) l[i] := by
  have hm := List.getElem_mem hi
  obtain ⟨h1, h2, h3, h4⟩ := of_sizes k (l.take i) (fun v hv => hf.2 v (List.mem_of_mem_take hv))
  have h5 := hf.2 _ hm
  have h6 := hf.1
  rw [List.length_take] at h1 h2 h3 h4
  exact ⟨by omega, by omega, by omega, by omega, (hl _ hm).1, (hl _ hm).2.1⟩
theorem of_next (k : Int) (l : List V) {i : Nat} (hi : i < l.length) : CS.of k (l.take (i + 1)) = (CS.of k (l.take i)).add k l[i] := by
  rw [List.take_succ_eq_append_getElem hi, CS.of_snoc]
theorem kept8 (w : World) (b : Nat) (x0 x1 x2 x3 x4 x5 x6 x7 : Value) : Kept (fun k => k = b) w ((((((((w.setCell ⟨b, 0, none⟩ x0).setCell ⟨b, 1, none⟩ x1).setCell ⟨b, 2, none⟩ x2).setCell ⟨b, 3, none⟩ x3).setCell ⟨b, 4, none⟩ x4).setCell ⟨b, 5, none⟩ x5).setCell ⟨b, 6, none⟩ x6).setCell ⟨b, 7, none⟩ x7) := by
  repeat (refine Kept.trans ?_ (Kept.setCell _ _ _) (fun _ e _ => e))
  exact Kept.refl _ _
theorem OwnC.kept {w w' : World} {base : Nat} {c : Col} {B D E W : SL} {vals : List Value} {S : Nat → Prop} (h : OwnC w base c B D E W vals) (hk : Kept S w w') (hS : ∀ b, base ≤ b → ¬ S b) : OwnC w' base c B D E W vals :=
  ⟨h.bits.kept hk (fun b e => hS b (h.bits.lt b e).1), h.data.kept hk (fun b e => hS b (h.data.lt b e).1), h.ends.kept hk (fun b e => hS b (h.ends.lt b e).1), h.words.kept hk (fun b e => hS b (h.words.lt b e).1), h.len, fun i t hi ht => by
    obtain ⟨a, cap, q1, q2⟩ := h.each i t hi ht
    exact ⟨a, cap, q1, q2.kept hk (fun b e => hS b (q2.lt b e).1)⟩, h.sep⟩
theorem OwnC.keptL {w w' : World} {base : Nat} {c : Col} {B D E W : SL} {vals : List Value} {S : Nat → Prop} (h : OwnC w base c B D E W vals) (hk : Kept S w w') (hS : ∀ b, base ≤ b → b < w.heap.size → ¬ S b) : OwnC w' base c B D E W vals :=
  ⟨h.bits.kept hk (fun b e => hS b (h.bits.lt b e).1 (h.bits.lt b e).2), h.data.kept hk (fun b e => hS b (h.data.lt b e).1 (h.data.lt b e).2), h.ends.kept hk (fun b e => hS b (h.ends.lt b e).1 (h.ends.lt b e).2), h.words.kept hk (fun b e => hS b (h.words.lt b e).1 (h.words.lt b e).2), h.len, fun i t hi ht => by
    obtain ⟨a, cap, q1, q2⟩ := h.each i t hi ht
    exact ⟨a, cap, q1, q2.kept hk (fun b e => hS b (q2.lt b e).1 (q2.lt b e).2)⟩, h.sep⟩
theorem OwnC.mono {w : World} {base base' : Nat} {c : Col} {B D E W : SL} {vals : List Value} (h : OwnC w base c B D E W vals) (hb : base' ≤ base) : OwnC w base' c B D E W vals :=
  ⟨h.bits.mono hb, h.data.mono hb, h.ends.mono hb, h.words.mono hb, h.len, WOwn.mono h.each hb, h.sep⟩
theorem OwnC.below {w w' : World} {base : Nat} {c : Col} {B D E W : SL} {vals : List Value} (h : OwnC w base c B D E W vals) (hb : Below w.heap.size w w') : OwnC w' base c B D E W vals :=
  h.kept (Kept.of_below (S := fun _ => False) hb) (fun _ _ e => e)
end Go.Proofs.YtmhjjhaipcgbiaaGreat


namespace Go.Proofs.YtmhjjhaipcgbiaaGreat
open Go.RowKit
set_option linter.unusedVariables false
set_option linter.unusedSimpArgs false
set_option maxRecDepth 100000
set_option maxHeartbeats 2000000
def FitV (k s : Int) (w : World) (e : Ending) (w' : World) : Prop :=
  ∃ (v : V) (a : Option Addr) (c : Nat), e = .returned (.agg #[.bool v.null, .int .u64 (v.bits : Int), .slice a v.text.length c]) ∧ vOK k s v ∧ v.text.length ≤ 40 ∧ Own w' w.heap.size 5 1 (.slice a v.text.length c) v.text.length (v.text.map (.int .u8)) ∧ Below w.heap.size w w'
theorem fit_four (w : World) (x1 x2 x3 x4 : Array Value) (t1 t2 t3 t4 : TypeId) :
    Below w.heap.size w ((((w.alloc (.cells x1 t1)).alloc (.cells x2 t2)).alloc (.cells x3 t3)).alloc (.cells x4 t4)) ∧
    ((((w.alloc (.cells x1 t1)).alloc (.cells x2 t2)).alloc (.cells x3 t3)).alloc (.cells x4 t4)).heap[w.heap.size]? = some (.cells x1 t1 (0, 0)) ∧
    ((((w.alloc (.cells x1 t1)).alloc (.cells x2 t2)).alloc (.cells x3 t3)).alloc (.cells x4 t4)).heap[w.heap.size + 1]? = some (.cells x2 t2 (0, 0)) ∧
    ((((w.alloc (.cells x1 t1)).alloc (.cells x2 t2)).alloc (.cells x3 t3)).alloc (.cells x4 t4)).heap[w.heap.size + 1 + 1]? = some (.cells x3 t3 (0, 0)) ∧
    ((((w.alloc (.cells x1 t1)).alloc (.cells x2 t2)).alloc (.cells x3 t3)).alloc (.cells x4 t4)).heap[w.heap.size + 1 + 1 + 1]? = some (.cells x4 t4 (0, 0)) := by
  obtain ⟨b3, h1, h2, h3, hs⟩ := three_new w x1 x2 x3 t1 t2 t3
  refine ⟨b3.alloc (by omega) _, ?_, ?_, ?_, ?_⟩
  · rw [Below.heap_alloc _ _ _ (by omega)]; exact h1
  · rw [Below.heap_alloc _ _ _ (by omega)]; exact h2
  · rw [Below.heap_alloc _ _ _ (by omega)]; exact h3
  · have := heap_alloc_new (((w.alloc (.cells x1 t1)).alloc (.cells x2 t2)).alloc (.cells x3 t3)) (.cells x4 t4)
    rw [hs] at this
    exact this
def FitIn (k s : Int) (xs : List Int) (A : SL) (b0 b : Nat) (tv : Value) (w wr : World) : Prop :=
  Below w.heap.size w wr ∧ wr.heap[w.heap.size]? = some (.cells #[.int .i64 k, .int .i64 s] 23 (0, 0)) ∧ wr.heap[w.heap.size + 1]? = some (.cells #[.bool false, .int .u64 (b0 : Int), .slice A.a xs.length A.c] 45 (0, 0)) ∧
  wr.heap[w.heap.size + 1 + 1]? = some (.cells #[.bool false, .int .u64 0, .slice none 0 0] 50 (0, 0)) ∧ wr.heap[w.heap.size + 1 + 1 + 1]? = some (.cells #[.bool false, .int .u64 (b : Int), tv] 50 (0, 0))
theorem FitIn.below {k s : Int} {xs : List Int} {A : SL} {b0 b : Nat} {tv : Value} {w wr w2 : World} (h : FitIn k s xs A b0 b tv w wr) (hb : Below wr.heap.size wr w2) : FitIn k s xs A b0 b tv w w2 := by
  obtain ⟨h1, h2, h3, h4, h5⟩ := h
  exact ⟨h1.trans (hb.mono h1.size), (hb.block _ (lt_of_blk h2)).trans h2, (hb.block _ (lt_of_blk h3)).trans h3, (hb.block _ (lt_of_blk h4)).trans h4, (hb.block _ (lt_of_blk h5)).trans h5⟩
theorem FitIn.setBits {k s : Int} {xs : List Int} {A : SL} {b0 b b2 : Nat} {tv : Value} {w wr : World} (h : FitIn k s xs A b0 b tv w wr) : FitIn k s xs A b0 b2 tv w (wr.setCell ⟨w.heap.size + 1 + 1 + 1, 1, none⟩ (.int .u64 (b2 : Int))) := by
  obtain ⟨h1, h2, h3, h4, h5⟩ := h
  refine ⟨h1.setCell (by simp; omega) _, ?_, ?_, ?_, ?_⟩
  · rw [Below.heap_setCell _ _ _ _ (by simp; omega)]; exact h2
  · rw [Below.heap_setCell _ _ _ _ (by simp)]; exact h3
  · rw [Below.heap_setCell _ _ _ _ (by simp)]; exact h4
  · have := heap_setCell_at (k := 1) h5 (.int .u64 (b2 : Int))
    simpa using this
theorem fit_cells {k s : Int} {xs : List Int} {A : SL} {b0 b : Nat} {tv : Value} {w wr : World} (h : FitIn k s xs A b0 b tv w wr) :
    wr.cell? ⟨w.heap.size, 0, none⟩ = some (.int .i64 k) ∧ wr.cell? ⟨w.heap.size, 1, none⟩ = some (.int .i64 s) ∧ wr.cell? ⟨w.heap.size + 1, 1, none⟩ = some (.int .u64 (b0 : Int)) ∧ wr.cell? ⟨w.heap.size + 1, 2, none⟩ = some (.slice A.a xs.length A.c) ∧
    wr.cell? ⟨w.heap.size + 1 + 1, 0, none⟩ = some (.bool false) ∧ wr.cell? ⟨w.heap.size + 1 + 1, 1, none⟩ = some (.int .u64 0) ∧ wr.cell? ⟨w.heap.size + 1 + 1, 2, none⟩ = some (.slice none 0 0) ∧
    wr.cell? ⟨w.heap.size + 1 + 1 + 1, 0, none⟩ = some (.bool false) ∧ wr.cell? ⟨w.heap.size + 1 + 1 + 1, 1, none⟩ = some (.int .u64 (b : Int)) ∧ wr.cell? ⟨w.heap.size + 1 + 1 + 1, 2, none⟩ = some tv ∧
    (∀ n, wr.frozen? ⟨w.heap.size + 1 + 1, n, none⟩ = false) ∧ (∀ n, wr.frozen? ⟨w.heap.size + 1 + 1 + 1, n, none⟩ = false) := by
  obtain ⟨h1, h2, h3, h4, h5⟩ := h
  refine ⟨?_, ?_, ?_, ?_, ?_, ?_, ?_, ?_, ?_, ?_, fun n => frozen_blk h4, fun n => frozen_blk h5⟩
  · rw [cell_blk h2]; rfl
  · rw [cell_blk h2]; rfl
  · rw [cell_blk h3]; rfl
  · rw [cell_blk h3]; rfl
  · rw [cell_blk h4]; rfl
  · rw [cell_blk h4]; rfl
  · rw [cell_blk h4]; rfl
  · rw [cell_blk h5]; rfl
  · rw [cell_blk h5]; rfl
  · rw [cell_blk h5]; rfl
theorem fit_any (k s : Int) (ho : okType k s = true) (nl : Bool) (b : Nat) (hb : b < 18446744073709551616) (xs : List Int) (hx : IsBytes xs) (A : SL) (hl : xs.length ≤ 9223372036854775807) (w : World) (h : Rd w 1 (.slice A.a xs.length A.c) xs.length (xs.map (.int .u8))) :
    Calls Tryz.prog 60 #[.agg #[.int .i64 k, .int .i64 s], .agg #[.bool nl, .int .u64 (b : Int), .slice A.a xs.length A.c]] w (FitV k s w) := by
  have HR := Aside.mk h
  have HO := Aside.mk ho
  have HX := Aside.mk hx
  clear h ho hx
  cases nl with
  | true =>
    go_enter Tryz.func60, Tryz.ntmps60
    go_wp2
    refine bodyPost_ret (v := .agg #[.bool true, .int .u64 0, .slice none 0 0]) (by simp [results, Tryz.results60, go_sem]) rfl ?_
    exact ⟨⟨true, 0, []⟩, none, 0, rfl, ⟨isBytes_nil, (show (0 : Nat) < 18446744073709551616 by decide), (fun _ => ⟨rfl, rfl⟩), (fun h => by cases h)⟩, by simp, Own.nil _ _ _ _, (fit_four w _ _ _ _ _ _ _ _).1⟩
  | false =>
    go_enter Tryz.func60, Tryz.ntmps60
    go_wp2_with fail
    have HI := Aside.mk (show FitIn k s xs A b 0 (.slice none 0 0) w ((((w.alloc (.cells #[.int .i64 k, .int .i64 s] 23)).alloc (.cells #[.bool false, .int .u64 (b : Int), .slice A.a xs.length A.c] 45)).alloc (.cells #[.bool false, .int .u64 0, .slice none 0 0] 50)).alloc (.cells #[.bool false, .int .u64 0, .slice none 0 0] 50)) from fit_four w _ _ _ _ _ _ _ _)
    generalize ((((w.alloc (.cells #[.int .i64 k, .int .i64 s] 23)).alloc (.cells #[.bool false, .int .u64 (b : Int), .slice A.a xs.length A.c] 45)).alloc (.cells #[.bool false, .int .u64 0, .slice none 0 0] 50)).alloc (.cells #[.bool false, .int .u64 0, .slice none 0 0] 50)) = w4 at *
    cases hwd : wordedB k with
    | true =>
      have HWD := Aside.mk hwd
      have HTW := Aside.mk (fun (w2 : World) a c h => twin_bytes (xs.take 40) ⟨a, c⟩ (by rw [List.length_take]; omega) w2 h)
      have HCT := Aside.mk (fun (w2 : World) h => cut_bytes xs A hl w2 h)
      have HYB := Aside.mk (show IsBytes (xs.take 40) from fun x hx => HX.out x (List.mem_of_mem_take hx))
      have HYL := Aside.mk (show (xs.take 40).length ≤ 40 by rw [List.length_take]; omega)
      generalize xs.take 40 = ys at *
      clear hwd
      go_wp2_with (first | (go_at_call 62; refine (worded_any k s _).mono ?_; rintro e w5 ⟨rfl, hb5⟩; rw [HWD.out]; replace HI := Aside.mk (HI.out.below hb5); obtain ⟨p0, p1, p2, p3, p4, p5, p6, p7, p8, p9, f1, f2⟩ := fit_cells HI.out; clear hb5) | (go_at_call 20; refine (HCT.out _ (HR.out.below HI.out.1)).mono ?_; rintro e w6 ⟨ca, cc, rfl, hrc, rfl⟩; have HRC := Aside.mk hrc; clear hrc) | (go_at_call 80; refine (HTW.out _ _ _ HRC.out).mono ?_; rintro e w7 ⟨ta, tc, rfl, hot, hb7⟩; have HOT := Aside.mk (hot.mono (base' := w.heap.size + 4) (lt_of_blk HI.out.2.2.2.2)); replace HI := Aside.mk (HI.out.below hb7); clear hot hb7 p0 p1 p2 p3 p4 p5 p6 p7 p8 p9 f1 f2; obtain ⟨p0, p1, p2, p3, p4, p5, p6, p7, p8, p9, f1, f2⟩ := fit_cells HI.out))
      refine bodyPost_ret (v := .agg #[.bool false, .int .u64 0, .slice ta ys.length tc]) (by simp [results, Tryz.results60, go_sem, p4, p5, p6]) rfl ?_
      have hne : ∀ a, a = w.heap.size + 1 + 1 + 1 ∨ a = w.heap.size + 1 + 1 → Value.ownBlock (.slice ta ys.length tc) ≠ some a := fun a ha e => by have := (HOT.out.lt _ e).1; omega
      refine ⟨⟨false, 0, ys⟩, ta, tc, rfl, ⟨HYB.out, (show (0 : Nat) < 18446744073709551616 by decide), (fun h => by cases h), (fun _ => by rw [HWD.out, if_pos rfl])⟩, HYL.out, ?_, ?_⟩
      · exact ((((HOT.out.set_other (a := ⟨w.heap.size + 1 + 1 + 1, 2, none⟩) (hne _ (.inl rfl)) _).set_other (a := ⟨w.heap.size + 1 + 1, 0, none⟩) (hne _ (.inr rfl)) _).set_other (a := ⟨w.heap.size + 1 + 1, 1, none⟩) (hne _ (.inr rfl)) _).set_other (a := ⟨w.heap.size + 1 + 1, 2, none⟩) (hne _ (.inr rfl)) _).mono (by omega)
      · exact (((HI.out.1.setCell (by simp; omega) _).setCell (by simp; omega) _).setCell (by simp; omega) _).setCell (by simp; omega) _
    | false =>
      have HWD := Aside.mk hwd
      clear hwd
      go_wp2_with (go_at_call 62; refine (worded_any k s _).mono ?_; rintro e w5 ⟨rfl, hb5⟩; rw [HWD.out]; replace HI := Aside.mk (HI.out.below hb5); obtain ⟨p0, p1, p2, p3, p4, p5, p6, p7, p8, p9, f1, f2⟩ := fit_cells HI.out; clear hb5)
      have HI2 := Aside.mk (show FitIn k s xs A b (b / 2 ^ 0) (.slice none 0 0) w (w5.setCell ⟨w.heap.size + 1 + 1 + 1, 1, none⟩ (.int .u64 (b : Int))) from by
        have := HI.out.setBits (b2 := b)
        simpa using this)
      clear HI p0 p1 p2 p3 p4 p5 p6 p7 p8 p9 f1 f2
      go_loopw [6] (fun iv wr => ∃ i : Nat, i ≤ 64 ∧ iv = .int .i64 (i : Int) ∧ Aside (FitIn k s xs A b (b / 2 ^ i) (.slice none 0 0) w wr)) (fun iv _ => 64 - (intOf iv).toNat)
      case atStart => exact ⟨0, by omega, rfl, HI2⟩
      case round =>
        clear HI2
        obtain ⟨i, hi, rfl, HI⟩ := hrel
        obtain ⟨p0, p1, p2, p3, p4, p5, p6, p7, p8, p9, f1, f2⟩ := fit_cells HI.out
        have hlt64 : b / 2 ^ i < 18446744073709551616 := Nat.lt_of_le_of_lt (Nat.div_le_self _ _) hb
        have hnext : b / 2 ^ i / 2 = b / 2 ^ (i + 1) := by rw [Nat.div_div_eq_div_mul, Nat.pow_succ]
        have hzero : i = 64 → b / 2 ^ i = 0 := fun h => by rw [h]; exact Nat.div_eq_of_lt hb
        have HN := Aside.mk hnext
        have HZ := Aside.mk hzero
        clear hnext hzero
        have done_ : fitsB k s ((b / 2 ^ i : Nat) : Int) = true → vOK k s ⟨false, b / 2 ^ i, []⟩ := fun h => ⟨isBytes_nil, hlt64, (fun h => by cases h), fun _ => by rw [HWD.out, if_neg (by decide)]; exact ⟨h, rfl⟩⟩
        have HDN := Aside.mk done_
        clear done_
        generalize hx : b / 2 ^ i = x at *
        clear hx
        by_cases h64 : i < 64
        · cases hfit : fitsB k s (x : Int) with
          | true =>
            have HFT := Aside.mk hfit
            clear hfit
            go_wp2_with (go_at_call 75; refine (r18fits_any k s x (by omega) (by omega) _).mono ?_; rintro e w6 ⟨rfl, hb6⟩; rw [HFT.out]; replace HI := Aside.mk (HI.out.below hb6); clear hb6 p0 p1 p2 p3 p4 p5 p6 p7 p8 p9 f1 f2; obtain ⟨p0, p1, p2, p3, p4, p5, p6, p7, p8, p9, f1, f2⟩ := fit_cells HI.out)
            refine bodyPost_ret (v := .agg #[.bool false, .int .u64 (x : Int), .slice none 0 0]) (by simp [results, Tryz.results60, go_sem, p4, p5, p6]) rfl ?_
            exact ⟨⟨false, x, []⟩, none, 0, rfl, HDN.out HFT.out, by simp, Own.nil _ _ _ _, ((HI.out.1.setCell (by simp; omega) _).setCell (by simp; omega) _).setCell (by simp; omega) _⟩
          | false =>
            have HFT := Aside.mk hfit
            clear hfit
            go_wp2_with (go_at_call 75; refine (r18fits_any k s x (by omega) (by omega) _).mono ?_; rintro e w6 ⟨rfl, hb6⟩; rw [HFT.out]; replace HI := Aside.mk (HI.out.below hb6); clear hb6 p0 p1 p2 p3 p4 p5 p6 p7 p8 p9 f1 f2; obtain ⟨p0, p1, p2, p3, p4, p5, p6, p7, p8, p9, f1, f2⟩ := fit_cells HI.out)
            have hnx := HI.out.setBits (b2 := b / 2 ^ (i + 1))
            rw [← HN.out] at hnx
            refine ⟨⟨i + 1, by omega, by simp, ⟨?_⟩⟩, by simp [intOf]; omega⟩
            rw [← HN.out]
            simpa using hnx
        · obtain rfl : i = 64 := by omega
          have hx0 := HZ.out rfl
          subst hx0
          have HFT := Aside.mk (fits_zero HO.out HWD.out)
          go_wp2
          refine bodyPost_ret (v := .agg #[.bool false, .int .u64 0, .slice none 0 0]) (by simp [results, Tryz.results60, go_sem, p4, p5, p6]) rfl ?_
          exact ⟨⟨false, 0, []⟩, none, 0, rfl, HDN.out HFT.out, by simp, Own.nil _ _ _ _, ((HI.out.1.setCell (by simp; omega) _).setCell (by simp; omega) _).setCell (by simp; omega) _⟩
end Go.Proofs.YtmhjjhaipcgbiaaGreat


namespace Go.Proofs.YtmhjjhaipcgbiaaGreat
open Go.RowKit
set_option linter.unusedVariables false
set_option linter.unusedSimpArgs false
set_option maxRecDepth 100000
set_option maxHeartbeats 2000000
theorem valinfo : (Tryz.prog.info? 50).map (fun i => (i.zero, i.size, i.bytes)) = some (some (.agg #[.bool false, .int .u64 0, .slice none 0 0]), 3, 40) := by kernel_rfl
structure OwnVs (w : World) (base : Nat) (A : SL) (l : List V) (xs : List Value) : Prop where
  row : Own w base 50 3 (.slice A.a l.length A.c) l.length xs
  each : ∀ (i : Nat) v, l[i]? = some v → ∃ ta tc, xs[i * 3]? = some (.bool v.null) ∧ xs[i * 3 + 1]? = some (.int .u64 (v.bits : Int)) ∧ xs[i * 3 + 2]? = some (.slice ta v.text.length tc) ∧ Own w base 5 1 (.slice ta v.text.length tc) v.text.length (v.text.map (.int .u8))
theorem OwnVs.rd {w : World} {base : Nat} {A : SL} {l : List V} {xs : List Value} (h : OwnVs w base A l xs) : RdVs w A l :=
  ⟨xs, h.row.rd, fun i v hi => by obtain ⟨ta, tc, a, b, c, d⟩ := h.each i v hi; exact ⟨ta, tc, a, b, c, d.rd⟩⟩
theorem OwnVs.kept {w w' : World} {base : Nat} {A : SL} {l : List V} {xs : List Value} {S : Nat → Prop} (h : OwnVs w base A l xs) (hk : Kept S w w') (hS : ∀ b, base ≤ b → b < w.heap.size → ¬ S b) : OwnVs w' base A l xs :=
  ⟨h.row.kept hk (fun b e => hS b (h.row.lt b e).1 (h.row.lt b e).2), fun i v hi => by obtain ⟨ta, tc, a, b, c, d⟩ := h.each i v hi; exact ⟨ta, tc, a, b, c, d.kept hk (fun x e => hS x (d.lt x e).1 (d.lt x e).2)⟩⟩
theorem OwnVs.below {w w' : World} {base : Nat} {A : SL} {l : List V} {xs : List Value} (h : OwnVs w base A l xs) (hb : Below w.heap.size w w') : OwnVs w' base A l xs :=
  h.kept (Kept.of_below (S := fun _ => False) hb) (fun _ _ _ e => e)
def FitsIn (k s : Int) (a : Option Addr) (c i : Nat) (w wr : World) : Prop :=
  ∃ (l : List V) (xs : List Value), l.length = i ∧ (∀ v ∈ l, vOK k s v ∧ v.text.length ≤ 40) ∧ OwnVs wr (w.heap.size + 1) ⟨a, c⟩ l xs ∧ Below w.heap.size w wr ∧ wr.heap[w.heap.size]? = some (.cells #[.int .i64 k, .int .i64 s] 23 (0, 0))
def FitsLP (k s : Int) (w : World) (e : Ending) (w' : World) : Prop :=
  ∃ (l : List V) (A : SL) (xs : List Value), e = .returned (.slice A.a l.length A.c) ∧ l.length ≤ 120 ∧ (∀ v ∈ l, vOK k s v ∧ v.text.length ≤ 40) ∧ OwnVs w' w.heap.size A l xs ∧ Below w.heap.size w w'
theorem get3 (x0 x1 x2 : Value) : ∀ (j : Nat) (u : Value), [x0, x1, x2][j]? = some u → j = 0 ∧ u = x0 ∨ j = 1 ∧ u = x1 ∨ j = 2 ∧ u = x2
  | 0, u, h => by simp at h; exact .inl ⟨rfl, h.symm⟩
  | 1, u, h => by simp at h; exact .inr (.inl ⟨rfl, h.symm⟩)
  | 2, u, h => by simp at h; exact .inr (.inr ⟨rfl, h.symm⟩)
  | n + 3, u, h => by simp at h
theorem src_val (w : World) (x0 x1 x2 : Value) (h0 : x0.oneCell' = true) (h1 : x1.oneCell' = true) (h2 : x2.oneCell' = true) : Src Tryz.prog 3 33 (.slice (some ⟨w.heap.size, 0, none⟩) 1 1) 1 [x0, x1, x2] (w.alloc (.cells #[x0, x1, x2] 50)) := by
  refine Src.ofSlice _ Tryz.underlying33 _ 1 1 [x0, x1, x2] rfl (fun j u hu => ?_) (by simp [h0, h1, h2])
  rw [addr_add, cell_blk (heap_alloc_new w _)]
  rcases get3 x0 x1 x2 j u hu with ⟨rfl, rfl⟩ | ⟨rfl, rfl⟩ | ⟨rfl, rfl⟩ <;> rfl
theorem fits_step {k s : Int} {a a5 : Option Addr} {c c5 i : Nat} {w wr w3 w5 : World} {v : V} {va : Option Addr} {vc : Nat} {xs : List Value} {l : List V} {o : Obj} (hl : l.length = i) (hv : ∀ v ∈ l, vOK k s v ∧ v.text.length ≤ 40) (ho : OwnVs wr (w.heap.size + 1) ⟨a, c⟩ l xs) (hb : Below w.heap.size w wr) (ht : wr.heap[w.heap.size]? = some (.cells #[.int .i64 k, .int .i64 s] 23 (0, 0)))
    (hok : vOK k s v) (h40 : v.text.length ≤ 40) (hb3 : Below wr.heap.size wr w3) (hov : Own w3 wr.heap.size 5 1 (.slice va v.text.length vc) v.text.length (v.text.map (.int .u8)))
    (hg : (w3.alloc o).grownBy w5 (Value.ownBlock (.slice a i c))) (hown : Own w5 (w.heap.size + 1) 50 3 (.slice a5 (i + 1) c5) (i + 1) (xs ++ [.bool v.null, .int .u64 (v.bits : Int), .slice va v.text.length vc])) : FitsIn k s a5 c5 (i + 1) w w5 := by
  have hxl : xs.length = i * 3 := by have := ho.row.1; rw [hl] at this; exact this
  have hsw := lt_of_blk ht
  have hrow : Value.ownBlock (.slice a i c) = Value.ownBlock (.slice a l.length c) := by cases a <;> rfl
  have K : Kept (fun b => Value.ownBlock (.slice a i c) = some b) wr w5 := ((Kept.of_below (S := fun b => Value.ownBlock (.slice a i c) = some b) hb3).trans (Kept.of_below (S := fun b => Value.ownBlock (.slice a i c) = some b) (below_new w3 o)) (fun _ e _ => e)).trans (Kept.of_grown hg) (fun _ e _ => e.symm)
  have K3 : Kept (fun b => Value.ownBlock (.slice a i c) = some b) w3 w5 := (Kept.of_below (S := fun b => Value.ownBlock (.slice a i c) = some b) (below_new w3 o)).trans (Kept.of_grown hg) (fun _ e _ => e.symm)
  have hlt : ∀ b, Value.ownBlock (.slice a i c) = some b → w.heap.size + 1 ≤ b ∧ b < wr.heap.size := fun b e => ho.row.lt b (hrow ▸ e)
  refine ⟨l ++ [v], _, by simp [hl], ?_, ⟨by simpa [hl] using hown, ?_⟩, hb.trans (K.to_below hb.size (fun b e => by have := hlt b e; omega)), (K.block _ hsw (fun e => by have := (hlt _ e).1; omega)).trans ht⟩
  · intro u hu
    rcases List.mem_append.1 hu with h | h
    · exact hv u h
    · simp at h; subst h; exact ⟨hok, h40⟩
  · intro j u hj
    rcases Nat.lt_or_ge j l.length with hlt2 | hge
    · rw [List.getElem?_append_left hlt2] at hj
      obtain ⟨ta, tc, q0, q1, q2, q3⟩ := ho.each j u hj
      refine ⟨ta, tc, ?_, ?_, ?_, q3.kept K (fun b e h => ?_)⟩
      · rw [List.getElem?_append_left (by omega)]; exact q0
      · rw [List.getElem?_append_left (by omega)]; exact q1
      · rw [List.getElem?_append_left (by omega)]; exact q2
      · obtain ⟨cur, hc⟩ := own_blk q3 e
        exact ho.row.blk_ne hc (by decide) (hrow ▸ h)
    · rw [List.getElem?_append_right hge] at hj
      have h0 : j - l.length = 0 := by
        have := (List.getElem?_eq_some_iff.1 hj).1
        simp at this
        omega
      rw [h0] at hj
      simp at hj
      subst hj
      have hj3 : j * 3 = xs.length := by omega
      refine ⟨va, vc, ?_, ?_, ?_, (hov.kept K3 (fun b e h => ?_)).mono (by omega)⟩
      · rw [hj3, List.getElem?_append_right (Nat.le_refl _)]; simp
      · rw [hj3, List.getElem?_append_right (by omega)]; simp
      · rw [hj3, List.getElem?_append_right (by omega)]; simp
      · have := (hov.lt b e).1; have := (hlt b h).2; omega
theorem fits_end {k s : Int} {a : Option Addr} {c i : Nat} {w wr : World} (h : FitsIn k s a c i w wr) (hi : i ≤ 120) : FitsLP k s w (.returned (.slice a i c)) wr := by
  obtain ⟨l, xs, hl, hv, ho, hb, _⟩ := h
  refine ⟨l, ⟨a, c⟩, xs, by rw [hl], by omega, hv, ⟨ho.row.mono (by omega), fun j u hj => ?_⟩, hb⟩
  obtain ⟨ta, tc, q0, q1, q2, q3⟩ := ho.each j u hj
  exact ⟨ta, tc, q0, q1, q2, q3.mono (by omega)⟩
theorem fitsL_any (k s : Int) (ho : okType k s = true) (l : List V) (hl : l.length ≤ 9223372036854775807) (hv : ∀ v ∈ l, IsBytes v.text ∧ v.bits < 18446744073709551616 ∧ v.text.length ≤ 9223372036854775807) (A : SL) (w : World) (h : RdVs w A l) :
    Calls Tryz.prog 26 #[.agg #[.int .i64 k, .int .i64 s], .slice A.a l.length A.c] w (FitsLP k s w) := by
  obtain ⟨aa, ac⟩ := A
  have HR := Aside.mk h
  have HV := Aside.mk hv
  have HO := Aside.mk ho
  clear h hv ho
  dsimp only
  go_enter Tryz.func26, Tryz.ntmps26
  go_wp2
  go_loopw [5, 6] (fun ov iv wr => ∃ (i : Nat) (a : Option Addr) (c : Nat), i ≤ l.length ∧ i ≤ 120 ∧ ov = .slice a i c ∧ iv = .int .i64 (i : Int) ∧ Aside (FitsIn k s a c i w wr)) (fun ov iv _ => l.length - (intOf iv).toNat)
  case atStart => exact ⟨0, none, 0, by omega, by omega, rfl, rfl, ⟨[], [], rfl, fun v hv => (by cases hv), ⟨Own.nil _ _ _ _, fun i v h => by simp at h⟩, below_new w _, heap_alloc_new w _⟩⟩
  case round =>
    obtain ⟨i, a, c, hi, hi2, rfl, rfl, hp⟩ := hrel
    by_cases hlt : i < l.length
    · by_cases h120 : i < 120
      · obtain ⟨lv, xs, hll, hlv, hov, hbl, htb⟩ := hp.out
        obtain ⟨g, off, cap, ta, tc, e1, e2, q1, q2, v0, v1, v2, hrt⟩ := (HR.out.below hbl).at hlt
        simp only at e1 e2
        subst e1 e2
        have hc0 := cell_blk (k := 0) htb
        have hc1 := cell_blk (k := 1) htb
        simp at hc0 hc1
        have hvv := HV.out _ (List.getElem_mem hlt)
        generalize l[i] = v at *
        obtain ⟨vn, vb, vt⟩ := v
        dsimp only at v0 v1 v2 hrt hvv
        have HFIT := Aside.mk (fit_any k s HO.out vn vb hvv.2.1 vt hvv.1 ⟨ta, tc⟩ hvv.2.2 wr.drew (hrt.below (below_drewN _ _ 1)))
        have HP1 := Aside.mk (And.intro hll (And.intro hlv (And.intro hov (And.intro hbl htb))))
        clear hrt hvv hll hlv hov hbl htb
        have HROW := Aside.mk (show Own wr (w.heap.size + 1) 50 3 (.slice a i c) i xs by
          have := HP1.out.2.2.1.row
          rw [HP1.out.1] at this
          exact this)
        have hsz1 : w.heap.size + 1 ≤ wr.heap.size := lt_of_blk HP1.out.2.2.2.2
        go_wp2_with fail
        go_region_law (first
          | (refine step_call (P := Tryz.prog) wr.drew (by rfl) 60 [.tmp 18, .tmp 22] _ (by rfl) [.agg #[.int .i64 k, .int .i64 s], .agg #[.bool vn, .int .u64 (vb : Int), .slice ta vt.length tc]] (by rfl) (fun _ _ => rfl) HFIT.out ?_; rintro e w3 ⟨v', va, vc, rfl, hok, h40, hov, hb3⟩; replace hb3 := undrew hb3; have HF3 := Aside.mk (And.intro hok (And.intro h40 (And.intro hov hb3))); have hsz3 := Nat.le_trans hsz1 hb3.size; clear hok h40 hov hb3; refine ⟨_, rfl, ?_⟩)
          | (refine step_app (P := Tryz.prog) (w3.alloc (.cells #[.bool v'.null, .int .u64 (v'.bits : Int), .slice va v'.text.length vc] 50)) (by rfl) (.tmp 17) (.tmp 24) 33 33 (by rfl) (w.heap.size + 1) 50 (.agg #[.bool false, .int .u64 0, .slice none 0 0]) 3 40 Tryz.underlying33 valinfo (by rfl) (.slice a i c) i xs (by rfl) ((HROW.out.below HF3.out.2.2.2).alloc _) (.slice (some ⟨w3.heap.size, 0, none⟩) 1 1) 1 [.bool v'.null, .int .u64 (v'.bits : Int), .slice va v'.text.length vc] (by rfl) (src_val w3 _ _ _ rfl rfl rfl) (by unfold maxLen; omega) (by omega) (by simp; omega) ?_; intro v5 w5 hown' hgrow _ hat; obtain ⟨a5, c5, rfl⟩ := hown'.form; have HST := Aside.mk (fits_step HP1.out.1 HP1.out.2.1 HP1.out.2.2.1 HP1.out.2.2.2.1 HP1.out.2.2.2.2 HF3.out.1 HF3.out.2.1 HF3.out.2.2.2 HF3.out.2.2.1 hgrow hown'); clear hown' hgrow hat))
        all_goals
          go_wp2
          exact ⟨⟨i + 1, a5, c5, by omega, by omega, rfl, by simp, HST⟩, by simp [intOf]; omega⟩
      · obtain rfl : i = 120 := by omega
        go_wp2
        go_ret
        exact fits_end hp.out (by omega)
    · obtain rfl : i = l.length := by omega
      go_wp2
      go_ret
      exact fits_end hp.out (by omega)
end Go.Proofs.YtmhjjhaipcgbiaaGreat
