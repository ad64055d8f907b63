/- Texts of this claim, one behind the other: Fit, FitsL, Kind. -/
import Derived.Test.YtmhjjhaipcgbiaaBakP25
import Derived.Test.YtmhjjhaipcgbiaaBakP18
import Derived.Test.YtmhjjhaipcgbiaaBakP9

namespace Go.Proofs.Ytmhjjhaipcgbiaa
open Go.RowKit
set_option linter.unusedVariables false
set_option linter.unusedSimpArgs false
set_option maxRecDepth 100000
set_option maxHeartbeats 2000000
def FitV (k s : Int) (w : World) (e : Ending) (w' : World) : Prop :=
  ∃ (v : V) (a : Option Addr) (c : Nat), e = .returned (.agg #[.bool v.null, .int .u64 (v.bits : Int), .slice a v.text.length c]) ∧ vOK k s v ∧ v.text.length ≤ 40 ∧ Own w' w.heap.size 5 1 (.slice a v.text.length c) v.text.length (v.text.map (.int .u8)) ∧ Below w.heap.size w w'
theorem fit_four (w : World) (x1 x2 x3 x4 : Array Value) (t1 t2 t3 t4 : TypeId) :
    Below w.heap.size w ((((w.alloc (.cells x1 t1)).alloc (.cells x2 t2)).alloc (.cells x3 t3)).alloc (.cells x4 t4)) ∧
    ((((w.alloc (.cells x1 t1)).alloc (.cells x2 t2)).alloc (.cells x3 t3)).alloc (.cells x4 t4)).heap[w.heap.size]? = some (.cells x1 t1 (0, 0)) ∧
    ((((w.alloc (.cells x1 t1)).alloc (.cells x2 t2)).alloc (.cells x3 t3)).alloc (.cells x4 t4)).heap[w.heap.size + 1]? = some (.cells x2 t2 (0, 0)) ∧
    ((((w.alloc (.cells x1 t1)).alloc (.cells x2 t2)).alloc (.cells x3 t3)).alloc (.cells x4 t4)).heap[w.heap.size + 1 + 1]? = some (.cells x3 t3 (0, 0)) ∧
    ((((w.alloc (.cells x1 t1)).alloc (.cells x2 t2)).alloc (.cells x3 t3)).alloc (.cells x4 t4)).heap[w.heap.size + 1 + 1 + 1]? = some (.cells x4 t4 (0, 0)) := by
  obtain ⟨b3, h1, h2, h3, hs⟩ := three_new w x1 x2 x3 t1 t2 t3
  refine ⟨b3.alloc (by omega) _, ?_, ?_, ?_, ?_⟩
  · rw [Below.heap_alloc _ _ _ (by omega)]; exact h1
  · rw [Below.heap_alloc _ _ _ (by omega)]; exact h2
  · rw [Below.heap_alloc _ _ _ (by omega)]; exact h3
  · have := heap_alloc_new (((w.alloc (.cells x1 t1)).alloc (.cells x2 t2)).alloc (.cells x3 t3)) (.cells x4 t4)
    rw [hs] at this
    exact this
def FitIn (k s : Int) (xs : List Int) (A : SL) (b0 b : Nat) (tv : Value) (w wr : World) : Prop :=
  Below w.heap.size w wr ∧ wr.heap[w.heap.size]? = some (.cells #[.int .i64 k, .int .i64 s] 23 (0, 0)) ∧ wr.heap[w.heap.size + 1]? = some (.cells #[.bool false, .int .u64 (b0 : Int), .slice A.a xs.length A.c] 98 (0, 0)) ∧
  wr.heap[w.heap.size + 1 + 1]? = some (.cells #[.bool false, .int .u64 0, .slice none 0 0] 49 (0, 0)) ∧ wr.heap[w.heap.size + 1 + 1 + 1]? = some (.cells #[.bool false, .int .u64 (b : Int), tv] 49 (0, 0))
theorem FitIn.below {k s : Int} {xs : List Int} {A : SL} {b0 b : Nat} {tv : Value} {w wr w2 : World} (h : FitIn k s xs A b0 b tv w wr) (hb : Below wr.heap.size wr w2) : FitIn k s xs A b0 b tv w w2 := by
  obtain ⟨h1, h2, h3, h4, h5⟩ := h
  exact ⟨h1.trans (hb.mono h1.size), (hb.block _ (lt_of_blk h2)).trans h2, (hb.block _ (lt_of_blk h3)).trans h3, (hb.block _ (lt_of_blk h4)).trans h4, (hb.block _ (lt_of_blk h5)).trans h5⟩
theorem FitIn.setBits {k s : Int} {xs : List Int} {A : SL} {b0 b b2 : Nat} {tv : Value} {w wr : World} (h : FitIn k s xs A b0 b tv w wr) : FitIn k s xs A b0 b2 tv w (wr.setCell ⟨w.heap.size + 1 + 1 + 1, 1, none⟩ (.int .u64 (b2 : Int))) := by
  obtain ⟨h1, h2, h3, h4, h5⟩ := h
  refine ⟨h1.setCell (by simp; omega) _, ?_, ?_, ?_, ?_⟩
  · rw [Below.heap_setCell _ _ _ _ (by simp; omega)]; exact h2
  · rw [Below.heap_setCell _ _ _ _ (by simp)]; exact h3
  · rw [Below.heap_setCell _ _ _ _ (by simp)]; exact h4
  · have := heap_setCell_at (k := 1) h5 (.int .u64 (b2 : Int))
    simpa using this
theorem fit_cells {k s : Int} {xs : List Int} {A : SL} {b0 b : Nat} {tv : Value} {w wr : World} (h : FitIn k s xs A b0 b tv w wr) :
    wr.cell? ⟨w.heap.size, 0, none⟩ = some (.int .i64 k) ∧ wr.cell? ⟨w.heap.size, 1, none⟩ = some (.int .i64 s) ∧ wr.cell? ⟨w.heap.size + 1, 1, none⟩ = some (.int .u64 (b0 : Int)) ∧ wr.cell? ⟨w.heap.size + 1, 2, none⟩ = some (.slice A.a xs.length A.c) ∧
    wr.cell? ⟨w.heap.size + 1 + 1, 0, none⟩ = some (.bool false) ∧ wr.cell? ⟨w.heap.size + 1 + 1, 1, none⟩ = some (.int .u64 0) ∧ wr.cell? ⟨w.heap.size + 1 + 1, 2, none⟩ = some (.slice none 0 0) ∧
    wr.cell? ⟨w.heap.size + 1 + 1 + 1, 0, none⟩ = some (.bool false) ∧ wr.cell? ⟨w.heap.size + 1 + 1 + 1, 1, none⟩ = some (.int .u64 (b : Int)) ∧ wr.cell? ⟨w.heap.size + 1 + 1 + 1, 2, none⟩ = some tv ∧
    (∀ n, wr.frozen? ⟨w.heap.size + 1 + 1, n, none⟩ = false) ∧ (∀ n, wr.frozen? ⟨w.heap.size + 1 + 1 + 1, n, none⟩ = false) := by
  obtain ⟨h1, h2, h3, h4, h5⟩ := h
  refine ⟨?_, ?_, ?_, ?_, ?_, ?_, ?_, ?_, ?_, ?_, fun n => frozen_blk h4, fun n => frozen_blk h5⟩
  · rw [cell_blk h2]; rfl
  · rw [cell_blk h2]; rfl
  · rw [cell_blk h3]; rfl
  · rw [cell_blk h3]; rfl
  · rw [cell_blk h4]; rfl
  · rw [cell_blk h4]; rfl
  · rw [cell_blk h4]; rfl
  · rw [cell_blk h5]; rfl
  · rw [cell_blk h5]; rfl
  · rw [cell_blk h5]; rfl
theorem fit_any (k s : Int) (ho : okType k s = true) (nl : Bool) (b : Nat) (hb : b < 18446744073709551616) (xs : List Int) (hx : IsBytes xs) (A : SL) (hl : xs.length ≤ 9223372036854775807) (w : World) (h : Rd w 1 (.slice A.a xs.length A.c) xs.length (xs.map (.int .u8))) :
    Calls Try.prog 54 #[.agg #[.int .i64 k, .int .i64 s], .agg #[.bool nl, .int .u64 (b : Int), .slice A.a xs.length A.c]] w (FitV k s w) := by
  have HR := Aside.mk h
  have HO := Aside.mk ho
  have HX := Aside.mk hx
  clear h ho hx
  cases nl with
  | true =>
    go_enter Try.func54, Try.ntmps54
    go_wp2
    refine bodyPost_ret (v := .agg #[.bool true, .int .u64 0, .slice none 0 0]) (by simp [results, Try.results54, go_sem]) rfl ?_
    exact ⟨⟨true, 0, []⟩, none, 0, rfl, ⟨isBytes_nil, (show (0 : Nat) < 18446744073709551616 by decide), (fun _ => ⟨rfl, rfl⟩), (fun h => by cases h)⟩, by simp, Own.nil _ _ _ _, (fit_four w _ _ _ _ _ _ _ _).1⟩
  | false =>
    go_enter Try.func54, Try.ntmps54
    go_wp2_with fail
    have HI := Aside.mk (show FitIn k s xs A b 0 (.slice none 0 0) w ((((w.alloc (.cells #[.int .i64 k, .int .i64 s] 23)).alloc (.cells #[.bool false, .int .u64 (b : Int), .slice A.a xs.length A.c] 98)).alloc (.cells #[.bool false, .int .u64 0, .slice none 0 0] 49)).alloc (.cells #[.bool false, .int .u64 0, .slice none 0 0] 49)) from fit_four w _ _ _ _ _ _ _ _)
    generalize ((((w.alloc (.cells #[.int .i64 k, .int .i64 s] 23)).alloc (.cells #[.bool false, .int .u64 (b : Int), .slice A.a xs.length A.c] 98)).alloc (.cells #[.bool false, .int .u64 0, .slice none 0 0] 49)).alloc (.cells #[.bool false, .int .u64 0, .slice none 0 0] 49)) = w4 at *
    cases hwd : wordedB k with
    | true =>
      have HWD := Aside.mk hwd
      have HTW := Aside.mk (fun (w2 : World) a c h => twin_bytes (xs.take 40) ⟨a, c⟩ (by rw [List.length_take]; omega) w2 h)
      have HCT := Aside.mk (fun (w2 : World) h => cut_bytes xs A hl w2 h)
      have HYB := Aside.mk (show IsBytes (xs.take 40) from fun x hx => HX.out x (List.mem_of_mem_take hx))
      have HYL := Aside.mk (show (xs.take 40).length ≤ 40 by rw [List.length_take]; omega)
      generalize xs.take 40 = ys at *
      clear hwd
      go_wp2_with (first | (go_at_call 45; refine (worded_any k s _).mono ?_; rintro e w5 ⟨rfl, hb5⟩; rw [HWD.out]; replace HI := Aside.mk (HI.out.below hb5); obtain ⟨p0, p1, p2, p3, p4, p5, p6, p7, p8, p9, f1, f2⟩ := fit_cells HI.out; clear hb5) | (go_at_call 103; refine (HCT.out _ (HR.out.below HI.out.1)).mono ?_; rintro e w6 ⟨ca, cc, rfl, hrc, rfl⟩; have HRC := Aside.mk hrc; clear hrc) | (go_at_call 102; refine (HTW.out _ _ _ HRC.out).mono ?_; rintro e w7 ⟨ta, tc, rfl, hot, hb7⟩; have HOT := Aside.mk (hot.mono (base' := w.heap.size + 4) (lt_of_blk HI.out.2.2.2.2)); replace HI := Aside.mk (HI.out.below hb7); clear hot hb7 p0 p1 p2 p3 p4 p5 p6 p7 p8 p9 f1 f2; obtain ⟨p0, p1, p2, p3, p4, p5, p6, p7, p8, p9, f1, f2⟩ := fit_cells HI.out))
      refine bodyPost_ret (v := .agg #[.bool false, .int .u64 0, .slice ta ys.length tc]) (by simp [results, Try.results54, go_sem, p4, p5, p6]) rfl ?_
      have hne : ∀ a, a = w.heap.size + 1 + 1 + 1 ∨ a = w.heap.size + 1 + 1 → Value.ownBlock (.slice ta ys.length tc) ≠ some a := fun a ha e => by have := (HOT.out.lt _ e).1; omega
      refine ⟨⟨false, 0, ys⟩, ta, tc, rfl, ⟨HYB.out, (show (0 : Nat) < 18446744073709551616 by decide), (fun h => by cases h), (fun _ => by rw [HWD.out, if_pos rfl])⟩, HYL.out, ?_, ?_⟩
      · exact ((((HOT.out.set_other (a := ⟨w.heap.size + 1 + 1 + 1, 2, none⟩) (hne _ (.inl rfl)) _).set_other (a := ⟨w.heap.size + 1 + 1, 0, none⟩) (hne _ (.inr rfl)) _).set_other (a := ⟨w.heap.size + 1 + 1, 1, none⟩) (hne _ (.inr rfl)) _).set_other (a := ⟨w.heap.size + 1 + 1, 2, none⟩) (hne _ (.inr rfl)) _).mono (by omega)
      · exact (((HI.out.1.setCell (by simp; omega) _).setCell (by simp; omega) _).setCell (by simp; omega) _).setCell (by simp; omega) _
    | false =>
      have HWD := Aside.mk hwd
      clear hwd
      go_wp2_with (go_at_call 45; refine (worded_any k s _).mono ?_; rintro e w5 ⟨rfl, hb5⟩; rw [HWD.out]; replace HI := Aside.mk (HI.out.below hb5); obtain ⟨p0, p1, p2, p3, p4, p5, p6, p7, p8, p9, f1, f2⟩ := fit_cells HI.out; clear hb5)
      have HI2 := Aside.mk (show FitIn k s xs A b (b / 2 ^ 0) (.slice none 0 0) w (w5.setCell ⟨w.heap.size + 1 + 1 + 1, 1, none⟩ (.int .u64 (b : Int))) from by
        have := HI.out.setBits (b2 := b)
        simpa using this)
      clear HI p0 p1 p2 p3 p4 p5 p6 p7 p8 p9 f1 f2
      go_loopw [6] (fun iv wr => ∃ i : Nat, i ≤ 64 ∧ iv = .int .i64 (i : Int) ∧ Aside (FitIn k s xs A b (b / 2 ^ i) (.slice none 0 0) w wr)) (fun iv _ => 64 - (intOf iv).toNat)
      case atStart => exact ⟨0, by omega, rfl, HI2⟩
      case round =>
        clear HI2
        obtain ⟨i, hi, rfl, HI⟩ := hrel
        obtain ⟨p0, p1, p2, p3, p4, p5, p6, p7, p8, p9, f1, f2⟩ := fit_cells HI.out
        have hlt64 : b / 2 ^ i < 18446744073709551616 := Nat.lt_of_le_of_lt (Nat.div_le_self _ _) hb
        have hnext : b / 2 ^ i / 2 = b / 2 ^ (i + 1) := by rw [Nat.div_div_eq_div_mul, Nat.pow_succ]
        have hzero : i = 64 → b / 2 ^ i = 0 := fun h => by rw [h]; exact Nat.div_eq_of_lt hb
        have HN := Aside.mk hnext
        have HZ := Aside.mk hzero
        clear hnext hzero
        have done_ : fitsB k s ((b / 2 ^ i : Nat) : Int) = true → vOK k s ⟨false, b / 2 ^ i, []⟩ := fun h => ⟨isBytes_nil, hlt64, (fun h => by cases h), fun _ => by rw [HWD.out, if_neg (by decide)]; exact ⟨h, rfl⟩⟩
        have HDN := Aside.mk done_
        clear done_
        generalize hx : b / 2 ^ i = x at *
        clear hx
        by_cases h64 : i < 64
        · cases hfit : fitsB k s (x : Int) with
          | true =>
            have HFT := Aside.mk hfit
            clear hfit
            go_wp2_with (go_at_call 15; refine (r18fits_any k s x (by omega) (by omega) _).mono ?_; rintro e w6 ⟨rfl, hb6⟩; rw [HFT.out]; replace HI := Aside.mk (HI.out.below hb6); clear hb6 p0 p1 p2 p3 p4 p5 p6 p7 p8 p9 f1 f2; obtain ⟨p0, p1, p2, p3, p4, p5, p6, p7, p8, p9, f1, f2⟩ := fit_cells HI.out)
            refine bodyPost_ret (v := .agg #[.bool false, .int .u64 (x : Int), .slice none 0 0]) (by simp [results, Try.results54, go_sem, p4, p5, p6]) rfl ?_
            exact ⟨⟨false, x, []⟩, none, 0, rfl, HDN.out HFT.out, by simp, Own.nil _ _ _ _, ((HI.out.1.setCell (by simp; omega) _).setCell (by simp; omega) _).setCell (by simp; omega) _⟩
          | false =>
            have HFT := Aside.mk hfit
            clear hfit
            go_wp2_with (go_at_call 15; refine (r18fits_any k s x (by omega) (by omega) _).mono ?_; rintro e w6 ⟨rfl, hb6⟩; rw [HFT.out]; replace HI := Aside.mk (HI.out.below hb6); clear hb6 p0 p1 p2 p3 p4 p5 p6 p7 p8 p9 f1 f2; obtain ⟨p0, p1, p2, p3, p4, p5, p6, p7, p8, p9, f1, f2⟩ := fit_cells HI.out)
            have hnx := HI.out.setBits (b2 := b / 2 ^ (i + 1))
            rw [← HN.out] at hnx
            refine ⟨⟨i + 1, by omega, by simp, ⟨?_⟩⟩, by simp [intOf]; omega⟩
            rw [← HN.out]
            simpa using hnx
        · obtain rfl : i = 64 := by omega
          have hx0 := HZ.out rfl
          subst hx0
          have HFT := Aside.mk (fits_zero HO.out HWD.out)
          go_wp2
          refine bodyPost_ret (v := .agg #[.bool false, .int .u64 0, .slice none 0 0]) (by simp [results, Try.results54, go_sem, p4, p5, p6]) rfl ?_
          exact ⟨⟨false, 0, []⟩, none, 0, rfl, HDN.out HFT.out, by simp, Own.nil _ _ _ _, ((HI.out.1.setCell (by simp; omega) _).setCell (by simp; omega) _).setCell (by simp; omega) _⟩
end Go.Proofs.Ytmhjjhaipcgbiaa


namespace Go.Proofs.Ytmhjjhaipcgbiaa
open Go.RowKit
set_option linter.unusedVariables false
set_option linter.unusedSimpArgs false
set_option maxRecDepth 100000
set_option maxHeartbeats 2000000
theorem valinfo : (Try.prog.info? 49).map (fun i => (i.zero, i.size, i.bytes)) = some (some (.agg #[.bool false, .int .u64 0, .slice none 0 0]), 3, 40) := by kernel_rfl
structure OwnVs (w : World) (base : Nat) (A : SL) (l : List V) (xs : List Value) : Prop where
  row : Own w base 49 3 (.slice A.a l.length A.c) l.length xs
  each : ∀ (i : Nat) v, l[i]? = some v → ∃ ta tc, xs[i * 3]? = some (.bool v.null) ∧ xs[i * 3 + 1]? = some (.int .u64 (v.bits : Int)) ∧ xs[i * 3 + 2]? = some (.slice ta v.text.length tc) ∧ Own w base 5 1 (.slice ta v.text.length tc) v.text.length (v.text.map (.int .u8))
theorem OwnVs.rd {w : World} {base : Nat} {A : SL} {l : List V} {xs : List Value} (h : OwnVs w base A l xs) : RdVs w A l :=
  ⟨xs, h.row.rd, fun i v hi => by obtain ⟨ta, tc, a, b, c, d⟩ := h.each i v hi; exact ⟨ta, tc, a, b, c, d.rd⟩⟩
theorem OwnVs.kept {w w' : World} {base : Nat} {A : SL} {l : List V} {xs : List Value} {S : Nat → Prop} (h : OwnVs w base A l xs) (hk : Kept S w w') (hS : ∀ b, base ≤ b → b < w.heap.size → ¬ S b) : OwnVs w' base A l xs :=
  ⟨h.row.kept hk (fun b e => hS b (h.row.lt b e).1 (h.row.lt b e).2), fun i v hi => by obtain ⟨ta, tc, a, b, c, d⟩ := h.each i v hi; exact ⟨ta, tc, a, b, c, d.kept hk (fun x e => hS x (d.lt x e).1 (d.lt x e).2)⟩⟩
theorem OwnVs.below {w w' : World} {base : Nat} {A : SL} {l : List V} {xs : List Value} (h : OwnVs w base A l xs) (hb : Below w.heap.size w w') : OwnVs w' base A l xs :=
  h.kept (Kept.of_below (S := fun _ => False) hb) (fun _ _ _ e => e)
theorem get3 (x0 x1 x2 : Value) : ∀ (j : Nat) (u : Value), [x0, x1, x2][j]? = some u → j = 0 ∧ u = x0 ∨ j = 1 ∧ u = x1 ∨ j = 2 ∧ u = x2
  | 0, u, h => by simp at h; exact .inl ⟨rfl, h.symm⟩
  | 1, u, h => by simp at h; exact .inr (.inl ⟨rfl, h.symm⟩)
  | 2, u, h => by simp at h; exact .inr (.inr ⟨rfl, h.symm⟩)
  | n + 3, u, h => by simp at h
theorem src_val (w : World) (x0 x1 x2 : Value) (h0 : x0.oneCell' = true) (h1 : x1.oneCell' = true) (h2 : x2.oneCell' = true) : Src Try.prog 3 35 (.slice (some ⟨w.heap.size, 0, none⟩) 1 1) 1 [x0, x1, x2] (w.alloc (.cells #[x0, x1, x2] 49)) := by
  refine Src.ofSlice _ Try.underlying35 _ 1 1 [x0, x1, x2] rfl (fun j u hu => ?_) (by simp [h0, h1, h2])
  rw [addr_add, cell_blk (heap_alloc_new w _)]
  rcases get3 x0 x1 x2 j u hu with ⟨rfl, rfl⟩ | ⟨rfl, rfl⟩ | ⟨rfl, rfl⟩ <;> rfl
end Go.Proofs.Ytmhjjhaipcgbiaa


namespace Go.Proofs.Ytmhjjhaipcgbiaa
open Go.RowKit
set_option linter.unusedVariables false
set_option linter.unusedSimpArgs false
set_option maxRecDepth 100000
set_option maxHeartbeats 1000000
theorem tm_neg (n m : Int) (hm : 0 < m) (h : n.tmod m < 0) : n % m = n.tmod m + m ∧ -m < n.tmod m := by
  rw [Int.tmod_eq_emod] at *
  have := Int.emod_nonneg n (show m ≠ 0 by omega)
  have := Int.emod_lt_of_pos n hm
  split at h
  · omega
  · rename_i h2
    rw [if_neg h2]
    have : ((m.natAbs : Nat) : Int) = m := Int.natAbs_of_nonneg (by omega)
    have h3 : n % m ≠ 0 := fun e => h2 (.inr (Int.dvd_of_emod_eq_zero e))
    omega
theorem tm_pos (n m : Int) (hm : 0 < m) (h : ¬ n.tmod m < 0) : n % m = n.tmod m ∧ n.tmod m < m := by
  rw [Int.tmod_eq_emod] at *
  have := Int.emod_nonneg n (show m ≠ 0 by omega)
  have := Int.emod_lt_of_pos n hm
  split at h
  · rename_i h2
    rw [if_pos h2]
    omega
  · rename_i h2
    have : ((m.natAbs : Nat) : Int) = m := Int.natAbs_of_nonneg (by omega)
    omega
def withinI (n lo hi : Int) : Int := lo + n % (hi - lo + 1)
theorem within_any (n lo hi : Int) (h0 : 0 ≤ lo) (h1 : lo ≤ hi) (h2 : hi ≤ 1000000) (w : World) : Calls Try.prog 21 #[.int .i64 n, .int .i64 lo, .int .i64 hi] w fun e w' => e = .returned (.int .i64 (withinI n lo hi)) ∧ w = w' := by
  have hm1' : 0 < hi - lo + 1 := by omega
  by_cases ht : n.tmod (hi - lo + 1) < 0
  · have hb := tm_neg n _ hm1' ht
    have hb1 : -1000001 < n.tmod (hi - lo + 1) := by omega
    have hb := Aside.mk hb
    go_enter Try.func21, Try.ntmps21
    go_wp2
    go_ret
    refine ⟨ret_int ?_, rfl⟩
    have := hb.out
    unfold withinI
    omega
  · have hb := tm_pos n _ hm1' ht
    have hb1 : n.tmod (hi - lo + 1) < 1000001 := by omega
    have hb := Aside.mk hb
    go_enter Try.func21, Try.ntmps21
    go_wp2
    go_ret
    refine ⟨ret_int ?_, rfl⟩
    have := hb.out
    unfold withinI
    omega
end Go.Proofs.Ytmhjjhaipcgbiaa
