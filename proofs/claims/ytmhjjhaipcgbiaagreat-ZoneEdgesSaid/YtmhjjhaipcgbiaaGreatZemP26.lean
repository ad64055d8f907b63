/- Texts of this claim, one behind the other: RB, Zt, Zv. -/
import Derived.Test.YtmhjjhaipcgbiaaGreatZemP23
import Derived.Test.YtmhjjhaipcgbiaaGreatZemP24
import Derived.Test.YtmhjjhaipcgbiaaGreatZemP25
import Derived.Test.YtmhjjhaipcgbiaaGreatZemP5
import Derived.Test.YtmhjjhaipcgbiaaGreatZemP6
import Derived.Test.YtmhjjhaipcgbiaaGreatZemP19
import Derived.Lib.Bytealg
import Derived.Lib.BytesEntry
import Derived.Test.YtmhjjhaipcgbiaaGreatZemP20

namespace Go.Proofs.YtmhjjhaipcgbiaaGreat
open Go.RowKit
set_option linter.unusedVariables false
set_option linter.unusedSimpArgs false
set_option maxRecDepth 100000
set_option maxHeartbeats 1000000
structure RBx (w : World) (R : Nat → Prop) (rb : Nat) (k s : Int) (l : List V) (A : SL) (xs : List Value) : Prop where
  blk : w.heap[rb]? = some (.cells #[.int .i64 k, .int .i64 s, .slice A.a l.length A.c] 35 (0, 0))
  sb : R rb
  row : Own w 0 50 3 (.slice A.a l.length A.c) l.length xs
  sr : ∀ b, (Value.slice A.a l.length A.c).ownBlock = some b → R b
  each : ∀ (i : Nat) v, l[i]? = some v → ∃ ta tc, xs[i * 3]? = some (.bool v.null) ∧ xs[i * 3 + 1]? = some (.int .u64 (v.bits : Int)) ∧ xs[i * 3 + 2]? = some (.slice ta v.text.length tc) ∧
    Own w 0 5 1 (.slice ta v.text.length tc) v.text.length (v.text.map (.int .u8)) ∧ ∀ b, (Value.slice ta v.text.length tc).ownBlock = some b → R b
def RB (w : World) (R : Nat → Prop) (rb : Nat) (k s : Int) (l : List V) : Prop := ∃ A xs, RBx w R rb k s l A xs
theorem RBx.kept {w w' : World} {R Q : Nat → Prop} {rb : Nat} {k s : Int} {l : List V} {A : SL} {xs : List Value} (h : RBx w R rb k s l A xs) (hk : Kept Q w w') (hR : ∀ b, R b → b < w.heap.size → ¬ Q b) : RBx w' R rb k s l A xs := by
  refine ⟨(hk.block _ (lt_of_blk h.blk) (hR rb h.sb (lt_of_blk h.blk))).trans h.blk, h.sb, h.row.kept hk (fun b e => hR b (h.sr b e) (h.row.lt b e).2), h.sr, fun i v hi => ?_⟩
  obtain ⟨ta, tc, q0, q1, q2, q3, q4⟩ := h.each i v hi
  exact ⟨ta, tc, q0, q1, q2, q3.kept hk (fun b e => hR b (q4 b e) (q3.lt b e).2), q4⟩
theorem RB.kept {w w' : World} {R Q : Nat → Prop} {rb : Nat} {k s : Int} {l : List V} (h : RB w R rb k s l) (hk : Kept Q w w') (hR : ∀ b, R b → b < w.heap.size → ¬ Q b) : RB w' R rb k s l := by
  obtain ⟨A, xs, h⟩ := h
  exact ⟨A, xs, h.kept hk hR⟩
theorem RBx.below {w w' : World} {R : Nat → Prop} {rb : Nat} {k s : Int} {l : List V} {A : SL} {xs : List Value} (h : RBx w R rb k s l A xs) (hb : Below w.heap.size w w') : RBx w' R rb k s l A xs :=
  h.kept (Kept.of_below (S := fun _ => False) hb) (fun _ _ _ e => e)
theorem RB.below {w w' : World} {R : Nat → Prop} {rb : Nat} {k s : Int} {l : List V} (h : RB w R rb k s l) (hb : Below w.heap.size w w') : RB w' R rb k s l :=
  h.kept (Kept.of_below (S := fun _ => False) hb) (fun _ _ _ e => e)
theorem RB.mono {w : World} {R R' : Nat → Prop} {rb : Nat} {k s : Int} {l : List V} (h : RB w R rb k s l) (hR : ∀ b, R b → b < w.heap.size → R' b) : RB w R' rb k s l := by
  obtain ⟨A, xs, h⟩ := h
  refine ⟨A, xs, h.blk, hR rb h.sb (lt_of_blk h.blk), h.row, fun b e => hR b (h.sr b e) (h.row.lt b e).2, fun i v hi => ?_⟩
  obtain ⟨ta, tc, q0, q1, q2, q3, q4⟩ := h.each i v hi
  exact ⟨ta, tc, q0, q1, q2, q3, fun b e => hR b (q4 b e) (q3.lt b e).2⟩
theorem RBx.vals {w : World} {R : Nat → Prop} {rb : Nat} {k s : Int} {l : List V} {A : SL} {xs : List Value} (h : RBx w R rb k s l A xs) : RdVs w A l :=
  ⟨xs, h.row.rd, fun i v hi => by obtain ⟨ta, tc, q0, q1, q2, q3, _⟩ := h.each i v hi; exact ⟨ta, tc, q0, q1, q2, q3.rd⟩⟩
theorem RBx.cells {w : World} {R : Nat → Prop} {rb : Nat} {k s : Int} {l : List V} {A : SL} {xs : List Value} (h : RBx w R rb k s l A xs) :
    w.cell? ⟨rb, 0, none⟩ = some (.int .i64 k) ∧ w.cell? ⟨rb, 1, none⟩ = some (.int .i64 s) ∧ w.cell? ⟨rb, 2, none⟩ = some (.slice A.a l.length A.c) ∧ ∀ k, w.frozen? ⟨rb, k, none⟩ = false := by
  refine ⟨?_, ?_, ?_, fun k => frozen_blk h.blk⟩ <;> (rw [cell_blk h.blk]; rfl)
theorem byteinfoR : (Tryz.prog.info? 5).map (fun i => (i.zero, i.size, i.bytes)) = some (some (.int .u8 0), 1, 1) := by kernel_rfl
end Go.Proofs.YtmhjjhaipcgbiaaGreat


namespace Go.Proofs.YtmhjjhaipcgbiaaGreat
open Go.RowKit
set_option linter.unusedVariables false
set_option linter.unusedSimpArgs false
set_option maxRecDepth 100000
set_option maxHeartbeats 1000000
def toB (l : List Int) : List UInt8 := (strOfNums l).data.toList
def cmpT (a b : List Int) : Int := Lib.compareBytes (toB a) (toB b)
theorem less_cmp : ∀ (x y : List UInt8), (Op.bytesLess x y = true ↔ Lib.compareBytes x y = -1) ∧ (x = y ↔ Lib.compareBytes x y = 0) ∧ (Lib.compareBytes x y = -1 ∨ Lib.compareBytes x y = 0 ∨ Lib.compareBytes x y = 1)
  | [], [] => by simp [Op.bytesLess, Lib.compareBytes]
  | [], _ :: _ => by simp [Op.bytesLess, Lib.compareBytes]
  | _ :: _, [] => by simp [Op.bytesLess, Lib.compareBytes]
  | a :: x, b :: y => by
    obtain ⟨h1, h2, h3⟩ := less_cmp x y
    simp only [Op.bytesLess, Lib.compareBytes, Bool.or_eq_true, Bool.and_eq_true, decide_eq_true_eq, beq_iff_eq, List.cons.injEq]
    by_cases hab : a < b
    · have hne : a ≠ b := UInt8.ne_of_lt hab
      simp [hab, hne]
    · by_cases hba : b < a
      · have hne : a ≠ b := Ne.symm (UInt8.ne_of_lt hba)
        simp [hab, hba, hne]
      · have he : a = b := UInt8.le_antisymm (UInt8.not_lt.1 hba) (UInt8.not_lt.1 hab)
        subst he
        have hlt : ¬ a < a := UInt8.lt_irrefl a
        simp only [hlt, if_false, false_or, true_and]
        exact ⟨h1, h2, h3⟩
theorem str_less (x y : List Int) : Op.bytesLess (strOfNums x).toList (strOfNums y).toList = decide (cmpT x y = -1) := by
  rw [Bool.eq_iff_iff, decide_eq_true_eq, Lib.strOfNums_toList, Lib.strOfNums_toList]
  exact (less_cmp _ _).1
theorem str_eqT (x y : List Int) : ((strOfNums x).toList == (strOfNums y).toList) = decide (cmpT x y = 0) := by
  rw [Bool.eq_iff_iff, beq_iff_eq, decide_eq_true_eq, Lib.strOfNums_toList, Lib.strOfNums_toList]
  exact (less_cmp _ _).2.1
theorem cmpT_range (x y : List Int) : cmpT x y = -1 ∨ cmpT x y = 0 ∨ cmpT x y = 1 := (less_cmp _ _).2.2
theorem run_bytesOf {w : World} {a : Option Addr} {n c : Nat} {xs : List Int} (h : Rd w 1 (.slice a n c) n (xs.map (.int .u8))) : (Extern.Bytes.bytesOf (.slice a n c)).run Tryz.prog w = .ok (strOfNums xs) w := by
  have hl : n = xs.length := by have := h.len; simpa using this.symm
  subst hl
  cases a with
  | none =>
    obtain ⟨a', c', e, _, _, h3, _⟩ := h.shape
    simp only [Value.slice.injEq] at e
    obtain ⟨rfl, _, rfl⟩ := e
    have := (h3 rfl).1
    have hx : xs = [] := List.eq_nil_of_length_eq_zero this
    subst hx
    simp only [Extern.Bytes.bytesOf, Sem.run_pure]
    rfl
  | some p =>
    have hc : ∀ j x, xs[j]? = some x → w.cell? (p.add j) = some (.int .u8 x) := fun j x hx => by
      obtain ⟨a', c', e, _, _, h3, h4⟩ := h.shape
      simp only [Value.slice.injEq] at e
      obtain ⟨rfl, _, rfl⟩ := e
      obtain ⟨b, off, e2, hcell⟩ := h4 j (.int .u8 x) (by rw [List.getElem?_map, hx]; rfl)
      cases e2
      rw [addr_add]; exact hcell
    show (Extern.Bytes.loadBytes p xs.length .empty).run Tryz.prog w = _
    rw [Lib.run_loadBytesX (P := Tryz.prog) w xs p .empty hc]
    have e : (ByteArray.empty.data ++ (Lib.bytesOf xs).toArray) = (Lib.bytesOf xs).toArray := by show (#[] : Array UInt8) ++ _ = _; simp
    rw [e]
    rfl
theorem run_compareSl {w : World} {a b : Option Addr} {n c m d : Nat} {xs ys : List Int} (h : Rd w 1 (.slice a n c) n (xs.map (.int .u8))) (h2 : Rd w 1 (.slice b m d) m (ys.map (.int .u8))) :
    (Extern.BytealgCompare.compare #[.slice a n c, .slice b m d]).run Tryz.prog w = .ok (.int .i64 (cmpT xs ys)) w := by
  change Sem.run Tryz.prog (do pure (goInt (Extern.BytealgCompare.cmp (← Extern.Bytes.bytesOf (.slice a n c)) (← Extern.Bytes.bytesOf (.slice b m d))))) w = _
  simp only [Sem.run_bind, run_bytesOf h, run_bytesOf h2, Sem.run_pure, Result.andThen]
  rw [Lib.cmp_eq]
  rfl
theorem bcompare_any (xs ys : List Int) (A B : SL) (w : World) (h : Rd w 1 (.slice A.a xs.length A.c) xs.length (xs.map (.int .u8))) (h2 : Rd w 1 (.slice B.a ys.length B.c) ys.length (ys.map (.int .u8))) :
    Calls Tryz.prog 160 #[.slice A.a xs.length A.c, .slice B.a ys.length B.c] w fun e w' => e = .returned (.int .i64 (cmpT xs ys)) ∧ w = w' := by
  have HR := Aside.mk (run_compareSl h h2)
  clear h h2
  go_enter Tryz.func160, Tryz.ntmps160
  go_wp2
  rw [run_callFunc_extern Tryz.func187 (by kernel_rfl) (by kernel_rfl) (by kernel_rfl) (e := Extern.BytealgCompare.compare) (by kernel_rfl), HR.out]
  simp only [Result.andThen]
  rw [Oper.upon_value]
  go_wp2
  go_ret
  exact ⟨rfl, rfl⟩
def BCloneP (xs : List Int) (w : World) (e : Ending) (w' : World) : Prop := ∃ a c, e = .returned (.slice a xs.length c) ∧ Own w' w.heap.size 5 1 (.slice a xs.length c) xs.length (xs.map (.int .u8)) ∧ Below w.heap.size w w'
theorem bclone_any (xs : List Int) (A : SL) (hl : xs.length ≤ 100000000) (w : World) (h : Rd w 1 (.slice A.a xs.length A.c) xs.length (xs.map (.int .u8))) : Calls Tryz.prog 102 #[.slice A.a xs.length A.c] w (BCloneP xs w) := by
  obtain ⟨a, c⟩ := A
  have hsh := h.shape
  obtain ⟨a', c', e, q1, q2, q3, q4⟩ := hsh
  simp only [Value.slice.injEq, true_and] at e
  obtain ⟨rfl, rfl⟩ := e
  cases a with
  | none =>
    obtain ⟨h1, h2⟩ := q3 rfl
    have hx : xs = [] := List.eq_nil_of_length_eq_zero h1
    subst hx
    subst h2
    clear h q1 q2 q3 q4
    simp only [List.length_nil]
    have hne : ∀ W, (binOp .eql 43 (.slice none 0 0) (.slice none 0 0)).run Tryz.prog W = .ok (.bool true) W := fun W => by kernel_rfl
    go_enter Tryz.func102, Tryz.ntmps102
    go_wp2
    go_ret
    exact ⟨none, 0, rfl, Own.nil _ _ _ _, Below.refl _ _⟩
  | some p =>
    have HR := Aside.mk h
    clear q1 q2 q3 q4 h
    generalize hn : xs.length = n at *
    have HB0 := Aside.mk (below_new w (.cells #[] 5))
    have HS := Aside.mk ((HR.out.below HB0.out).src (P := Tryz.prog) Tryz.underlying43 (one_map (fun x : Int => Value.int .u8 x) (fun _ => rfl) xs))
    have hne : ∀ W, (binOp .eql 43 (.slice (some p) n c) (.slice none 0 0)).run Tryz.prog W = .ok (.bool false) W := fun W => by kernel_rfl
    go_enter Tryz.func102, Tryz.ntmps102
    go_wp2_with (at_builtin; refine wpList_app2 _ rfl _ _ 43 43 rfl w.heap.size 5 (.int .u8 0) 1 1 Tryz.underlying43 byteinfoR rfl _ 0 [] rfl (own_empty w w.heap.size _ _ _ rfl (Nat.le_refl _)) _ n (xs.map (.int .u8)) rfl HS.out (by unfold maxLen; omega) (by omega) (by simp) ?_)
    intro v5 w5 hA
    obtain ⟨a5, c5, rfl⟩ := hA.own.form
    have ho := hA.own
    rw [Nat.zero_add, List.nil_append] at ho
    rw [Nat.zero_add]
    have HO := Aside.mk ho
    have HB := Aside.mk (HB0.out.trans ((Kept.of_grown hA.grown).to_below (B := w.heap.size) (by simp) (fun k e => by cases e; exact Nat.le_refl _)))
    clear hA ho
    go_wp2
    go_ret
    exact ⟨a5, c5, by rw [hn]; rfl, by rw [hn]; exact HO.out, HB.out⟩
end Go.Proofs.YtmhjjhaipcgbiaaGreat


namespace Go.Proofs.YtmhjjhaipcgbiaaGreat
open Go.RowKit
set_option linter.unusedVariables false
set_option linter.unusedSimpArgs false
set_option maxRecDepth 100000
set_option maxHeartbeats 4000000
def keyI (k b : Int) : Int := if k = 9 then keyF 2147483648 b else if k = 10 then keyF 9223372036854775808 b else if k = 11 then b else if k = 12 ∨ k = 13 ∨ k = 14 then wrap64 b else keyW k b
def oddB (k b : Int) : Bool := if k = 9 then nan32 b else if k = 10 then nan64 b else false
def cmpV (k : Int) (a b : V) : Int := if wordedB k then cmpT a.text b.text else cmpS (keyI k a.bits) (keyI k b.bits)
structure PlainI (k b : Int) : Prop where
  lo : 0 ≤ b
  hi : b ≤ 18446744073709551615
  fit : bitsOK k b = true
  even : oddB k b = false
theorem kinds16 {k : Int} (h : 1 ≤ k ∧ k ≤ 16) : (1 ≤ k ∧ k ≤ 8) ∨ k = 9 ∨ k = 10 ∨ k = 11 ∨ k = 12 ∨ k = 13 ∨ k = 14 ∨ k = 15 ∨ k = 16 := by omega
theorem fit_w {k b : Int} (hk : 1 ≤ k ∧ k ≤ 8) (h : bitsOK k b = true) : b ≤ maxOf (wbits k) := by
  unfold bitsOK at h
  rw [if_neg (by omega), if_neg (by omega), if_neg (by omega), if_neg (by omega), if_neg (by omega), if_neg (by omega), if_neg (by omega)] at h
  simpa using h
theorem fit_32 {b : Int} (h : bitsOK 9 b = true) : b < 4294967296 := by
  unfold bitsOK f32OK at h
  simp at h
  exact h.1
theorem wcmp_no (k a b : Int) (h : k < 1 ∨ 8 < k) (w : World) : Calls Tryz.prog 174 #[.int .i64 k, .int .u64 a, .int .u64 b] w fun e w' => e = .returned (.tuple #[.int .i64 0, .int .i64 50]) ∧ Below w.heap.size w w' := by
  have HW := Aside.mk (fun W => wwidth_no k W h)
  clear h
  go_enter Tryz.func174, Tryz.ntmps174
  go_wp2_with (go_at_call 184; refine (HW.out _).mono ?_; rintro e w1 ⟨rfl, hb1⟩; have B1 := Aside.mk hb1; clear hb1)
  go_ret2
  exact ⟨rfl, B1.out⟩
theorem wcmp_any (k a b : Int) (hk : 1 ≤ k ∧ k ≤ 8) (ha0 : 0 ≤ a) (ha : a ≤ maxOf (wbits k)) (hb0 : 0 ≤ b) (hb : b ≤ maxOf (wbits k)) (w : World) : Calls Tryz.prog 174 #[.int .i64 k, .int .u64 a, .int .u64 b] w fun e w' => e = .returned (.tuple #[.int .i64 (cmpS (keyW k a) (keyW k b)), .int .i64 0]) ∧ Below w.heap.size w w' := by
  by_cases h : k ≤ 4
  · exact wcmp_s k a b ⟨hk.1, h⟩ ha0 ha hb0 hb w
  · exact wcmp_u k a b ⟨by omega, hk.2⟩ ha hb w
theorem class_no (k b : Int) (h9 : (9 == k) = false) (h10 : (10 == k) = false) (w : World) : Calls Tryz.prog 136 #[.int .i64 k, .int .u64 b] w fun e w' => e = .returned (.tuple #[.int .i64 0, .int .i64 30]) ∧ Below w.heap.size w w' := by
  have HO := Aside.mk (fun W => own_no k b h9 h10 W)
  clear h9 h10
  go_enter Tryz.func136, Tryz.ntmps136
  go_wp2_with (go_at_call 176; refine (HO.out _).mono ?_; rintro e w1 ⟨rfl, hb1⟩; have B1 := Aside.mk hb1; clear hb1)
  go_ret2
  have hz := B1.out.size
  have B1' := B1.out
  exact ⟨rfl, (by repeat (first | exact Below.refl _ _ | assumption | (refine Below.drew ?_) | (refine Below.trans ?_ (below_drewN _ _ _)) | (refine Below.alloc ?_ (by first | omega | (simp; done) | (simp; omega)) _) | (refine Below.setCell ?_ (by first | omega | (simp; done) | (simp; omega)) _)))⟩
theorem texts_any (k s : Int) (w : World) : Calls Tryz.prog 99 #[.agg #[.int .i64 k, .int .i64 s]] w (BoolP (wordedB k) w) := by
  have hb := Aside.mk (below_new w (.cells #[.int .i64 k, .int .i64 s] 23))
  by_cases h15 : k = 15
  · subst h15
    go_enter Tryz.func99, Tryz.ntmps99
    go_wp2
    go_ret
    exact ⟨rfl, hb.out⟩
  · have h1 : (k == 15) = false := by simpa using h15
    have HW := Aside.mk (show (k == 16) = wordedB k by unfold wordedB; simp [h15])
    clear h15
    go_enter Tryz.func99, Tryz.ntmps99
    go_wp2
    go_ret
    exact ⟨ret_bool HW.out, hb.out⟩
theorem odd_any (k s b : Int) (h0 : 0 ≤ b) (h1 : b ≤ 18446744073709551615) (hf : k = 9 → b < 4294967296) (w : World) : Calls Tryz.prog 100 #[.agg #[.int .i64 k, .int .i64 s], .int .u64 b] w (BoolP (oddB k b) w) := by
  have hb := Aside.mk (below_new w (.cells #[.int .i64 k, .int .i64 s] 23))
  by_cases h9 : k = 9
  · subst h9
    have HC := Aside.mk (fun W => cls_32 b h0 (hf rfl) W)
    have HE := Aside.mk (show oddB 9 b = nan32 b from rfl)
    rw [HE.out]
    generalize nan32 b = n at *
    clear hf h0 h1
    go_enter Tryz.func100, Tryz.ntmps100
    go_wp2_with (go_at_call 136; refine (HC.out _).mono ?_; rintro e w1 ⟨c, rfl, hc, hb1⟩; have B1 := Aside.mk (below_chain hb.out hb1); have HQ := Aside.mk hc; clear hb1 hc)
    go_ret
    exact ⟨ret_bool HQ.out, B1.out⟩
  · by_cases h10 : k = 10
    · subst h10
      have HC := Aside.mk (fun W => cls_64 b h0 h1 W)
      have HE := Aside.mk (show oddB 10 b = nan64 b from rfl)
      rw [HE.out]
      generalize nan64 b = n at *
      clear hf h0 h1
      go_enter Tryz.func100, Tryz.ntmps100
      go_wp2_with (go_at_call 136; refine (HC.out _).mono ?_; rintro e w1 ⟨c, rfl, hc, hb1⟩; have B1 := Aside.mk (below_chain hb.out hb1); have HQ := Aside.mk hc; clear hb1 hc)
      go_ret
      exact ⟨ret_bool HQ.out, B1.out⟩
    · have HC := Aside.mk (fun W => class_no k b (by simp; omega) (by simp; omega) W)
      have HE := Aside.mk (show false = oddB k b by unfold oddB; rw [if_neg h9, if_neg h10])
      clear hf h0 h1 h9 h10
      go_enter Tryz.func100, Tryz.ntmps100
      go_wp2_with (go_at_call 136; refine (HC.out _).mono ?_; rintro e w1 ⟨rfl, hb1⟩; have B1 := Aside.mk (below_chain hb.out hb1); clear hb1)
      go_ret
      exact ⟨ret_bool HE.out, B1.out⟩
theorem zorder_any (k s a b : Int) (hk : 1 ≤ k ∧ k ≤ 16) (h : wordedB k = false → PlainI k a ∧ PlainI k b) (w : World) : Calls Tryz.prog 128 #[.agg #[.int .i64 k, .int .i64 s], .int .u64 a, .int .u64 b] w (IntP (if wordedB k then 0 else cmpS (keyI k a) (keyI k b)) w) := by
  have hb := Aside.mk (below_new w (.cells #[.int .i64 k, .int .i64 s] 23))
  obtain hw | rfl | rfl | rfl | rfl | rfl | rfl | rfl | rfl := kinds16 hk
  · have ew : wordedB k = false := by unfold wordedB; simp; omega
    obtain ⟨pa, pb⟩ := h ew
    have HC := Aside.mk (fun W => wcmp_any k a b hw pa.lo (fit_w hw pa.fit) pb.lo (fit_w hw pb.fit) W)
    have e1 : keyI k a = keyW k a := by unfold keyI; rw [if_neg (by omega), if_neg (by omega), if_neg (by omega), if_neg (by omega)]
    have e2 : keyI k b = keyW k b := by unfold keyI; rw [if_neg (by omega), if_neg (by omega), if_neg (by omega), if_neg (by omega)]
    rw [ew, if_neg (by decide), e1, e2]
    have q9 : (k == 9) = false := by simp; omega
    have q10 : (k == 10) = false := by simp; omega
    have q11 : (k == 11) = false := by simp; omega
    have q12 : (k == 12) = false := by simp; omega
    have q13 : (k == 13) = false := by simp; omega
    have q14 : (k == 14) = false := by simp; omega
    clear h hk pa pb ew e1 e2 hw
    generalize cmpS (keyW k a) (keyW k b) = r at *
    go_enter Tryz.func128, Tryz.ntmps128
    go_wp2_with (go_at_call 174; refine (HC.out _).mono ?_; rintro e w1 ⟨rfl, hb1⟩; have B1 := Aside.mk (below_chain hb.out hb1); clear hb1)
    go_ret
    exact ⟨rfl, B1.out⟩
  · obtain ⟨pa, pb⟩ := h rfl
    have HC := Aside.mk (fun W => fcmp_32 a b pa.lo (fit_32 pa.fit) pa.even pb.lo (fit_32 pb.fit) pb.even W)
    clear pa pb h hk
    show Calls Tryz.prog 128 _ _ (IntP (cmpS (keyF 2147483648 a) (keyF 2147483648 b)) w)
    generalize cmpS (keyF 2147483648 a) (keyF 2147483648 b) = r at *
    go_enter Tryz.func128, Tryz.ntmps128
    go_wp2_with (go_at_call 171; refine (HC.out _).mono ?_; rintro e w1 ⟨rfl, hb1⟩; have B1 := Aside.mk (below_chain hb.out hb1); clear hb1)
    go_ret
    exact ⟨rfl, B1.out⟩
  · obtain ⟨pa, pb⟩ := h rfl
    have HC := Aside.mk (fun W => fcmp_64 a b pa.lo pa.hi pa.even pb.lo pb.hi pb.even W)
    clear pa pb h hk
    show Calls Tryz.prog 128 _ _ (IntP (cmpS (keyF 9223372036854775808 a) (keyF 9223372036854775808 b)) w)
    generalize cmpS (keyF 9223372036854775808 a) (keyF 9223372036854775808 b) = r at *
    go_enter Tryz.func128, Tryz.ntmps128
    go_wp2_with (go_at_call 171; refine (HC.out _).mono ?_; rintro e w1 ⟨rfl, hb1⟩; have B1 := Aside.mk (below_chain hb.out hb1); clear hb1)
    go_ret
    exact ⟨rfl, B1.out⟩
  · obtain ⟨pa, pb⟩ := h rfl
    have HC := Aside.mk (fun W => compare_u a b W)
    clear pa pb h hk
    show Calls Tryz.prog 128 _ _ (IntP (cmpS (a) (b)) w)
    generalize cmpS (a) (b) = r at *
    go_enter Tryz.func128, Tryz.ntmps128
    go_wp2_with (go_at_call 172; refine (HC.out _).mono ?_; rintro e w1 ⟨rfl, rfl⟩)
    go_ret
    exact ⟨rfl, hb.out⟩
  · obtain ⟨pa, pb⟩ := h rfl
    have HC := Aside.mk (fun W => compare_i (wrap64 a) (wrap64 b) W)
    have ea : IntKind.i64.wrap a = wrap64 a := IntWalk.i64_left a
    have eb : IntKind.i64.wrap b = wrap64 b := IntWalk.i64_left b
    clear pa pb h hk
    show Calls Tryz.prog 128 _ _ (IntP (cmpS (wrap64 a) (wrap64 b)) w)
    generalize cmpS (wrap64 a) (wrap64 b) = r at *
    go_enter Tryz.func128, Tryz.ntmps128
    go_wp2_with (go_at_call 173; refine (HC.out _).mono ?_; rintro e w1 ⟨rfl, rfl⟩)
    go_ret
    exact ⟨rfl, hb.out⟩
  · obtain ⟨pa, pb⟩ := h rfl
    have HC := Aside.mk (fun W => compare_i (wrap64 a) (wrap64 b) W)
    have ea : IntKind.i64.wrap a = wrap64 a := IntWalk.i64_left a
    have eb : IntKind.i64.wrap b = wrap64 b := IntWalk.i64_left b
    clear pa pb h hk
    show Calls Tryz.prog 128 _ _ (IntP (cmpS (wrap64 a) (wrap64 b)) w)
    generalize cmpS (wrap64 a) (wrap64 b) = r at *
    go_enter Tryz.func128, Tryz.ntmps128
    go_wp2_with (go_at_call 173; refine (HC.out _).mono ?_; rintro e w1 ⟨rfl, rfl⟩)
    go_ret
    exact ⟨rfl, hb.out⟩
  · obtain ⟨pa, pb⟩ := h rfl
    have HC := Aside.mk (fun W => compare_i (wrap64 a) (wrap64 b) W)
    have ea : IntKind.i64.wrap a = wrap64 a := IntWalk.i64_left a
    have eb : IntKind.i64.wrap b = wrap64 b := IntWalk.i64_left b
    clear pa pb h hk
    show Calls Tryz.prog 128 _ _ (IntP (cmpS (wrap64 a) (wrap64 b)) w)
    generalize cmpS (wrap64 a) (wrap64 b) = r at *
    go_enter Tryz.func128, Tryz.ntmps128
    go_wp2_with (go_at_call 173; refine (HC.out _).mono ?_; rintro e w1 ⟨rfl, rfl⟩)
    go_ret
    exact ⟨rfl, hb.out⟩
  · have HC := Aside.mk (fun W => wcmp_no 15 a b (by omega) W)
    clear h hk
    show Calls Tryz.prog 128 _ _ (IntP 0 w)
    go_enter Tryz.func128, Tryz.ntmps128
    go_wp2_with (go_at_call 174; refine (HC.out _).mono ?_; rintro e w1 ⟨rfl, hb1⟩; have B1 := Aside.mk (below_chain hb.out hb1); clear hb1)
    go_ret
    exact ⟨rfl, B1.out⟩
  · have HC := Aside.mk (fun W => wcmp_no 16 a b (by omega) W)
    clear h hk
    show Calls Tryz.prog 128 _ _ (IntP 0 w)
    go_enter Tryz.func128, Tryz.ntmps128
    go_wp2_with (go_at_call 174; refine (HC.out _).mono ?_; rintro e w1 ⟨rfl, hb1⟩; have B1 := Aside.mk (below_chain hb.out hb1); clear hb1)
    go_ret
    exact ⟨rfl, B1.out⟩
end Go.Proofs.YtmhjjhaipcgbiaaGreat
