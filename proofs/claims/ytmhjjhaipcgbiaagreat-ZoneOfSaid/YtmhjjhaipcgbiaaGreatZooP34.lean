/- Texts of this claim, one behind the other: Read16, Num18, Read18. -/
import Derived.Test.YtmhjjhaipcgbiaaGreatZooP29
import Derived.Test.YtmhjjhaipcgbiaaGreatZooP9
import Derived.BigQuiet
import Derived.Deep.QuietTactic
import Derived.Test.YtmhjjhaipcgbiaaGreatZooP33
import Derived.Test.YtmhjjhaipcgbiaaGreatZooP30
import Derived.Test.YtmhjjhaipcgbiaaGreatZooP26

namespace Go.Proofs.YtmhjjhaipcgbiaaGreat
open Go.RowKit
set_option linter.unusedVariables false
set_option linter.unusedSimpArgs false
set_option maxRecDepth 100000
set_option maxHeartbeats 1000000
theorem mask_bits {m : Nat} {bs : List Int} (hb : IsBytes bs) (hm : m ≤ 8 * bs.length) (h8 : 8 * bs.length < m + 8) :
    (0 < m % 8 → (bs.getD (bs.length - 1) 0).toNat / 2 ^ (m % 8) = 0) ↔ ∀ i, m ≤ i → i < 8 * bs.length → nullB bs i = false := by
  constructor
  · intro h i h1 h2
    have e1 : i / 8 = bs.length - 1 := by omega
    have e2 : m % 8 ≤ i % 8 := by omega
    have h0 := h (by omega)
    unfold nullB
    rw [e1]
    have hp : 0 < 2 ^ (m % 8) := Nat.pow_pos (by decide)
    have hlt : (bs.getD (bs.length - 1) 0).toNat < 2 ^ (m % 8) := by
      rcases Nat.lt_or_ge (bs.getD (bs.length - 1) 0).toNat (2 ^ (m % 8)) with h | h
      · exact h
      · have := Nat.div_pos h hp; omega
    exact Nat.testBit_lt_two_pow (Nat.lt_of_lt_of_le hlt (Nat.pow_le_pow_right (by decide) e2))
  · intro h h0
    refine Nat.div_eq_of_lt (Nat.lt_pow_two_of_testBit _ fun j hj => ?_)
    rcases Nat.lt_or_ge j 8 with h9 | h9
    · have := h (8 * (bs.length - 1) + j) (by omega) (by omega)
      unfold nullB at this
      rwa [show (8 * (bs.length - 1) + j) / 8 = bs.length - 1 by omega, show (8 * (bs.length - 1) + j) % 8 = j by omega] at this
    · refine Nat.testBit_lt_two_pow (Nat.lt_of_lt_of_le ?_ (Nat.pow_le_pow_right (by decide) h9))
      have := getD_byte hb (bs.length - 1)
      omega
theorem maskOK_iff {m : Int} {bs : List Int} (hb : IsBytes bs) : maskOK m bs = true ↔ (0 ≤ m ∧ m ≤ 8 * (bs.length : Int) ∧ 8 * (bs.length : Int) - 8 < m ∧ ∀ i, m.toNat ≤ i → i < 8 * bs.length → nullB bs i = false) := by
  unfold maskOK
  rw [decide_eq_true_eq]
  constructor
  · rintro ⟨h1, h2, h3, h4⟩
    refine ⟨h1, h2, by omega, ?_⟩
    refine (mask_bits hb (by omega) (by omega)).1 fun h => ?_
    have := h4 (by omega)
    rwa [show (m % 8).toNat = m.toNat % 8 by omega] at this
  · rintro ⟨h1, h2, h3, h4⟩
    refine ⟨h1, h2, by omega, fun h => ?_⟩
    have := (mask_bits hb (by omega) (by omega)).2 h4 (by omega)
    rwa [show (m % 8).toNat = m.toNat % 8 by omega]
def bitsOf (bs : List Int) (m : Nat) : List Bool := (List.range m).map (nullB bs)
theorem bitsOf_succ (bs : List Int) (m : Nat) : bitsOf bs (m + 1) = bitsOf bs m ++ [nullB bs m] := by simp [bitsOf, List.range_succ]
theorem bitsOf_len (bs : List Int) (m : Nat) : (bitsOf bs m).length = m := by simp [bitsOf]
theorem boolinfo16 : (Tryz.prog.info? 4).map (fun i => (i.zero, i.size, i.bytes)) = some (some (.bool false), 1, 1) := by kernel_rfl
def Read16P (m : Int) (bs : List Int) (w : World) (e : Ending) (w' : World) : Prop :=
  Below w.heap.size w w' ∧ ((maskOK m bs = true ∧ ∃ a c, e = .returned (.tuple #[.slice a m.toNat c, .bool true]) ∧ Own w' w.heap.size 4 1 (.slice a m.toNat c) m.toNat ((bitsOf bs m.toNat).map .bool)) ∨ (maskOK m bs = false ∧ e = .returned (.tuple #[.slice none 0 0, .bool false])))
theorem read16_no {m : Int} {bs : List Int} {w w' : World} (h : ¬ maskOK m bs = true) (hb : Below w.heap.size w w') : Read16P m bs w (.returned (.tuple #[.slice none 0 0, .bool false])) w' :=
  ⟨hb, .inr ⟨by simpa using h, rfl⟩⟩
structure R16 (m : Nat) (bs : List Int) (B : SL) (w wr : World) (v : Value) (i : Nat) : Prop where
  own : Own wr w.heap.size 4 1 v (min i m) ((bitsOf bs (min i m)).map .bool)
  bel : Below w.heap.size w wr
  box : wr.heap[w.heap.size]? = some (.cells #[.int .i64 (m : Int), .slice B.a bs.length B.c] 60 (0, 0))
  no : ∀ j, m ≤ j → j < i → nullB bs j = false
theorem R16.more {m : Nat} {bs : List Int} {B : SL} {w wr w5 : World} {va v5 : Value} {i : Nat} {o : Obj} (h : R16 m bs B w wr va i) (hi : i < m) (hA : AppP (wr.alloc o) w.heap.size 4 1 va i ((bitsOf bs i).map .bool) 1 [.bool (nullB bs i)] v5 w5) : R16 m bs B w w5 v5 (i + 1) := by
  have n0 : va.ownBlock ≠ some w.heap.size := h.own.blk_ne h.box (by decide)
  have K : Kept (fun b => va.ownBlock = some b) wr w5 := (Kept.of_below (below_new wr o)).trans ((Kept.of_grown hA.grown).mono (fun b e _ => e.symm)) (fun _ e _ => e)
  refine ⟨?_, h.bel.trans (K.to_below h.bel.size (fun b e => (h.own.lt b e).1)), (K.block _ (lt_of_blk h.box) n0).trans h.box, fun j h1 h2 => h.no j h1 (by omega)⟩
  have := hA.own
  rw [show min (i + 1) m = i + 1 by omega, bitsOf_succ, List.map_append]
  exact this
theorem R16.skip {m : Nat} {bs : List Int} {B : SL} {w wr : World} {v : Value} {i : Nat} (h : R16 m bs B w wr v i) (hi : m ≤ i) (hn : nullB bs i = false) : R16 m bs B w wr v (i + 1) := by
  refine ⟨?_, h.bel, h.box, fun j h1 h2 => ?_⟩
  · have := h.own
    rw [show min (i + 1) m = min i m by omega]; exact this
  · by_cases e : j = i
    · subst e; exact hn
    · exact h.no j h1 (by omega)
theorem read16_any (m : Int) (bs : List Int) (B : SL) (hl : bs.length ≤ 100000000) (hb : IsBytes bs) (w : World) (h : Rd w 1 (.slice B.a bs.length B.c) bs.length (bs.map (.int .u8))) :
    Calls Tryz.prog 151 #[.agg #[.int .i64 m, .slice B.a bs.length B.c]] w (Read16P m bs w) := by
  obtain ⟨ba, bc⟩ := B
  have HB0 := Aside.mk (below_new w (.cells #[.int .i64 m, .slice ba bs.length bc] 60))
  have HR := Aside.mk h
  have HBY := Aside.mk hb
  clear h hb
  dsimp only
  by_cases h1 : m < 0
  · have HD := Aside.mk (show ¬ maskOK m bs = true from fun e => by have := (maskOK_iff HBY.out).1 e; omega)
    go_enter Tryz.func151, Tryz.ntmps151
    go_wp2
    go_ret2
    exact read16_no HD.out HB0.out
  by_cases h2 : 8 * (bs.length : Int) < m
  · have HD := Aside.mk (show ¬ maskOK m bs = true from fun e => by have := (maskOK_iff HBY.out).1 e; omega)
    go_enter Tryz.func151, Tryz.ntmps151
    go_wp2
    go_ret2
    exact read16_no HD.out HB0.out
  by_cases h3 : m ≤ 8 * (bs.length : Int) - 8
  · have HD := Aside.mk (show ¬ maskOK m bs = true from fun e => by have := (maskOK_iff HBY.out).1 e; omega)
    go_enter Tryz.func151, Tryz.ntmps151
    go_wp2
    go_ret2
    exact read16_no HD.out HB0.out
  obtain ⟨mn, rfl⟩ := Int.eq_ofNat_of_zero_le (show 0 ≤ m by omega)
  have hm1 : mn ≤ 8 * bs.length := by omega
  have HM3 := Aside.mk (show 8 * (bs.length : Int) - 8 < (mn : Int) by omega)
  generalize hbl : bs.length = bl at *
  have HBL := Aside.mk hbl
  clear hbl
  go_enter Tryz.func151, Tryz.ntmps151
  go_wp2
  go_loopw [4, 5] (fun lv iv wr => ∃ (i : Nat) (a : Option Addr) (c : Nat), i ≤ 8 * bl ∧ lv = .slice a (min i mn) c ∧ iv = .int .i64 (i : Int) ∧ Aside (R16 mn bs ⟨ba, bc⟩ w wr (.slice a (min i mn) c) i)) (fun _ iv _ => 8 * bl - (intOf iv).toNat)
  case atStart =>
    refine ⟨0, none, 0, by omega, by simp, rfl, ⟨?_, HB0.out, ?_, fun j h1 h2 => by omega⟩⟩
    · simpa [bitsOf] using Own.nil _ _ _ _
    · rw [HBL.out]; exact heap_alloc_new w _
  case round =>
    obtain ⟨i, a, c, hi, rfl, rfl, HP⟩ := hrel
    have c0 := cell_blk (k := 0) HP.out.box
    have c1 := cell_blk (k := 1) HP.out.box
    simp at c0 c1
    rw [HBL.out] at c1
    have hlt0 := lt_of_blk HP.out.box
    by_cases hlt : i < 8 * bl
    · obtain ⟨g, off, cap, hs, hlc, hcap, hc⟩ := rd_get HR.out (i / 8) (by have := HBL.out; omega)
      simp only [Value.slice.injEq, true_and] at hs
      obtain ⟨rfl, rfl⟩ := hs
      have hv := getD_byte HBY.out (i / 8)
      have hc2 := (HP.out.bel.cell (p := ⟨g, off + i / 8, none⟩) (World.block_lt_of_cell? _ _ hc)).trans hc
      have r := shr_bit _ hv.1 hv.2 (i % 8)
      have HBIT := Aside.mk (show (bs.getD (i / 8) 0).toNat.testBit (i % 8) = nullB bs i from rfl)
      clear hc
      generalize bs.getD (i / 8) 0 = y at *
      rw [HBIT.out] at r
      by_cases him : i < mn
      · have hmin : min i mn = i := by omega
        rw [hmin] at HP ⊢
        obtain ⟨bit, hbit⟩ : ∃ b, b = nullB bs i := ⟨_, rfl⟩
        rw [← hbit] at r
        have HBV := Aside.mk hbit
        clear hbit hmin
        have HOWN := Aside.mk (show Own wr w.heap.size 4 1 (.slice a i c) i ((bitsOf bs i).map .bool) from by have := HP.out.own; rwa [show min i mn = i by omega] at this)
        have hsz := HP.out.bel.size
        go_wp2_with (at_builtin; go_loud (refine wpList_app2 _ rfl _ _ 140 140 rfl w.heap.size 4 (.bool false) 1 1 Tryz.underlying140 boolinfo16 rfl _ i ((bitsOf bs i).map .bool) rfl (HOWN.out.alloc _) _ 1 [_] rfl (src_one Tryz.underlying140 _ _ _ rfl rfl) (by unfold maxLen; omega) (by omega) (by simp; omega) ?_))
        intro v5 w5 hA
        obtain ⟨a5, c5, rfl⟩ := hA.own.form
        have HN := Aside.mk (R16.more (v5 := .slice a5 (i + 1) c5) HP.out him (by rw [← HBV.out]; exact hA))
        clear hA
        go_wp2_with fail
        refine ⟨⟨i + 1, a5, c5, by omega, by rw [show min (i + 1) mn = i + 1 by omega], by simp, ?_⟩, by simp [intOf]; omega⟩
        rw [show min (i + 1) mn = i + 1 by omega]
        exact HN
      · have hmin : min i mn = mn := by omega
        have HP0 := Aside.mk HP.out
        rw [hmin] at HP ⊢
        clear hmin
        cases hbit : nullB bs i with
        | true =>
          rw [hbit] at r
          have HNO := Aside.mk (show ¬ maskOK (mn : Int) bs = true from fun e => by
            have := ((maskOK_iff HBY.out).1 e).2.2.2 i (by simpa using him) (by have := HBL.out; omega)
            rw [hbit] at this; cases this)
          clear hbit
          go_wp2_with fail
          go_ret2
          exact read16_no HNO.out HP.out.bel
        | false =>
          rw [hbit] at r
          have HN := Aside.mk (HP0.out.skip (by omega) hbit)
          rw [show min i mn = mn by omega] at HN
          clear hbit
          go_wp2_with fail
          refine ⟨⟨i + 1, a, c, by omega, by rw [show min (i + 1) mn = mn by omega], by simp, ?_⟩, by simp [intOf]; omega⟩
          rw [show min (i + 1) mn = mn by omega]
          exact HN
    · have HEND := Aside.mk (show maskOK (mn : Int) bs = true from (maskOK_iff HBY.out).2 ⟨by omega, by have := HBL.out; omega, by have := HBL.out; have := HM3.out; omega, fun j h1 h2 => HP.out.no j (by simpa using h1) (by have := HBL.out; omega)⟩)
      have hmin : min i mn = mn := by omega
      rw [hmin] at HP ⊢
      clear hmin
      go_wp2_with fail
      go_ret2
      refine ⟨HP.out.bel, .inl ⟨HEND.out, a, c, rfl, ?_⟩⟩
      have := HP.out.own
      rw [show min i mn = mn by omega] at this
      exact this
end Go.Proofs.YtmhjjhaipcgbiaaGreat


namespace Go.Proofs.YtmhjjhaipcgbiaaGreat
open Go.RowKit
set_option linter.unusedVariables false
set_option linter.unusedSimpArgs false
set_option maxRecDepth 100000
set_option maxHeartbeats 1000000
def numOf : List Int → Nat
  | [] => 0
  | x :: r => x.toNat + 256 * numOf r
theorem numOf_lt : ∀ {l : List Int}, IsBytes l → numOf l < 256 ^ l.length
  | [], _ => by simp [numOf]
  | x :: r, h => by
    have h1 := numOf_lt (l := r) (fun y hy => h y (List.mem_cons_of_mem _ hy))
    have h2 := h x (List.mem_cons_self ..)
    rw [numOf, List.length_cons, Nat.pow_succ]
    omega
theorem numOf_snoc : ∀ (l : List Int) (y : Int), numOf (l ++ [y]) = numOf l + y.toNat * 256 ^ l.length
  | [], y => by simp [numOf]
  | x :: r, y => by
    rw [List.cons_append, numOf, numOf_snoc r y, numOf, List.length_cons, Nat.pow_succ, Nat.mul_add, Nat.mul_comm (256 ^ r.length) 256, ← Nat.mul_assoc, ← Nat.mul_assoc, Nat.mul_comm 256 y.toNat]
    omega
theorem numOf_word (data : List Int) (o : Nat) : ∀ n, o + n ≤ data.length → numOf ((data.drop o).take n) = wordAt data o n
  | 0, _ => by simp [numOf, wordAt]
  | n + 1, h => by
    have e : (data.drop o).take (n + 1) = (data.drop o).take n ++ [data.getD (o + n) 0] := by
      rw [List.take_add_one, List.getElem?_drop, List.getD_eq_getElem?_getD, List.getElem?_eq_getElem (by omega)]
      rfl
    rw [e, numOf_snoc, numOf_word data o n (by omega), wordAt, List.length_take, List.length_drop, Nat.min_eq_left (by omega)]
theorem num18_step (x : Nat) (y : Int) (n : Nat) (hx : x < 256 ^ n) (hn : n ≤ 7) (h0 : 0 ≤ y) (h1 : y < 256) : IntKind.u64.wrap (IntKind.u64.wrap ((x : Int) * 256) + y) = ((y.toNat + 256 * x : Nat) : Int) := by
  obtain ⟨d, rfl⟩ := Int.eq_ofNat_of_zero_le h0
  have hp : 256 ^ n ≤ 256 ^ 7 := Nat.pow_le_pow_right (by decide) hn
  have h7 : (256 : Nat) ^ 7 = 72057594037927936 := by decide
  have e : ((x : Int) * 256) = ((x * 256 : Nat) : Int) := by simp
  rw [e, wrap_u64 _ (by omega)]
  have e2 : (((x * 256 : Nat) : Int) + (d : Int)) = ((d + 256 * x : Nat) : Int) := by simp; omega
  rw [e2, wrap_u64 _ (by omega)]
  simp
theorem num18_any (xs : List Int) (A : SL) (hb : IsBytes xs) (hl : xs.length ≤ 8) (w : World) (h : Rd w 1 (.slice A.a xs.length A.c) xs.length (xs.map (.int .u8))) :
    Calls Tryz.prog 152 #[.slice A.a xs.length A.c] w fun e w' => e = .returned (.int .u64 (numOf xs : Int)) ∧ w = w' := by
  obtain ⟨aa, ac⟩ := A
  have HR := Aside.mk h
  have HB := Aside.mk hb
  clear h hb
  generalize hn : xs.length = n at *
  have HN := Aside.mk hn
  clear hn
  dsimp only
  go_enter Tryz.func152, Tryz.ntmps152
  go_wp2
  go_loop [3, 4] (fun xv iv => ∃ j : Nat, j ≤ n ∧ iv = .int .i64 ((j : Int) - 1) ∧ xv = .int .u64 (numOf (xs.drop j) : Int)) (fun _ iv => (intOf iv + 1).toNat)
  case atStart => exact ⟨n, Nat.le_refl _, rfl, by rw [← HN.out, List.drop_length]; rfl⟩
  case round =>
    obtain ⟨j, hj, rfl, rfl⟩ := hrel
    cases j with
    | zero =>
      have e : xs.drop 0 = xs := rfl
      go_wp2
      go_ret
      exact ⟨by simp, rfl⟩
    | succ j =>
      have hjl : j < xs.length := by have := HN.out; omega
      obtain ⟨g, off, cap, hs, _, _, hc⟩ := rd_get HR.out j (by have := HN.out; omega)
      simp only [Value.slice.injEq, true_and] at hs
      obtain ⟨rfl, rfl⟩ := hs
      have hv := getD_byte HB.out j
      have hx : numOf (xs.drop (j + 1)) < 256 ^ (n - (j + 1)) := by
        have := numOf_lt (l := xs.drop (j + 1)) (fun x hx => HB.out x (List.mem_of_mem_drop hx))
        rwa [List.length_drop, HN.out] at this
      have HS := Aside.mk (num18_step _ _ _ hx (by omega) hv.1 hv.2)
      have HX := Aside.mk (show (xs.getD j 0).toNat + 256 * numOf (xs.drop (j + 1)) = numOf (xs.drop j) from by
        rw [List.drop_eq_getElem_cons hjl, List.getD_eq_getElem?_getD, List.getElem?_eq_getElem hjl]; rfl)
      have hmj : ((j + 1 : Nat) : Int) - 1 = (j : Int) := by omega
      rw [hmj]
      clear hmj hx
      generalize numOf (xs.drop (j + 1)) = x at *
      generalize xs.getD j 0 = y at *
      go_wp2
      go_round
      case rel => exact ⟨j, by omega, rfl, by rw [← HX.out]; exact congrArg _ HS.out⟩
      case measure => simp [intOf]
end Go.Proofs.YtmhjjhaipcgbiaaGreat


namespace Go.Proofs.YtmhjjhaipcgbiaaGreat
open Go.RowKit
set_option linter.unusedVariables false
set_option linter.unusedSimpArgs false
set_option maxRecDepth 100000
set_option maxHeartbeats 4000000
structure RdO (Q : World → Prop) (w : World) (base : Nat) (A : SL) (l : List V) (xs : List Value) : Prop where
  row : Own w base 50 3 (.slice A.a l.length A.c) l.length xs
  each : ∀ (i : Nat) v, l[i]? = some v → ∃ ta tc, xs[i * 3]? = some (.bool v.null) ∧ xs[i * 3 + 1]? = some (.int .u64 (v.bits : Int)) ∧ xs[i * 3 + 2]? = some (.slice ta v.text.length tc) ∧ ∀ W, Q W → Rd W 1 (.slice ta v.text.length tc) v.text.length (v.text.map (.int .u8))
theorem RdO.kept {Q : World → Prop} {w w' : World} {base : Nat} {A : SL} {l : List V} {xs : List Value} {S : Nat → Prop} (h : RdO Q w base A l xs) (hk : Kept S w w') (hS : ∀ b, base ≤ b → b < w.heap.size → ¬ S b) : RdO Q w' base A l xs :=
  ⟨h.row.kept hk (fun b e => hS b (h.row.lt b e).1 (h.row.lt b e).2), h.each⟩
theorem RdO.below {Q : World → Prop} {w w' : World} {base : Nat} {A : SL} {l : List V} {xs : List Value} (h : RdO Q w base A l xs) (hb : Below w.heap.size w w') : RdO Q w' base A l xs :=
  ⟨h.row.below hb, h.each⟩
theorem RdO.vals {Q : World → Prop} {w : World} {base : Nat} {A : SL} {l : List V} {xs : List Value} (h : RdO Q w base A l xs) (hq : Q w) : RdVs w A l :=
  ⟨xs, h.row.rd, fun i v hi => by obtain ⟨ta, tc, q0, q1, q2, q3⟩ := h.each i v hi; exact ⟨ta, tc, q0, q1, q2, q3 w hq⟩⟩
abbrev QC (c : Col) (B D E X : SL) (vals : List Value) (W : World) : Prop := RdC W c B D E X vals
def Read18P (c : Col) (B D E X : SL) (vals : List Value) (w : World) (e : Ending) (w' : World) : Prop :=
  Below w.heap.size w w' ∧ match readC c with
    | some l => ∃ A xs, e = .returned (.tuple #[.slice A.a l.length A.c, .int .i64 0]) ∧ RdO (QC c B D E X vals) w' w.heap.size A l xs
    | none => e = .returned (.tuple #[.slice none 0 0, .int .i64 (readE c)])
theorem read18_no {c : Col} {B D E X : SL} {vals : List Value} {w w' : World} (h : readC c = none) (ho : okType c.k c.s = true) (hb : Below w.heap.size w w') : Read18P c B D E X vals w (.returned (.tuple #[.slice none 0 0, .int .i64 171])) w' := by
  refine ⟨hb, ?_⟩
  rw [h]
  show _ = Ending.returned (.tuple #[.slice none 0 0, .int .i64 (readE c)])
  unfold readE
  rw [h, if_neg (by rw [ho]; decide)]
  rfl
theorem read18_yes {c : Col} {B D E X : SL} {vals : List Value} {w w' : World} {l : List V} {a : Option Addr} {cp n : Nat} {xs : List Value} (h : readC c = some l) (hl : l.length = n) (hb : Below w.heap.size w w') (hr : RdO (QC c B D E X vals) w' w.heap.size ⟨a, cp⟩ l xs) : Read18P c B D E X vals w (.returned (.tuple #[.slice a n cp, .int .i64 0])) w' := by
  refine ⟨hb, ?_⟩
  rw [h]
  exact ⟨⟨a, cp⟩, xs, by rw [hl], hr⟩
theorem rdRun_none {c : Col} {i : Nat} (h : rdRun c i = none) : ∀ j, i ≤ j → rdRun c j = none
  | 0, hj => by obtain rfl : i = 0 := by omega
                exact h
  | j + 1, hj => by
    by_cases e : i = j + 1
    · subst e; exact h
    · rw [rdRun, rdRun_none h j (by omega)]; rfl
theorem read_fail {c : Col} {i : Nat} {l : List V} {p : Nat} (hr : rdRun c i = some (l, p)) (hs : rdStep c i p = none) (hi : i < c.n.toNat) : readC c = none := by
  have h1 : rdRun c (i + 1) = none := by rw [rdRun, hr, Option.bind_some, hs]; rfl
  unfold readC readRows
  rw [rdRun_none h1 c.n.toNat (by omega)]
  split <;> rfl
abbrev colB (c : Col) (B D E X : SL) : Obj := .cells #[.int .i64 c.k, .int .i64 c.s, .int .i64 c.n, .int .i64 c.m, .slice B.a c.bits.length B.c, .slice D.a c.data.length D.c, .slice E.a c.ends.length E.c, .slice X.a c.words.length X.c] 63 (0, 0)
structure R18I (c : Col) (B D E X : SL) (vals : List Value) (w wr : World) (nv : Value) (N i p : Nat) (l : List V) (A : SL) (xs : List Value) : Prop where
  bel : Below w.heap.size w wr
  box : wr.heap[w.heap.size]? = some (colB c B D E X)
  nulls : Own wr w.heap.size 4 1 nv N ((bitsOf c.bits N).map .bool)
  row : Own wr w.heap.size 50 3 (.slice A.a l.length A.c) l.length xs
  each : ∀ (i : Nat) v, l[i]? = some v → ∃ ta tc, xs[i * 3]? = some (.bool v.null) ∧ xs[i * 3 + 1]? = some (.int .u64 (v.bits : Int)) ∧ xs[i * 3 + 2]? = some (.slice ta v.text.length tc) ∧ ∀ W, RdC W c B D E X vals → Rd W 1 (.slice ta v.text.length tc) v.text.length (v.text.map (.int .u8))
  run : rdRun c i = some (l, p)
theorem R18I.len {c : Col} {B D E X : SL} {vals : List Value} {w wr : World} {nv : Value} {N i p : Nat} {l : List V} {A : SL} {xs : List Value} (h : R18I c B D E X vals w wr nv N i p l A xs) : l.length = i := rdRun_len h.run
theorem R18I.below {c : Col} {B D E X : SL} {vals : List Value} {w wr w2 : World} {nv : Value} {N i p : Nat} {l : List V} {A : SL} {xs : List Value} (h : R18I c B D E X vals w wr nv N i p l A xs) (hb : Below wr.heap.size wr w2) : R18I c B D E X vals w w2 nv N i p l A xs :=
  ⟨below_chain h.bel hb, (hb.block _ (lt_of_blk h.box)).trans h.box, h.nulls.below hb, h.row.below hb, h.each, h.run⟩
theorem R18I.rdo {c : Col} {B D E X : SL} {vals : List Value} {w wr : World} {nv : Value} {N i p : Nat} {l : List V} {A : SL} {xs : List Value} (h : R18I c B D E X vals w wr nv N i p l A xs) : RdO (QC c B D E X vals) wr w.heap.size A l xs := ⟨h.row, h.each⟩
theorem R18I.next {c : Col} {B D E X : SL} {vals : List Value} {w wr w2 w5 : World} {nv v5 : Value} {N i p p' : Nat} {l : List V} {A : SL} {xs : List Value} {v : V} {ta : Option Addr} {tc : Nat} (h : R18I c B D E X vals w wr nv N i p l A xs) (hs : rdStep c i p = some (v, p')) (hb : Below wr.heap.size wr w2)
    (ht : ∀ W, RdC W c B D E X vals → Rd W 1 (.slice ta v.text.length tc) v.text.length (v.text.map (.int .u8))) (hA : AppP w2 w.heap.size 50 3 (.slice A.a l.length A.c) l.length xs 1 [.bool v.null, .int .u64 (v.bits : Int), .slice ta v.text.length tc] v5 w5) :
    ∃ a5 c5, v5 = .slice a5 (i + 1) c5 ∧ R18I c B D E X vals w w5 nv N (i + 1) p' (l ++ [v]) ⟨a5, c5⟩ (xs ++ [.bool v.null, .int .u64 (v.bits : Int), .slice ta v.text.length tc]) := by
  obtain ⟨a5, c5, rfl⟩ := hA.own.form
  have hl := h.len
  have K : Kept (fun b => (Value.slice A.a l.length A.c).ownBlock = some b) wr w5 := (Kept.of_below hb).trans ((Kept.of_grown hA.grown).mono (fun b e _ => e.symm)) (fun _ e _ => e)
  have hxl : xs.length = l.length * 3 := h.row.1
  refine ⟨a5, c5, by rw [hl], h.bel.trans (K.to_below h.bel.size (fun b e => (h.row.lt b e).1)), (K.block _ (lt_of_blk h.box) (h.row.blk_ne h.box (by decide))).trans h.box, h.nulls.kept K (fun b e => own_ne_own h.nulls h.row (by decide) b e), ?_, fun j u hj => ?_, ?_⟩
  · rw [List.length_append]; exact hA.own
  · rcases Nat.lt_or_ge j l.length with hlt | hge
    · rw [List.getElem?_append_left hlt] at hj
      obtain ⟨ua, uc, q0, q1, q2, q3⟩ := h.each j u hj
      refine ⟨ua, uc, ?_, ?_, ?_, q3⟩
      · rw [List.getElem?_append_left (by omega)]; exact q0
      · rw [List.getElem?_append_left (by omega)]; exact q1
      · rw [List.getElem?_append_left (by omega)]; exact q2
    · rw [List.getElem?_append_right hge] at hj
      have hj0 : j - l.length = 0 := by have := (List.getElem?_eq_some_iff.1 hj).1; simp at this; omega
      rw [hj0] at hj
      simp at hj
      subst hj
      obtain rfl : j = l.length := by omega
      refine ⟨ta, tc, ?_, ?_, ?_, ht⟩
      · rw [List.getElem?_append_right (by omega), hxl, Nat.sub_self]; rfl
      · rw [List.getElem?_append_right (by omega), hxl, Nat.add_sub_cancel_left]; rfl
      · rw [List.getElem?_append_right (by omega), hxl, Nat.add_sub_cancel_left]; rfl
  · rw [rdRun, h.run, Option.bind_some, hs]; rfl
theorem rd_cap {w : World} {sz n c : Nat} {a : Option Addr} {xs : List Value} (h : Rd w sz (.slice a n c) n xs) : n ≤ c := by
  obtain ⟨_, a', cap, e, h1, _⟩ := h
  cases e; exact h1
theorem src_valB {w : World} (b : Nat) (x0 x1 x2 : Value) (h0 : x0.oneCell' = true) (h1 : x1.oneCell' = true) (h2 : x2.oneCell' = true) (hb : w.heap.size = b) : Src Tryz.prog 3 33 (.slice (some ⟨b, 0, none⟩) 1 1) 1 [x0, x1, x2] (w.alloc (.cells #[x0, x1, x2] 50)) := by
  subst hb; exact src_val w x0 x1 x2 h0 h1 h2
theorem width_nat (k : Int) : ∃ W : Nat, widthOf k = (W : Int) ∧ W ≤ 8 := by
  unfold widthOf
  split
  · exact ⟨1, rfl, by decide⟩
  split
  · exact ⟨2, rfl, by decide⟩
  split
  · exact ⟨4, rfl, by decide⟩
  split
  · exact ⟨8, rfl, by decide⟩
  · exact ⟨0, rfl, by decide⟩
theorem R18I.bit {c : Col} {B D E X : SL} {vals : List Value} {w wr : World} {na : Option Addr} {nc N i p : Nat} {l : List V} {A : SL} {xs : List Value} (h : R18I c B D E X vals w wr (.slice na N nc) N i p l A xs) (hi : i < N) : ∃ g off, na = some ⟨g, off, none⟩ ∧ wr.cell? ⟨g, off + i, none⟩ = some (.bool (nullB c.bits i)) := by
  obtain ⟨g, off, cap, e, _, _, _, _, hc, _⟩ := h.nulls.some_ (by omega)
  simp only [Value.slice.injEq, true_and] at e
  refine ⟨g, off, e.1, hc i _ ?_⟩
  rw [List.getElem?_map, bitsOf, List.getElem?_map, List.getElem?_range hi]
  rfl
theorem read_end {c : Col} {l : List V} {p : Nat} (hr : rdRun c c.n.toNat = some (l, p)) (ho : okType c.k c.s = true) (hm : maskOK c.m c.bits = true) (hn : c.m = c.n) : readC c = if equalC (colOf c.k c.s (l.map nrm)) c = true then some l else none := by
  unfold readC readRows
  rw [if_pos ⟨ho, hm, hn⟩, hr]
  rfl
def Small18 (c : Col) : Prop := (c.m = c.n → c.n ≤ 20000) ∧ c.data.length ≤ 4900 ∧ ∀ t ∈ c.words, t.length ≤ 4900
theorem rdStep_wf {c : Col} (hc : COK c) (hs : Small18 c) {i p p' : Nat} {v : V} (h : rdStep c i p = some (v, p')) : IsBytes v.text ∧ v.bits < 18446744073709551616 ∧ v.text.length ≤ 4900 ∧ p' ≤ c.data.length := by
  have hw : ∀ W, W ≤ 8 → wordAt c.data p W < 18446744073709551616 := fun W hW => by
    have h1 := wordAt_lt hc.data p W
    have h2 : 256 ^ W ≤ 256 ^ 8 := Nat.pow_le_pow_right (by decide) hW
    have h3 : (256 : Nat) ^ 8 = 18446744073709551616 := by decide
    omega
  have hw8 : (widthOf c.k).toNat ≤ 8 := by
    unfold widthOf
    split
    · decide
    split
    · decide
    split
    · decide
    split <;> decide
  unfold rdStep at h
  split at h
  · split at h
    · rename_i h1
      cases h
      refine ⟨fun x hx => hc.data x (List.mem_of_mem_drop (List.mem_of_mem_take hx)), by simp, ?_, by omega⟩
      have := hs.2.1
      simp [List.length_take, List.length_drop]; omega
    · cases h
  · split at h
    · rename_i h0
      split at h
      · cases h; exact ⟨isBytes_nil, hw _ hw8, by simp, h0⟩
      · split at h
        · split at h
          · rename_i h1 h2 h3
            cases h
            rw [List.getD_eq_getElem?_getD, List.getElem?_eq_getElem h3]
            exact ⟨(hc.words _ (List.getElem_mem h3)).1, by simp, hs.2.2 _ (List.getElem_mem h3), h0⟩
          · cases h
        · split at h
          · cases h; exact ⟨isBytes_nil, hw _ hw8, by simp, h0⟩
          · cases h
    · cases h
theorem rdRun_wf {c : Col} (hc : COK c) (hs : Small18 c) : ∀ {i : Nat} {l : List V} {p : Nat}, rdRun c i = some (l, p) → (∀ v ∈ l, IsBytes v.text ∧ v.bits < 18446744073709551616 ∧ v.text.length ≤ 4900) ∧ p ≤ c.data.length
  | 0, l, p, h => by simp [rdRun] at h; obtain ⟨rfl, rfl⟩ := h; exact ⟨fun v hv => (by cases hv), Nat.zero_le _⟩
  | i + 1, l, p, h => by
    rw [rdRun] at h
    obtain ⟨x, h1, h2⟩ := Option.bind_eq_some_iff.1 h
    obtain ⟨y, h3, h4⟩ := Option.map_eq_some_iff.1 h2
    cases h4
    obtain ⟨g1, g2⟩ := rdRun_wf hc hs (l := x.1) (p := x.2) (by simpa using h1)
    obtain ⟨g3, g4, g5, g6⟩ := rdStep_wf hc hs (v := y.1) (p' := y.2) (by simpa using h3)
    refine ⟨fun v hv => ?_, g6⟩
    rcases List.mem_append.1 hv with hv | hv
    · exact g1 v hv
    · simp at hv; subst hv; exact ⟨g3, g4, g5⟩
end Go.Proofs.YtmhjjhaipcgbiaaGreat
