/- Texts of this claim, one behind the other: Fr, Gb, Ga. -/
import Derived.Test.YtmhjjhaipcgbiaaBakP22
import Derived.Test.YtmhjjhaipcgbiaaBakP28
import Derived.Test.YtmhjjhaipcgbiaaBakP23
import Derived.Test.YtmhjjhaipcgbiaaBakP6
import Derived.Test.YtmhjjhaipcgbiaaBakP9
import Derived.Test.YtmhjjhaipcgbiaaBakP10

namespace Go.Proofs.Ytmhjjhaipcgbiaa
open Go.RowKit
set_option linter.unusedVariables false
set_option linter.unusedSimpArgs false
set_option maxRecDepth 100000
set_option maxHeartbeats 1000000
theorem sum_head {bs : List Int} (hb : IsBytes bs) {n k : Nat} (hnk : n ≤ k) (hk : k ≤ bs.length) {g off Ac : Nat} {U : World} (hU : Rd U 1 (.slice (some ⟨g, off, none⟩) k Ac) k (bs.map (.int .u8))) : Calls Try.prog 76 #[.slice (some ⟨g, off, none⟩) n Ac] U (SumP (bs.take n) U) := by
  have hr := hU.mid (Nat.zero_le n) hnk
  simp only [Nat.zero_mul, List.drop_zero, Nat.sub_zero, Nat.mul_one, ← List.map_take] at hr
  have hl2 : (bs.take n).length = n := by rw [List.length_take]; omega
  have hc0 : cutA (some ⟨g, off, none⟩) Ac 0 1 = some ⟨g, off, none⟩ := by unfold cutA; split <;> simp [Addr.add]
  rw [hc0] at hr
  have := fsum_any (bs.take n) (fun v hv => hb v (List.mem_of_mem_take hv)) ⟨some ⟨g, off, none⟩, Ac⟩ U (by rw [hl2]; exact hr)
  rwa [hl2] at this
end Go.Proofs.Ytmhjjhaipcgbiaa


namespace Go.Proofs.Ytmhjjhaipcgbiaa
open Go.RowKit
set_option linter.unusedVariables false
set_option linter.unusedSimpArgs false
set_option maxRecDepth 100000
set_option maxHeartbeats 1000000
theorem byteinfoG : (Try.prog.info? 5).map (fun i => (i.zero, i.size, i.bytes)) = some (some (.int .u8 0), 1, 1) := by kernel_rfl
def BCloneP (xs : List Int) (w : World) (e : Ending) (w' : World) : Prop := ∃ a c, e = .returned (.slice a xs.length c) ∧ Own w' w.heap.size 5 1 (.slice a xs.length c) xs.length (xs.map (.int .u8)) ∧ Below w.heap.size w w'
theorem bclone_any (xs : List Int) (A : SL) (hl : xs.length ≤ 100000000) (w : World) (h : Rd w 1 (.slice A.a xs.length A.c) xs.length (xs.map (.int .u8))) : Calls Try.prog 111 #[.slice A.a xs.length A.c] w (BCloneP xs w) := by
  obtain ⟨a, c⟩ := A
  have hsh := h.shape
  obtain ⟨a', c', e, q1, q2, q3, q4⟩ := hsh
  simp only [Value.slice.injEq, true_and] at e
  obtain ⟨rfl, rfl⟩ := e
  cases a with
  | none =>
    obtain ⟨h1, h2⟩ := q3 rfl
    have hx : xs = [] := List.eq_nil_of_length_eq_zero h1
    subst hx
    subst h2
    clear h q1 q2 q3 q4
    simp only [List.length_nil]
    have hne : ∀ W, (binOp .eql 37 (.slice none 0 0) (.slice none 0 0)).run Try.prog W = .ok (.bool true) W := fun W => by kernel_rfl
    go_enter Try.func111, Try.ntmps111
    go_wp2
    go_ret
    exact ⟨none, 0, rfl, Own.nil _ _ _ _, Below.refl _ _⟩
  | some p =>
    have HR := Aside.mk h
    clear q1 q2 q3 q4 h
    generalize hn : xs.length = n at *
    have HB0 := Aside.mk (below_new w (.cells #[] 5))
    have HS := Aside.mk ((HR.out.below HB0.out).src (P := Try.prog) Try.underlying37 (one_map (fun x : Int => Value.int .u8 x) (fun _ => rfl) xs))
    have hne : ∀ W, (binOp .eql 37 (.slice (some p) n c) (.slice none 0 0)).run Try.prog W = .ok (.bool false) W := fun W => by kernel_rfl
    go_enter Try.func111, Try.ntmps111
    go_wp2_with (at_builtin; refine wpList_app2 _ rfl _ _ 37 37 rfl w.heap.size 5 (.int .u8 0) 1 1 Try.underlying37 byteinfoG rfl _ 0 [] rfl (own_empty w w.heap.size _ _ _ rfl (Nat.le_refl _)) _ n (xs.map (.int .u8)) rfl HS.out (by unfold maxLen; omega) (by omega) (by simp) ?_)
    intro v5 w5 hA
    obtain ⟨a5, c5, rfl⟩ := hA.own.form
    have ho := hA.own
    rw [Nat.zero_add, List.nil_append] at ho
    rw [Nat.zero_add]
    have HO := Aside.mk ho
    have HB := Aside.mk (HB0.out.trans ((Kept.of_grown hA.grown).to_below (B := w.heap.size) (by simp) (fun k e => by cases e; exact Nat.le_refl _)))
    clear hA ho
    go_wp2
    go_ret
    exact ⟨a5, c5, by rw [hn]; rfl, by rw [hn]; exact HO.out, HB.out⟩
end Go.Proofs.Ytmhjjhaipcgbiaa


namespace Go.Proofs.Ytmhjjhaipcgbiaa
open Go.RowKit
set_option linter.unusedVariables false
set_option linter.unusedSimpArgs false
set_option maxRecDepth 100000
set_option maxHeartbeats 1000000
structure RS where
  rest : List Int
  short : Bool
structure RdR (W : World) (b : Nat) (A : SL) (s : RS) : Prop where
  box : W.heap[b]? = some (.cells #[.slice A.a s.rest.length A.c, .bool s.short] 145 (0, 0))
  rd : Rd W 1 (.slice A.a s.rest.length A.c) s.rest.length (s.rest.map (.int .u8))
  bytes : IsBytes s.rest
  lo : ∀ k, (Value.slice A.a s.rest.length A.c).ownBlock = some k → k < b
  few : s.rest.length ≤ 100000000
theorem RdR.below {W W' : World} {b : Nat} {A : SL} {s : RS} (h : RdR W b A s) (hb : Below W.heap.size W W') : RdR W' b A s :=
  ⟨(hb.block _ (lt_of_blk h.box)).trans h.box, h.rd.below hb, h.bytes, h.lo, h.few⟩
theorem RdR.ne {W : World} {b : Nat} {A : SL} {s : RS} (h : RdR W b A s) : ∀ k, (Value.slice A.a s.rest.length A.c).ownBlock = some k → k ≠ b := fun k e => Nat.ne_of_lt (h.lo k e)
theorem RdR.kept {S : Nat → Prop} {W W' : World} {b : Nat} {A : SL} {s : RS} (h : RdR W b A s) (hk : Kept S W W') (hS : ∀ k, S k → b < k) : RdR W' b A s :=
  ⟨(hk.block _ (lt_of_blk h.box) (fun e => Nat.lt_irrefl _ (hS b e))).trans h.box, h.rd.kept hk (fun k e e' => Nat.lt_asymm (h.lo k e) (hS k e')), h.bytes, h.lo, h.few⟩
theorem boxR {w : World} {b : Nat} {x0 x1 : Value} {T : TypeId} (h : w.heap[b]? = some (.cells #[x0, x1] T (0, 0))) : w.cell? ⟨b, 0, none⟩ = some x0 ∧ w.cell? ⟨b, 1, none⟩ = some x1 := by
  refine ⟨?_, ?_⟩ <;> (rw [cell_blk h]; rfl)
def takeB (n : Int) (s : RS) : Bool := s.short || decide (n < 0) || decide ((s.rest.length : Int) < n)
def takeL (n : Int) (s : RS) : List Int := if takeB n s then [] else s.rest.take n.toNat
def takeS (n : Int) (s : RS) : RS := if takeB n s then ⟨s.rest, true⟩ else ⟨s.rest.drop n.toNat, false⟩
theorem RdR.fail {W : World} {b : Nat} {A : SL} {s : RS} (h : RdR W b A s) : RdR (W.setCell ⟨b, 1, none⟩ (.bool true)) b A ⟨s.rest, true⟩ := by
  refine ⟨?_, h.rd.kept (Kept.setCell W _ _) (fun k e => h.ne k e), h.bytes, h.lo, h.few⟩
  have := heap_setCell_at (k := 1) h.box (.bool true)
  simpa using this
theorem RdR.cut {W W' : World} {b : Nat} {A : SL} {s : RS} (h : RdR W b A s) (hb : Below W.heap.size W W') (hs : s.short = false) {n : Nat} (hn : n ≤ s.rest.length) : RdR (W'.setCell ⟨b, 0, none⟩ (.slice (cutA A.a A.c n 1) (s.rest.length - n) (A.c - n))) b ⟨cutA A.a A.c n 1, A.c - n⟩ ⟨s.rest.drop n, false⟩ := by
  have h' := h.below hb
  have hne : ∀ k, (Value.slice (cutA A.a A.c n 1) (s.rest.length - n) (A.c - n)).ownBlock = some k → k < b := by
    intro k e
    refine h.lo k ?_
    have hsp : ∀ (a : Addr) m, (a.add m).block = a.block := fun a m => by unfold Addr.add; split <;> rfl
    unfold cutA at e
    cases ha : A.a with
    | none =>
      rw [ha] at e
      simp [Value.ownBlock] at e
    | some a =>
      rw [ha] at e
      split at e
      · exact e
      · simpa [Value.ownBlock, hsp] using e
  have hr := h'.rd.mid hn (Nat.le_refl _)
  simp only [Nat.mul_one, ← List.map_drop, ← List.map_take] at hr
  rw [List.take_of_length_le (by rw [List.length_drop]; omega)] at hr
  have hl : (s.rest.drop n).length = s.rest.length - n := by rw [List.length_drop]
  refine ⟨?_, ?_, fun v hv => h.bytes v (List.mem_of_mem_drop hv), ?_, by rw [hl]; have := h.few; omega⟩
  · have := heap_setCell_at (k := 0) h'.box (.slice (cutA A.a A.c n 1) (s.rest.length - n) (A.c - n))
    rw [hs] at this
    dsimp only
    rw [hl]
    simpa using this
  · dsimp only
    rw [hl]
    exact hr.kept (Kept.setCell W' _ _) (fun k e => Nat.ne_of_lt (hne k e))
  · dsimp only
    rw [hl]
    exact hne
def TakeP (l : List Int) (b : Nat) (s : RS) (w : World) (e : Ending) (w' : World) : Prop := ∃ T A' : SL, e = .returned (.slice T.a l.length T.c) ∧ Own w' w.heap.size 5 1 (.slice T.a l.length T.c) l.length (l.map (.int .u8)) ∧ RdR w' b A' s ∧ Kept (fun k => k = b) w w'
theorem take_any (s : RS) (n : Int) (b : Nat) (A : SL) (w : World) (h : RdR w b A s) : Calls Try.prog 80 #[.pointer (some ⟨b, 0, none⟩), .int .i64 n] w (TakeP (takeL n s) b (takeS n s) w) := by
  obtain ⟨Aa, Ac⟩ := A
  have H := Aside.mk h
  have hfz := fun k => frozen_blk (k := k) h.box
  obtain ⟨c0, c1⟩ := boxR h.box
  have hl := h.few
  by_cases hbad : takeB n s = true
  · have hL : takeL n s = [] := by unfold takeL; rw [if_pos hbad]
    have hS : takeS n s = ⟨s.rest, true⟩ := by unfold takeS; rw [if_pos hbad]
    rw [hL, hS]
    clear hL hS h
    obtain ⟨rest, short⟩ := s
    dsimp only at *
    have hend : TakeP [] b ⟨rest, true⟩ w (.returned (.slice none 0 0)) (w.setCell ⟨b, 1, none⟩ (.bool true)) := ⟨⟨none, 0⟩, ⟨Aa, Ac⟩, rfl, Own.nil _ _ _ _, H.out.fail, Kept.setCell w ⟨b, 1, none⟩ _⟩
    have HE := Aside.mk hend
    clear hend
    unfold takeB at hbad
    dsimp only at hbad
    cases short with
    | true =>
      clear hbad
      go_enter Try.func80, Try.ntmps80
      go_wp2_with fail
      go_ret
      exact HE.out
    | false =>
      by_cases hn : n < 0
      · have hd : decide (n < 0) = true := decide_eq_true hn
        clear hbad
        go_enter Try.func80, Try.ntmps80
        go_wp2_with fail
        go_ret
        exact HE.out
      · have hd : decide (n < 0) = false := decide_eq_false hn
        rw [hd] at hbad
        simp only [Bool.or_false, Bool.false_or, Bool.or_self] at hbad
        generalize rest.length = k at *
        go_enter Try.func80, Try.ntmps80
        go_wp2_with fail
        go_ret
        exact HE.out
  · have hL : takeL n s = s.rest.take n.toNat := by unfold takeL; rw [if_neg hbad]
    have hS : takeS n s = ⟨s.rest.drop n.toNat, false⟩ := by unfold takeS; rw [if_neg hbad]
    rw [hL, hS]
    clear hL hS
    unfold takeB at hbad
    simp only [Bool.or_eq_true, decide_eq_true_eq, not_or, Bool.not_eq_true, Int.not_lt] at hbad
    obtain ⟨⟨hs, hn0⟩, hn1⟩ := hbad
    obtain ⟨m, rfl⟩ := Int.eq_ofNat_of_zero_le hn0
    have hm : m ≤ s.rest.length := by omega
    simp only [Int.toNat_natCast]
    have hd1 : decide ((m : Int) < 0) = false := decide_eq_false (by omega)
    have hd2 : decide ((s.rest.length : Int) < (m : Int)) = false := decide_eq_false (by omega)
    have hr := h.rd.mid (Nat.zero_le m) hm
    simp only [Nat.zero_mul, List.drop_zero, Nat.mul_one, ← List.map_take, Nat.sub_zero] at hr
    have hlt : (s.rest.take m).length = m := by rw [List.length_take]; omega
    have hcap : s.rest.length ≤ Ac := by
      obtain ⟨_, a, c, e, q1, _⟩ := h.rd
      cases e
      exact q1
    have hcl := bclone_any (s.rest.take m) ⟨cutA Aa Ac 0 1, Ac⟩ (by omega) w (by rw [hlt]; exact hr)
    rw [hlt] at hcl
    have HC := Aside.mk hcl
    clear hcl
    have hd3 : decide (s.rest.length < m) = false := decide_eq_false (by omega)
    have hT : ∀ W, (Instr.slice 37 (.slice Aa s.rest.length Ac) none (some (.int .i64 (m : Int))) none).run Try.prog W = .ok (.slice (cutA Aa Ac 0 1) m Ac) W := fun W => by
      have := run_slice_to (P := Try.prog) (T := 37) (e := 5) (sz := 1) Try.underlying37 (by kernel_rfl) Aa s.rest.length Ac m (by omega) W
      simpa using this
    have hF : ∀ W, (Instr.slice 37 (.slice Aa s.rest.length Ac) (some (.int .i64 (m : Int))) none none).run Try.prog W = .ok (.slice (cutA Aa Ac m 1) (s.rest.length - m) (Ac - m)) W := fun W => run_slice_from (P := Try.prog) (T := 37) (e := 5) (sz := 1) Try.underlying37 (by kernel_rfl) Aa s.rest.length Ac m hm W
    have HS := Aside.mk hs
    have HM := Aside.mk hm
    have HLT := Aside.mk hlt
    rw [hs] at c1
    clear hs h hr hlt hn1 hcap
    obtain ⟨rest, short⟩ := s
    dsimp only at *
    generalize hk : rest.length = k at *
    have HK := Aside.mk hk
    clear hk
    go_enter Try.func80, Try.ntmps80
    go_wp2_with (go_at_call 111; refine HC.out.mono ?_; rintro e w2 ⟨ta, tc, rfl, ho, hb⟩; have HO := Aside.mk ho; have HB := Aside.mk hb; have hbx := (hb.block _ (lt_of_blk H.out.box)).trans H.out.box; dsimp only at hbx; rw [HK.out] at hbx; have hfz2 := fun k => frozen_blk (k := k) hbx; obtain ⟨d0, d1⟩ := boxR hbx; clear ho hb hbx)
    go_ret
    refine ⟨⟨ta, tc⟩, ⟨cutA Aa Ac m 1, Ac - m⟩, by simp [List.length_take], HO.out.kept (Kept.setCell w2 ⟨b, 0, none⟩ _) (fun k' e e' => by have h1 := (HO.out.lt _ e).1; have h2 := lt_of_blk H.out.box; dsimp only at e'; omega), ?_, (Kept.of_below (S := fun k => k = b) HB.out).trans (Kept.setCell w2 ⟨b, 0, none⟩ _) (fun k e _ => e)⟩
    have := H.out.cut HB.out HS.out (n := m) (by dsimp only; rw [HK.out]; exact HM.out)
    dsimp only at this
    rw [HK.out] at this
    exact this
def numX (s : RS) : Nat := wordAt (takeL 8 s) 0 (takeL 8 s).length
def numR (s : RS) : Int := if 4611686018427387904 < numX s then 0 else (numX s : Int)
def numS (s : RS) : RS := if 4611686018427387904 < numX s then ⟨(takeS 8 s).rest, true⟩ else takeS 8 s
def NumP (n : Int) (b : Nat) (s : RS) (w : World) (e : Ending) (w' : World) : Prop := e = .returned (.int .i64 n) ∧ ∃ A', RdR w' b A' s ∧ Kept (fun k => k = b) w w'
theorem takeL_8 (s : RS) : (takeL 8 s).length ≤ 8 := by
  unfold takeL
  split
  · exact Nat.zero_le _
  · rw [List.length_take]; exact Nat.min_le_left _ _
theorem number_any (s : RS) (b : Nat) (A : SL) (w : World) (h : RdR w b A s) : Calls Try.prog 82 #[.pointer (some ⟨b, 0, none⟩)] w (NumP (numR s) b (numS s) w) := by
  have HT := Aside.mk (take_any s 8 b A w h)
  have hbt : IsBytes (takeL 8 s) := by
    unfold takeL
    split
    · exact fun v hv => by cases hv
    · exact fun v hv => h.bytes v (List.mem_of_mem_take hv)
  have HBT := Aside.mk hbt
  have h8 := takeL_8 s
  have HX : ∃ X : Nat, X = numX s := ⟨_, rfl⟩
  obtain ⟨X, hX⟩ := HX
  have hn : numR s = if 4611686018427387904 < X then 0 else (X : Int) := by rw [hX]; rfl
  have hs : numS s = if 4611686018427387904 < X then ⟨(takeS 8 s).rest, true⟩ else takeS 8 s := by rw [hX]; rfl
  have hXw : X = wordAt (takeL 8 s) 0 (takeL 8 s).length := hX
  clear hX
  have HN := Aside.mk hn
  have HSS := Aside.mk hs
  have HXW := Aside.mk hXw
  clear h hbt hn hs hXw
  generalize takeL 8 s = t at *
  generalize takeS 8 s = s2 at *
  generalize numR s = r at *
  generalize numS s = s3 at *
  have hXlt : X < 18446744073709551616 := by
    have h1 := wordAt_lt HBT.out 0 t.length
    have h2 : 256 ^ t.length ≤ 256 ^ 8 := Nat.pow_le_pow_right (by decide) h8
    have h3 : (256 : Nat) ^ 8 = 18446744073709551616 := by decide
    rw [HXW.out]; omega
  obtain ⟨L, hL⟩ : ∃ L, L = t.length := ⟨_, rfl⟩
  rw [← hL] at HXW h8
  have HL := Aside.mk hL
  clear hL
  go_enter Try.func82, Try.ntmps82
  go_wp2_with (go_at_call 80; refine HT.out.mono ?_; rintro e w2 ⟨⟨ta, tc⟩, A2, rfl, ho, hr, hk⟩; have HO := Aside.mk ho; have HR := Aside.mk hr; have HK := Aside.mk hk; clear ho hr hk HT; dsimp only; rw [← HL.out] at HO ⊢)
  go_loop [3, 9] (fun xv kv => ∃ k : Nat, k ≤ L ∧ kv = .int .i64 (k : Int) ∧ xv = .int .u64 (wordAt t 0 k : Int)) (fun _ kv => L - (intOf kv).toNat)
  case atStart => exact ⟨0, Nat.zero_le _, rfl, rfl⟩
  case round =>
    obtain ⟨k, hk, rfl, rfl⟩ := hrel
    by_cases hlt : k < L
    · obtain ⟨g, off, cap, e, _, _, q1, q2, hc, _⟩ := HO.out.some_ (by omega)
      simp only [Value.slice.injEq, true_and] at e
      obtain ⟨rfl, rfl⟩ := e
      have hkt : k < t.length := by rw [← HL.out]; exact hlt
      have hc2 := hc k _ (List.getElem?_eq_getElem (by simpa using hkt))
      rw [List.getElem_map] at hc2
      have hv := getD_byte HBT.out (0 + k)
      have hw := wordAt_lt HBT.out 0 k
      have HS := Aside.mk (show _ = ((wordAt t 0 (k + 1) : Nat) : Int) from word_next _ k _ hw hv.1 hv.2 (by omega))
      have hgd : t.getD (0 + k) 0 = t[k] := by rw [Nat.zero_add, List.getD_eq_getElem?_getD, List.getElem?_eq_getElem hkt]; rfl
      rw [hgd] at HS hv
      have hx := hw
      generalize hz : wordAt t 0 (k + 1) = z at *
      have HZ := Aside.mk hz
      generalize wordAt t 0 k = x at *
      generalize t[k] = y at *
      clear hz hc hx hw hgd
      go_wp2_with fail
      go_round
      case rel => exact ⟨k + 1, by omega, by go_num, by rw [HZ.out, HS.out]⟩
      case measure => simp [intOf]; omega
    · obtain rfl : k = L := by omega
      rw [← HXW.out]
      by_cases hb : 4611686018427387904 < X
      · have hd : decide ((4611686018427387904 : Int) < (X : Int)) = true := decide_eq_true (by omega)
        have hr : r = 0 := by rw [HN.out, if_pos hb]
        have hs : s3 = ⟨s2.rest, true⟩ := by rw [HSS.out, if_pos hb]
        have HE := Aside.mk (show NumP r b s3 w (.returned (.int .i64 0)) (w2.setCell ⟨b, 1, none⟩ (.bool true)) from ⟨by rw [hr], A2, hs ▸ HR.out.fail, HK.out.trans (Kept.setCell w2 ⟨b, 1, none⟩ _) (fun k e _ => e)⟩)
        have hfz := fun k => frozen_blk (k := k) HR.out.box
        obtain ⟨d0, d1⟩ := boxR HR.out.box
        clear hr hs
        go_wp2_with fail
        go_ret
        exact HE.out
      · have hd : decide ((4611686018427387904 : Int) < (X : Int)) = false := decide_eq_false (by omega)
        have hX0 : (0 : Int) ≤ (X : Int) := by omega
        have hX1 : (X : Int) ≤ 4611686018427387904 := by omega
        have hr : r = X := by rw [HN.out, if_neg hb]
        have hs : s3 = s2 := by rw [HSS.out, if_neg hb]
        have HE := Aside.mk (show NumP r b s3 w (.returned (.int .i64 (X : Int))) w2 from ⟨by rw [hr], A2, hs ▸ HR.out, HK.out⟩)
        clear hr hs
        go_wp2_with fail
        go_ret
        exact HE.out
end Go.Proofs.Ytmhjjhaipcgbiaa
