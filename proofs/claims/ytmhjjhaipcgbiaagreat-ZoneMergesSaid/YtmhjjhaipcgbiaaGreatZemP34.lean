/- Texts of this claim, one behind the other: Read18, OfCheck, OfRead. -/
import Derived.Test.YtmhjjhaipcgbiaaGreatZemP33
import Derived.Test.YtmhjjhaipcgbiaaGreatZemP29
import Derived.Test.YtmhjjhaipcgbiaaGreatZemP26
import Derived.Test.YtmhjjhaipcgbiaaGreatZemP30

namespace Go.Proofs.YtmhjjhaipcgbiaaGreat
open Go.RowKit
set_option linter.unusedVariables false
set_option linter.unusedSimpArgs false
set_option maxRecDepth 100000
set_option maxHeartbeats 4000000
structure RdO (Q : World → Prop) (w : World) (base : Nat) (A : SL) (l : List V) (xs : List Value) : Prop where
  row : Own w base 50 3 (.slice A.a l.length A.c) l.length xs
  each : ∀ (i : Nat) v, l[i]? = some v → ∃ ta tc, xs[i * 3]? = some (.bool v.null) ∧ xs[i * 3 + 1]? = some (.int .u64 (v.bits : Int)) ∧ xs[i * 3 + 2]? = some (.slice ta v.text.length tc) ∧ ∀ W, Q W → Rd W 1 (.slice ta v.text.length tc) v.text.length (v.text.map (.int .u8))
theorem RdO.kept {Q : World → Prop} {w w' : World} {base : Nat} {A : SL} {l : List V} {xs : List Value} {S : Nat → Prop} (h : RdO Q w base A l xs) (hk : Kept S w w') (hS : ∀ b, base ≤ b → b < w.heap.size → ¬ S b) : RdO Q w' base A l xs :=
  ⟨h.row.kept hk (fun b e => hS b (h.row.lt b e).1 (h.row.lt b e).2), h.each⟩
theorem RdO.below {Q : World → Prop} {w w' : World} {base : Nat} {A : SL} {l : List V} {xs : List Value} (h : RdO Q w base A l xs) (hb : Below w.heap.size w w') : RdO Q w' base A l xs :=
  ⟨h.row.below hb, h.each⟩
theorem RdO.vals {Q : World → Prop} {w : World} {base : Nat} {A : SL} {l : List V} {xs : List Value} (h : RdO Q w base A l xs) (hq : Q w) : RdVs w A l :=
  ⟨xs, h.row.rd, fun i v hi => by obtain ⟨ta, tc, q0, q1, q2, q3⟩ := h.each i v hi; exact ⟨ta, tc, q0, q1, q2, q3 w hq⟩⟩
abbrev QC (c : Col) (B D E X : SL) (vals : List Value) (W : World) : Prop := RdC W c B D E X vals
abbrev colB (c : Col) (B D E X : SL) : Obj := .cells #[.int .i64 c.k, .int .i64 c.s, .int .i64 c.n, .int .i64 c.m, .slice B.a c.bits.length B.c, .slice D.a c.data.length D.c, .slice E.a c.ends.length E.c, .slice X.a c.words.length X.c] 63 (0, 0)
structure R18I (c : Col) (B D E X : SL) (vals : List Value) (w wr : World) (nv : Value) (N i p : Nat) (l : List V) (A : SL) (xs : List Value) : Prop where
  bel : Below w.heap.size w wr
  box : wr.heap[w.heap.size]? = some (colB c B D E X)
  nulls : Own wr w.heap.size 4 1 nv N ((bitsOf c.bits N).map .bool)
  row : Own wr w.heap.size 50 3 (.slice A.a l.length A.c) l.length xs
  each : ∀ (i : Nat) v, l[i]? = some v → ∃ ta tc, xs[i * 3]? = some (.bool v.null) ∧ xs[i * 3 + 1]? = some (.int .u64 (v.bits : Int)) ∧ xs[i * 3 + 2]? = some (.slice ta v.text.length tc) ∧ ∀ W, RdC W c B D E X vals → Rd W 1 (.slice ta v.text.length tc) v.text.length (v.text.map (.int .u8))
  run : rdRun c i = some (l, p)
theorem R18I.len {c : Col} {B D E X : SL} {vals : List Value} {w wr : World} {nv : Value} {N i p : Nat} {l : List V} {A : SL} {xs : List Value} (h : R18I c B D E X vals w wr nv N i p l A xs) : l.length = i := rdRun_len h.run
theorem R18I.below {c : Col} {B D E X : SL} {vals : List Value} {w wr w2 : World} {nv : Value} {N i p : Nat} {l : List V} {A : SL} {xs : List Value} (h : R18I c B D E X vals w wr nv N i p l A xs) (hb : Below wr.heap.size wr w2) : R18I c B D E X vals w w2 nv N i p l A xs :=
  ⟨below_chain h.bel hb, (hb.block _ (lt_of_blk h.box)).trans h.box, h.nulls.below hb, h.row.below hb, h.each, h.run⟩
theorem R18I.next {c : Col} {B D E X : SL} {vals : List Value} {w wr w2 w5 : World} {nv v5 : Value} {N i p p' : Nat} {l : List V} {A : SL} {xs : List Value} {v : V} {ta : Option Addr} {tc : Nat} (h : R18I c B D E X vals w wr nv N i p l A xs) (hs : rdStep c i p = some (v, p')) (hb : Below wr.heap.size wr w2)
    (ht : ∀ W, RdC W c B D E X vals → Rd W 1 (.slice ta v.text.length tc) v.text.length (v.text.map (.int .u8))) (hA : AppP w2 w.heap.size 50 3 (.slice A.a l.length A.c) l.length xs 1 [.bool v.null, .int .u64 (v.bits : Int), .slice ta v.text.length tc] v5 w5) :
    ∃ a5 c5, v5 = .slice a5 (i + 1) c5 ∧ R18I c B D E X vals w w5 nv N (i + 1) p' (l ++ [v]) ⟨a5, c5⟩ (xs ++ [.bool v.null, .int .u64 (v.bits : Int), .slice ta v.text.length tc]) := by
  obtain ⟨a5, c5, rfl⟩ := hA.own.form
  have hl := h.len
  have K : Kept (fun b => (Value.slice A.a l.length A.c).ownBlock = some b) wr w5 := (Kept.of_below hb).trans ((Kept.of_grown hA.grown).mono (fun b e _ => e.symm)) (fun _ e _ => e)
  have hxl : xs.length = l.length * 3 := h.row.1
  refine ⟨a5, c5, by rw [hl], h.bel.trans (K.to_below h.bel.size (fun b e => (h.row.lt b e).1)), (K.block _ (lt_of_blk h.box) (h.row.blk_ne h.box (by decide))).trans h.box, h.nulls.kept K (fun b e => own_ne_own h.nulls h.row (by decide) b e), ?_, fun j u hj => ?_, ?_⟩
  · rw [List.length_append]; exact hA.own
  · rcases Nat.lt_or_ge j l.length with hlt | hge
    · rw [List.getElem?_append_left hlt] at hj
      obtain ⟨ua, uc, q0, q1, q2, q3⟩ := h.each j u hj
      refine ⟨ua, uc, ?_, ?_, ?_, q3⟩
      · rw [List.getElem?_append_left (by omega)]; exact q0
      · rw [List.getElem?_append_left (by omega)]; exact q1
      · rw [List.getElem?_append_left (by omega)]; exact q2
    · rw [List.getElem?_append_right hge] at hj
      have hj0 : j - l.length = 0 := by have := (List.getElem?_eq_some_iff.1 hj).1; simp at this; omega
      rw [hj0] at hj
      simp at hj
      subst hj
      obtain rfl : j = l.length := by omega
      refine ⟨ta, tc, ?_, ?_, ?_, ht⟩
      · rw [List.getElem?_append_right (by omega), hxl, Nat.sub_self]; rfl
      · rw [List.getElem?_append_right (by omega), hxl, Nat.add_sub_cancel_left]; rfl
      · rw [List.getElem?_append_right (by omega), hxl, Nat.add_sub_cancel_left]; rfl
  · rw [rdRun, h.run, Option.bind_some, hs]; rfl
theorem R18I.bit {c : Col} {B D E X : SL} {vals : List Value} {w wr : World} {na : Option Addr} {nc N i p : Nat} {l : List V} {A : SL} {xs : List Value} (h : R18I c B D E X vals w wr (.slice na N nc) N i p l A xs) (hi : i < N) : ∃ g off, na = some ⟨g, off, none⟩ ∧ wr.cell? ⟨g, off + i, none⟩ = some (.bool (nullB c.bits i)) := by
  obtain ⟨g, off, cap, e, _, _, _, _, hc, _⟩ := h.nulls.some_ (by omega)
  simp only [Value.slice.injEq, true_and] at e
  refine ⟨g, off, e.1, hc i _ ?_⟩
  rw [List.getElem?_map, bitsOf, List.getElem?_map, List.getElem?_range hi]
  rfl
def Small18 (c : Col) : Prop := (c.m = c.n → c.n ≤ 20000) ∧ c.data.length ≤ 4900 ∧ ∀ t ∈ c.words, t.length ≤ 4900
end Go.Proofs.YtmhjjhaipcgbiaaGreat


namespace Go.Proofs.YtmhjjhaipcgbiaaGreat
open Go.RowKit
set_option linter.unusedVariables false
set_option linter.unusedSimpArgs false
set_option maxRecDepth 100000
set_option maxHeartbeats 1000000
theorem valsC_len2 (c : Col) (n : Nat) : (valsC c n).length = n := by simp [valsC]
end Go.Proofs.YtmhjjhaipcgbiaaGreat


namespace Go.Proofs.YtmhjjhaipcgbiaaGreat
open Go.RowKit
set_option linter.unusedVariables false
set_option linter.unusedSimpArgs false
set_option maxRecDepth 100000
set_option maxHeartbeats 1000000
theorem zero64 : (0 : Nat) < 18446744073709551616 := by decide
theorem getD_bytes {ws : List (List Int)} (h : ∀ t ∈ ws, IsBytes t ∧ t.length ≤ 100000000) (i : Nat) : IsBytes (ws.getD i []) := by
  rw [List.getD_eq_getElem?_getD]
  cases e : ws[i]? with
  | none => intro x hx; cases hx
  | some t => exact (h t (List.mem_of_getElem? e)).1
theorem piece_bytes {data : List Int} (h : IsBytes data) (a b : Nat) : IsBytes ((data.drop a).take b) := fun x hx => h x (List.mem_of_mem_drop (List.mem_of_mem_take hx))
theorem word_64 {data : List Int} (h : IsBytes data) (o : Nat) {k s : Int} (ho : okType k s = true) (h1 : k ≠ 15) : wordAt data o (widthOf k).toNat < 18446744073709551616 := by
  obtain ⟨W, hW, hW1, hW8⟩ := width_pos ho h1
  have hWn : (widthOf k).toNat = W := by rw [hW]; rfl
  rw [hWn]
  refine Nat.lt_of_lt_of_le (wordAt_lt h o W) ?_
  exact Nat.le_trans (Nat.pow_le_pow_right (by decide) hW8) (by decide)
theorem vals_ok {c : Col} (hc : COK c) (h : checkC c = 0) : ∀ v ∈ valsC c c.n.toNat, vOK c.k c.s v := by
  obtain ⟨ho, hm, hn, hmay⟩ := check_zero h
  intro v hv
  obtain ⟨i, hi, rfl⟩ := List.mem_map.1 hv
  have hi := List.mem_range.1 hi
  cases hnl : nullB c.bits i with
  | true =>
    rw [valC, if_pos hnl]
    exact ⟨fun x hx => (by cases hx), zero64, fun _ => ⟨rfl, rfl⟩, fun e => (by cases e)⟩
  | false =>
    rw [valC, if_neg (by rw [hnl]; decide), valueC]
    by_cases h1 : c.k = 15
    · rw [if_pos h1]
      exact ⟨piece_bytes hc.data _ _, zero64, fun e => (by cases e), fun _ => by simp [wordedB, h1]⟩
    rw [if_neg h1]
    by_cases h2 : c.k = 16
    · rw [if_pos h2]
      exact ⟨getD_bytes hc.words _, zero64, fun e => (by cases e), fun _ => by simp [wordedB, h2]⟩
    rw [if_neg h2]
    refine ⟨fun x hx => (by cases hx), word_64 hc.data _ ho h1, fun e => (by cases e), fun _ => ?_⟩
    have hw : wordedB c.k = false := by simp [wordedB, h1, h2]
    rw [hw, if_neg (by decide)]
    refine ⟨?_, rfl⟩
    unfold mayB at hmay
    rw [if_neg h1, if_neg h2] at hmay
    unfold mayFixed at hmay
    simp only [Bool.and_eq_true, List.all_eq_true] at hmay
    have := hmay.2 i (List.mem_range.2 hi)
    rwa [if_neg (by rw [hnl]; decide)] at this
end Go.Proofs.YtmhjjhaipcgbiaaGreat
