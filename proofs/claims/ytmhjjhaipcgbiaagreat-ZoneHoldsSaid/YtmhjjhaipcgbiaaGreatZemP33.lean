/- Texts of this claim, one behind the other: Read0, Read16. -/
import Derived.Test.YtmhjjhaipcgbiaaGreatZemP31
import Derived.Test.YtmhjjhaipcgbiaaGreatZemP32
import Derived.Test.YtmhjjhaipcgbiaaGreatZemP28
import Derived.Test.YtmhjjhaipcgbiaaGreatZemP9
import Derived.BigQuiet
import Derived.Deep.QuietTactic

namespace Go.Proofs.YtmhjjhaipcgbiaaGreat
open Go.RowKit
set_option linter.unusedVariables false
set_option linter.unusedSimpArgs false
set_option maxRecDepth 100000
set_option maxHeartbeats 1000000
def rdStep (c : Col) (i p : Nat) : Option (V × Nat) :=
  if c.k = 15 then
    if i < c.ends.length ∧ (p : Int) ≤ c.ends.getD i 0 ∧ c.ends.getD i 0 ≤ (c.data.length : Int) then some (⟨nullB c.bits i, 0, (c.data.drop p).take ((c.ends.getD i 0).toNat - p)⟩, (c.ends.getD i 0).toNat) else none
  else if p + (widthOf c.k).toNat ≤ c.data.length then
    if nullB c.bits i = true then some (⟨true, wordAt c.data p (widthOf c.k).toNat, []⟩, p + (widthOf c.k).toNat)
    else if c.k = 16 then (if wordAt c.data p (widthOf c.k).toNat < c.words.length then some (⟨false, 0, c.words.getD (wordAt c.data p (widthOf c.k).toNat) []⟩, p + (widthOf c.k).toNat) else none)
    else if fitsB c.k c.s (wordAt c.data p (widthOf c.k).toNat) = true then some (⟨false, wordAt c.data p (widthOf c.k).toNat, []⟩, p + (widthOf c.k).toNat) else none
  else none
def rdRun (c : Col) : Nat → Option (List V × Nat)
  | 0 => some ([], 0)
  | i + 1 => (rdRun c i).bind fun x => (rdStep c i x.2).map fun y => (x.1 ++ [y.1], y.2)
theorem rdRun_len {c : Col} : ∀ {i : Nat} {l : List V} {p : Nat}, rdRun c i = some (l, p) → l.length = i
  | 0, l, p, h => by simp [rdRun] at h; simp [← h.1]
  | i + 1, l, p, h => by
    rw [rdRun] at h
    obtain ⟨x, h1, h2⟩ := Option.bind_eq_some_iff.1 h
    obtain ⟨y, h3, h4⟩ := Option.map_eq_some_iff.1 h2
    cases h4
    simp [rdRun_len (l := x.1) (p := x.2) (by simpa using h1)]
end Go.Proofs.YtmhjjhaipcgbiaaGreat


namespace Go.Proofs.YtmhjjhaipcgbiaaGreat
open Go.RowKit
set_option linter.unusedVariables false
set_option linter.unusedSimpArgs false
set_option maxRecDepth 100000
set_option maxHeartbeats 1000000
theorem mask_bits {m : Nat} {bs : List Int} (hb : IsBytes bs) (hm : m ≤ 8 * bs.length) (h8 : 8 * bs.length < m + 8) :
    (0 < m % 8 → (bs.getD (bs.length - 1) 0).toNat / 2 ^ (m % 8) = 0) ↔ ∀ i, m ≤ i → i < 8 * bs.length → nullB bs i = false := by
  constructor
  · intro h i h1 h2
    have e1 : i / 8 = bs.length - 1 := by omega
    have e2 : m % 8 ≤ i % 8 := by omega
    have h0 := h (by omega)
    unfold nullB
    rw [e1]
    have hp : 0 < 2 ^ (m % 8) := Nat.pow_pos (by decide)
    have hlt : (bs.getD (bs.length - 1) 0).toNat < 2 ^ (m % 8) := by
      rcases Nat.lt_or_ge (bs.getD (bs.length - 1) 0).toNat (2 ^ (m % 8)) with h | h
      · exact h
      · have := Nat.div_pos h hp; omega
    exact Nat.testBit_lt_two_pow (Nat.lt_of_lt_of_le hlt (Nat.pow_le_pow_right (by decide) e2))
  · intro h h0
    refine Nat.div_eq_of_lt (Nat.lt_pow_two_of_testBit _ fun j hj => ?_)
    rcases Nat.lt_or_ge j 8 with h9 | h9
    · have := h (8 * (bs.length - 1) + j) (by omega) (by omega)
      unfold nullB at this
      rwa [show (8 * (bs.length - 1) + j) / 8 = bs.length - 1 by omega, show (8 * (bs.length - 1) + j) % 8 = j by omega] at this
    · refine Nat.testBit_lt_two_pow (Nat.lt_of_lt_of_le ?_ (Nat.pow_le_pow_right (by decide) h9))
      have := getD_byte hb (bs.length - 1)
      omega
theorem maskOK_iff {m : Int} {bs : List Int} (hb : IsBytes bs) : maskOK m bs = true ↔ (0 ≤ m ∧ m ≤ 8 * (bs.length : Int) ∧ 8 * (bs.length : Int) - 8 < m ∧ ∀ i, m.toNat ≤ i → i < 8 * bs.length → nullB bs i = false) := by
  unfold maskOK
  rw [decide_eq_true_eq]
  constructor
  · rintro ⟨h1, h2, h3, h4⟩
    refine ⟨h1, h2, by omega, ?_⟩
    refine (mask_bits hb (by omega) (by omega)).1 fun h => ?_
    have := h4 (by omega)
    rwa [show (m % 8).toNat = m.toNat % 8 by omega] at this
  · rintro ⟨h1, h2, h3, h4⟩
    refine ⟨h1, h2, by omega, fun h => ?_⟩
    have := (mask_bits hb (by omega) (by omega)).2 h4 (by omega)
    rwa [show (m % 8).toNat = m.toNat % 8 by omega]
def bitsOf (bs : List Int) (m : Nat) : List Bool := (List.range m).map (nullB bs)
theorem bitsOf_succ (bs : List Int) (m : Nat) : bitsOf bs (m + 1) = bitsOf bs m ++ [nullB bs m] := by simp [bitsOf, List.range_succ]
structure R16 (m : Nat) (bs : List Int) (B : SL) (w wr : World) (v : Value) (i : Nat) : Prop where
  own : Own wr w.heap.size 4 1 v (min i m) ((bitsOf bs (min i m)).map .bool)
  bel : Below w.heap.size w wr
  box : wr.heap[w.heap.size]? = some (.cells #[.int .i64 (m : Int), .slice B.a bs.length B.c] 60 (0, 0))
  no : ∀ j, m ≤ j → j < i → nullB bs j = false
theorem R16.more {m : Nat} {bs : List Int} {B : SL} {w wr w5 : World} {va v5 : Value} {i : Nat} {o : Obj} (h : R16 m bs B w wr va i) (hi : i < m) (hA : AppP (wr.alloc o) w.heap.size 4 1 va i ((bitsOf bs i).map .bool) 1 [.bool (nullB bs i)] v5 w5) : R16 m bs B w w5 v5 (i + 1) := by
  have n0 : va.ownBlock ≠ some w.heap.size := h.own.blk_ne h.box (by decide)
  have K : Kept (fun b => va.ownBlock = some b) wr w5 := (Kept.of_below (below_new wr o)).trans ((Kept.of_grown hA.grown).mono (fun b e _ => e.symm)) (fun _ e _ => e)
  refine ⟨?_, h.bel.trans (K.to_below h.bel.size (fun b e => (h.own.lt b e).1)), (K.block _ (lt_of_blk h.box) n0).trans h.box, fun j h1 h2 => h.no j h1 (by omega)⟩
  have := hA.own
  rw [show min (i + 1) m = i + 1 by omega, bitsOf_succ, List.map_append]
  exact this
theorem R16.skip {m : Nat} {bs : List Int} {B : SL} {w wr : World} {v : Value} {i : Nat} (h : R16 m bs B w wr v i) (hi : m ≤ i) (hn : nullB bs i = false) : R16 m bs B w wr v (i + 1) := by
  refine ⟨?_, h.bel, h.box, fun j h1 h2 => ?_⟩
  · have := h.own
    rw [show min (i + 1) m = min i m by omega]; exact this
  · by_cases e : j = i
    · subst e; exact hn
    · exact h.no j h1 (by omega)
end Go.Proofs.YtmhjjhaipcgbiaaGreat
