/- Texts of this claim, one behind the other: CheckA, Few, BuiltC. -/
import Derived.Test.YtmhjjhaipcgbiaaBakP15
import Derived.Test.YtmhjjhaipcgbiaaBakP17
import Derived.Test.YtmhjjhaipcgbiaaBakP10

namespace Go.Proofs.Ytmhjjhaipcgbiaa
open Go.RowKit
set_option linter.unusedVariables false
set_option linter.unusedSimpArgs false
set_option maxRecDepth 100000
set_option maxHeartbeats 1000000
theorem width_eight {k s : Int} (h : okType k s = true) (h1 : k ≠ 15) : ∃ W : Nat, widthOf k = (W : Int) ∧ (W = 1 ∨ W = 2 ∨ W = 4 ∨ W = 8) := by
  unfold okType at h
  simp only [decide_eq_true_eq] at h
  unfold widthOf
  split
  · exact ⟨1, rfl, by omega⟩
  split
  · exact ⟨2, rfl, by omega⟩
  split
  · exact ⟨4, rfl, by omega⟩
  split
  · exact ⟨8, rfl, by omega⟩
  · omega
theorem check_any (c : Col) (hc : COK c) (B D E X : SL) (vals : List Value) (w : World) (h : RdC w c B D E X vals) : Calls Try.prog 30 #[colV c B D E X] w (IntP (checkC c) w) := by
  cases ho : okType c.k c.s with
  | false => exact check_no c ho B D E X w
  | true =>
    by_cases h15 : c.k = 15
    · exact check_r c h15 ho hc B D E X vals w h
    by_cases h16 : c.k = 16
    · exact check_c c h16 ho hc B D E X vals w h
    obtain ⟨W, hW, hW8⟩ := width_eight ho h15
    exact check_f c h15 h16 hW hW8 ho hc B D E X vals w h
theorem check_zero {c : Col} (h : checkC c = 0) : okType c.k c.s = true ∧ maskOK c.m c.bits = true ∧ c.m = c.n ∧ mayB c = true := by
  unfold checkC at h
  split at h
  · cases h
  · rename_i h1
    split at h
    · rename_i h2
      simp only [Bool.and_eq_true, beq_iff_eq] at h2
      exact ⟨by simpa using h1, h2.1.1, h2.1.2, h2.2⟩
    · cases h
end Go.Proofs.Ytmhjjhaipcgbiaa


namespace Go.Proofs.Ytmhjjhaipcgbiaa
open Go.RowKit
set_option linter.unusedVariables false
set_option linter.unusedSimpArgs false
set_option maxRecDepth 100000
set_option maxHeartbeats 2000000
def RdVs (w : World) (A : SL) (l : List V) : Prop :=
  ∃ xs, Rd w 3 (.slice A.a l.length A.c) l.length xs ∧ ∀ (i : Nat) v, l[i]? = some v → ∃ ta tc, xs[i * 3]? = some (.bool v.null) ∧ xs[i * 3 + 1]? = some (.int .u64 (v.bits : Int)) ∧ xs[i * 3 + 2]? = some (.slice ta v.text.length tc) ∧ Rd w 1 (.slice ta v.text.length tc) v.text.length (v.text.map (.int .u8))
theorem RdVs.below {w w' : World} {A : SL} {l : List V} (h : RdVs w A l) (hb : Below w.heap.size w w') : RdVs w' A l := by
  obtain ⟨xs, h1, h2⟩ := h
  exact ⟨xs, h1.below hb, fun i v hi => by obtain ⟨ta, tc, a, b, c, d⟩ := h2 i v hi; exact ⟨ta, tc, a, b, c, d.below hb⟩⟩
theorem RdVs.at {w : World} {A : SL} {l : List V} (h : RdVs w A l) {i : Nat} (hi : i < l.length) : ∃ b off cap ta tc, A.a = some ⟨b, off, none⟩ ∧ A.c = cap ∧ l.length ≤ cap ∧ cap ≤ 9223372036854775807 ∧ w.cell? ⟨b, off + i * 3, none⟩ = some (.bool l[i].null) ∧ w.cell? ⟨b, off + i * 3 + 1, none⟩ = some (.int .u64 (l[i].bits : Int)) ∧ w.cell? ⟨b, off + i * 3 + 2, none⟩ = some (.slice ta l[i].text.length tc) ∧ Rd w 1 (.slice ta l[i].text.length tc) l[i].text.length (l[i].text.map (.int .u8)) := by
  obtain ⟨xs, h1, h2⟩ := h
  obtain ⟨ta, tc, a, b, c, d⟩ := h2 i _ (List.getElem?_eq_getElem hi)
  obtain ⟨g, off, cap, e, q1, q2, hc⟩ := h1.some_ (by rw [h1.len]; omega)
  simp only [Value.slice.injEq, true_and] at e
  obtain ⟨e1, e2⟩ := e
  exact ⟨g, off, cap, ta, tc, e1, e2, q1, q2, hc _ _ a, by rw [Nat.add_assoc]; exact hc _ _ b, by rw [Nat.add_assoc]; exact hc _ _ c, d⟩
def Few (l : List V) : Prop := l.length ≤ 20000 ∧ ∀ v ∈ l, v.text.length ≤ 4900
theorem of_sizes (k : Int) (l : List V) (hl : ∀ v ∈ l, v.text.length ≤ 4900) : (CS.of k l).data.length ≤ l.length * 4900 ∧ (CS.of k l).nulls.length = l.length ∧ (CS.of k l).ends.length ≤ l.length ∧ (CS.of k l).words.length ≤ l.length := by
  induction l using snoc_ind with
  | h0 => exact ⟨Nat.le_refl _, rfl, Nat.le_refl _, Nat.le_refl _⟩
  | h1 l v ih =>
    obtain ⟨h1, h2, h3, h4⟩ := ih (fun v hv => hl v (List.mem_append_left _ hv))
    have hv := hl v (by simp)
    have hw8 : (widthOf k).toNat ≤ 8 := by
      unfold widthOf
      split
      · decide
      split
      · decide
      split
      · decide
      split <;> decide
    rw [CS.of_snoc]
    unfold CS.add
    split
    · refine ⟨?_, ?_, ?_, ?_⟩ <;> simp <;> omega
    split
    · refine ⟨?_, ?_, ?_, ?_⟩
      · simp [lows_len]; omega
      · simp; omega
      · simp; omega
      · dsimp only
        split
        · simp; omega
        · have := addWord_len (CS.of k l).words v.text; simp; omega
    · refine ⟨?_, ?_, ?_, ?_⟩
      · simp [lows_len]; omega
      · simp; omega
      · simp; omega
      · simp; omega
theorem of_words (k : Int) (l : List V) (hl : ∀ v ∈ l, v.text.length ≤ 4900) : ∀ t ∈ (CS.of k l).words, t.length ≤ 4900 := by
  induction l using snoc_ind with
  | h0 => intro t ht; cases ht
  | h1 l v ih =>
    have ih := ih (fun v hv => hl v (List.mem_append_left _ hv))
    have hv := hl v (by simp)
    rw [CS.of_snoc]
    unfold CS.add
    split
    · exact ih
    split
    · dsimp only
      split
      · exact ih
      · unfold addWord
        split
        · exact ih
        · intro t ht
          rcases List.mem_append.1 ht with h | h
          · exact ih t h
          · simp at h; subst h; exact hv
    · exact ih
theorem of_next (k : Int) (l : List V) {i : Nat} (hi : i < l.length) : CS.of k (l.take (i + 1)) = (CS.of k (l.take i)).add k l[i] := by
  rw [List.take_succ_eq_append_getElem hi, CS.of_snoc]
theorem kept8 (w : World) (b : Nat) (x0 x1 x2 x3 x4 x5 x6 x7 : Value) : Kept (fun k => k = b) w ((((((((w.setCell ⟨b, 0, none⟩ x0).setCell ⟨b, 1, none⟩ x1).setCell ⟨b, 2, none⟩ x2).setCell ⟨b, 3, none⟩ x3).setCell ⟨b, 4, none⟩ x4).setCell ⟨b, 5, none⟩ x5).setCell ⟨b, 6, none⟩ x6).setCell ⟨b, 7, none⟩ x7) := by
  repeat (refine Kept.trans ?_ (Kept.setCell _ _ _) (fun _ e _ => e))
  exact Kept.refl _ _
theorem OwnC.kept {w w' : World} {base : Nat} {c : Col} {B D E W : SL} {vals : List Value} {S : Nat → Prop} (h : OwnC w base c B D E W vals) (hk : Kept S w w') (hS : ∀ b, base ≤ b → ¬ S b) : OwnC w' base c B D E W vals :=
  ⟨h.bits.kept hk (fun b e => hS b (h.bits.lt b e).1), h.data.kept hk (fun b e => hS b (h.data.lt b e).1), h.ends.kept hk (fun b e => hS b (h.ends.lt b e).1), h.words.kept hk (fun b e => hS b (h.words.lt b e).1), h.len, fun i t hi ht => by
    obtain ⟨a, cap, q1, q2⟩ := h.each i t hi ht
    exact ⟨a, cap, q1, q2.kept hk (fun b e => hS b (q2.lt b e).1)⟩, h.sep⟩
theorem OwnC.mono {w : World} {base base' : Nat} {c : Col} {B D E W : SL} {vals : List Value} (h : OwnC w base c B D E W vals) (hb : base' ≤ base) : OwnC w base' c B D E W vals :=
  ⟨h.bits.mono hb, h.data.mono hb, h.ends.mono hb, h.words.mono hb, h.len, WOwn.mono h.each hb, h.sep⟩
theorem OwnC.below {w w' : World} {base : Nat} {c : Col} {B D E W : SL} {vals : List Value} (h : OwnC w base c B D E W vals) (hb : Below w.heap.size w w') : OwnC w' base c B D E W vals :=
  h.kept (Kept.of_below (S := fun _ => False) hb) (fun _ _ e => e)
end Go.Proofs.Ytmhjjhaipcgbiaa


namespace Go.Proofs.Ytmhjjhaipcgbiaa
open Go.RowKit
set_option linter.unusedVariables false
set_option linter.unusedSimpArgs false
set_option maxRecDepth 100000
set_option maxHeartbeats 1000000
theorem of_bytes (k : Int) (l : List V) (hl : ∀ v ∈ l, IsBytes v.text) : IsBytes (CS.of k l).data ∧ ∀ t ∈ (CS.of k l).words, IsBytes t := by
  induction l using snoc_ind with
  | h0 => exact ⟨isBytes_nil, fun t h => by cases h⟩
  | h1 l v ih =>
    obtain ⟨h1, h2⟩ := ih (fun v hv => hl v (List.mem_append_left _ hv))
    have hv := hl v (by simp)
    rw [CS.of_snoc]
    unfold CS.add
    split
    · exact ⟨isBytes_append h1 hv, h2⟩
    split
    · refine ⟨isBytes_append h1 (lows_bytes _ _), ?_⟩
      dsimp only
      split
      · exact h2
      · exact addWord_bytes h2 hv
    · exact ⟨isBytes_append h1 (lows_bytes _ _), h2⟩
theorem of_ends (k : Int) (l : List V) (hl : ∀ v ∈ l, v.text.length ≤ 4900) : ∀ x ∈ (CS.of k l).ends, 0 ≤ x ∧ x ≤ (l.length : Int) * 4900 := by
  induction l using snoc_ind with
  | h0 => intro x h; cases h
  | h1 l v ih =>
    have ih := ih (fun v hv => hl v (List.mem_append_left _ hv))
    have hv := hl v (by simp)
    have hd := (of_sizes k l (fun v hv => hl v (List.mem_append_left _ hv))).1
    have ih2 : ∀ x ∈ (CS.of k l).ends, 0 ≤ x ∧ x ≤ ((l ++ [v]).length : Int) * 4900 := fun x hx => by
      have := ih x hx
      simp; omega
    rw [CS.of_snoc]
    unfold CS.add
    split
    · intro x hx
      rcases List.mem_append.1 hx with h | h
      · exact ih2 x h
      · simp at h; subst h; simp; omega
    split <;> exact ih2
theorem built_cokB {k s : Int} (ho : okType k s = true) {l : List V} (hf : Few l) (hl : ∀ v ∈ l, IsBytes v.text) : COK ((CS.of k l).col k s) := by
  obtain ⟨h1, h2, h3, h4⟩ := of_sizes k l hf.2
  obtain ⟨h5, h6⟩ := of_bytes k l hl
  have h7 := of_ends k l hf.2
  have h8 := of_words k l hf.2
  have h9 := hf.1
  have hm := mof_len (CS.of k l).nulls
  unfold okType at ho
  simp only [decide_eq_true_eq] at ho
  refine ⟨mof_bytes _, h5, fun x hx => ?_, fun t ht => ⟨h6 t ht, Nat.le_trans (h8 t ht) (by decide)⟩, ?_, ?_, ?_, ?_, ?_, ?_, ?_, ?_⟩
  · have := h7 x hx; unfold IsI64; omega
  · show (mof (CS.of k l).nulls).length ≤ _; omega
  · show (CS.of k l).data.length ≤ _; omega
  · show (CS.of k l).ends.length ≤ _; omega
  · show (CS.of k l).words.length ≤ _; omega
  · show IsI64 k; unfold IsI64; omega
  · show IsI64 s; unfold IsI64; omega
  · show IsI64 ((CS.of k l).nulls.length : Int); unfold IsI64; omega
  · show IsI64 ((CS.of k l).nulls.length : Int); unfold IsI64; omega
theorem built_cok {k s : Int} (ho : okType k s = true) {l : List V} (hf : Few l) (hl : ∀ v ∈ l, vOK k s v) : COK ((CS.of k l).col k s) := built_cokB ho hf (fun v hv => (hl v hv).1)
structure BF (k s : Int) (l : List V) (c : Col) : Prop where
  cok : COK c
  chk : checkC c = 0
  k : c.k = k
  s : c.s = s
  n : c.n = (l.length : Int)
  bits : c.bits = mof (l.map (·.null))
  val : ∀ (i : Nat) (h : i < l.length), l[i].null = false → valueC c i = (l[i].bits, l[i].text)
  nul : ∀ (i : Nat) (h : i < l.length), nullB c.bits i = l[i].null
theorem built_facts {k s : Int} (ho : okType k s = true) {l : List V} (hf : Few l) (hl : ∀ v ∈ l, vOK k s v) : BF k s l ((CS.of k l).col k s) := by
  have h9 := hf.1
  refine ⟨built_cok ho hf hl, built_ok ho l hl (by omega), rfl, rfl, ?_, ?_, fun i h hn => built_value ho l hl (by omega) i h hn, fun i h => built_null k s l i h⟩
  · show ((CS.of k l).nulls.length : Int) = _; rw [nulls_of]; simp
  · show mof (CS.of k l).nulls = _; rw [nulls_of]
end Go.Proofs.Ytmhjjhaipcgbiaa
