/- Texts of this claim, one behind the other: Spoil, Small, AskP. -/
import Derived.Test.YtmhjjhaipcgbiaaGreatZooP46
import Derived.Test.YtmhjjhaipcgbiaaGreatZooP34

namespace Go.Proofs.YtmhjjhaipcgbiaaGreat
open Go.RowKit
set_option linter.unusedVariables false
set_option linter.unusedSimpArgs false
set_option maxRecDepth 100000
set_option maxHeartbeats 4000000
theorem withinI_le (n : Int) {m : Int} (h : 0 < m) : 0 ≤ withinI n 0 (m - 1) ∧ withinI n 0 (m - 1) < m := by
  have h1 := Int.emod_nonneg n (show m - 1 - 0 + 1 ≠ 0 by omega)
  have h2 := Int.emod_lt_of_pos n (show 0 < m - 1 - 0 + 1 by omega)
  unfold withinI
  omega
end Go.Proofs.YtmhjjhaipcgbiaaGreat


namespace Go.Proofs.YtmhjjhaipcgbiaaGreat
open Go.RowKit
set_option linter.unusedVariables false
set_option linter.unusedSimpArgs false
set_option maxRecDepth 100000
set_option maxHeartbeats 1000000
theorem data_max (k : Int) (l : List V) (m : Nat) (hm : 8 ≤ m) (hl : ∀ v ∈ l, v.text.length ≤ m) : (CS.of k l).data.length ≤ l.length * m ∧ ∀ t ∈ (CS.of k l).words, t.length ≤ m := by
  induction l using snoc_ind with
  | h0 => exact ⟨Nat.zero_le _, fun t ht => (by cases ht)⟩
  | h1 l v ih =>
    obtain ⟨h1, h2⟩ := ih (fun v hv => hl v (List.mem_append_left _ hv))
    have hv := hl v (by simp)
    obtain ⟨W, hW, hW8⟩ := width_nat k
    have hw8 : (widthOf k).toNat ≤ 8 := by rw [hW]; exact hW8
    have hs : (l ++ [v]).length * m = l.length * m + m := by rw [List.length_append, List.length_singleton, Nat.add_mul, Nat.one_mul]
    rw [CS.of_snoc, hs]
    unfold CS.add
    split
    · refine ⟨?_, h2⟩
      simp only [List.length_append]; omega
    split
    · refine ⟨by simp only [List.length_append, lows_len]; omega, ?_⟩
      dsimp only
      split
      · exact h2
      · unfold addWord
        split
        · exact h2
        · intro t ht
          rcases List.mem_append.1 ht with h | h
          · exact h2 t h
          · simp at h; subst h; exact hv
    · exact ⟨by simp only [List.length_append, lows_len]; omega, h2⟩
theorem small_col {k s : Int} {l : List V} (h : l.length ≤ 120 ∧ ∀ v ∈ l, vOK k s v ∧ v.text.length ≤ 40) : Small18 (colOf k s l) := by
  obtain ⟨h1, h2⟩ := data_max k l 40 (by decide) (fun v hv => (h.2 v hv).2)
  have h3 := h.1
  have h4 : l.length * 40 ≤ 120 * 40 := Nat.mul_le_mul_right _ h3
  refine ⟨fun _ => ?_, ?_, fun t ht => ?_⟩
  · show ((CS.of k l).nulls.length : Int) ≤ 20000
    rw [nulls_of, List.length_map]; omega
  · show (CS.of k l).data.length ≤ 4900
    omega
  · have := h2 t ht; omega
end Go.Proofs.YtmhjjhaipcgbiaaGreat


namespace Go.Proofs.YtmhjjhaipcgbiaaGreat
open Go.RowKit
set_option linter.unusedVariables false
set_option linter.unusedSimpArgs false
set_option maxRecDepth 100000
set_option maxHeartbeats 1000000
theorem byteI_ok (x : Int) : 0 ≤ byteI x ∧ byteI x < 256 := by unfold byteI; omega
theorem xorI_ok {x y : Int} (h0 : 0 ≤ x ∧ x < 256) (h1 : 0 ≤ y ∧ y < 256) : 0 ≤ xorI x y ∧ xorI x y < 256 := by
  have := Nat.xor_lt_two_pow (n := 8) (x := x.toNat) (y := y.toNat) (by omega) (by omega)
  unfold xorI
  omega
theorem wrap64_ok (x : Int) : IsI64 (wrap64 x) := by unfold IsI64 wrap64; omega
theorem setL_len (l : List Int) (a : Int) (f : Int → Int) : (setL l a f).length = l.length := by unfold setL; split <;> simp
theorem setL_mem {l : List Int} {a : Int} {f : Int → Int} {p : Int → Prop} (h : ∀ x ∈ l, p x) (hf : ∀ x, x ∈ l → p (f x)) : ∀ x ∈ setL l a f, p x := by
  unfold setL
  split
  · exact h
  · rename_i hl
    intro x hx
    rcases List.mem_or_eq_of_mem_set hx with hx | rfl
    · exact h x hx
    · refine hf _ ?_
      have hi : (withinI a 0 ((l.length : Int) - 1)).toNat < l.length := by have := withinI_le a (m := (l.length : Int)) (by omega); omega
      rw [List.getD_eq_getElem?_getD, List.getElem?_eq_getElem hi]
      exact List.getElem_mem hi
theorem spoil_ok {c : Col} (hc : COK c) (hm : c.m = c.n) (hn : c.n ≤ 120) (hd : c.data.length ≤ 4800) (hw : ∀ t ∈ c.words, t.length ≤ 40) (hlw : c.words.length ≤ 1000) {wh wat wby : Int} (h3 : IsI64 wby) :
    COK (spoilC c wh wat wby) ∧ Small18 (spoilC c wh wat wby) ∧ ((spoilC c wh wat wby).m = (spoilC c wh wat wby).n → (spoilC c wh wat wby).n ≤ 120) := by
  obtain ⟨a1, a2, a3, a4, a5, a6, a7, a8, a9, a10, a11, a12⟩ := hc
  have hb := byteI_ok wby
  have hw9 : ∀ t ∈ c.words, t.length ≤ 4900 := fun t ht => Nat.le_trans (hw t ht) (by decide)
  unfold spoilC
  split
  · exact ⟨⟨a1, a2, a3, a4, a5, a6, a7, a8, a9, a10, wrap64_ok _, a12⟩, ⟨fun e => by dsimp only at e ⊢; omega, by dsimp only; omega, hw9⟩, fun e => by dsimp only at e ⊢; omega⟩
  split
  · exact ⟨⟨a1, a2, a3, a4, a5, a6, a7, a8, a9, a10, a11, wrap64_ok _⟩, ⟨fun e => by dsimp only at e ⊢; omega, by dsimp only; omega, hw9⟩, fun e => by dsimp only at e ⊢; omega⟩
  split
  · exact ⟨⟨setL_mem a1 fun x hx => xorI_ok (a1 x hx) hb, a2, a3, a4, by dsimp only; rw [setL_len]; exact a5, a6, a7, a8, a9, a10, a11, a12⟩, ⟨fun e => by dsimp only at e ⊢; omega, by dsimp only; omega, hw9⟩, fun e => by dsimp only at e ⊢; omega⟩
  split
  · exact ⟨⟨a1, setL_mem a2 fun x hx => xorI_ok (a2 x hx) hb, a3, a4, a5, by dsimp only; rw [setL_len]; exact a6, a7, a8, a9, a10, a11, a12⟩, ⟨fun e => by dsimp only at e ⊢; omega, by dsimp only; rw [setL_len]; omega, hw9⟩, fun e => by dsimp only at e ⊢; omega⟩
  split
  · exact ⟨⟨a1, isBytes_append a2 (fun x hx => by simp at hx; subst hx; exact hb), a3, a4, a5, by dsimp only; rw [List.length_append, List.length_singleton]; omega, a7, a8, a9, a10, a11, a12⟩, ⟨fun e => by dsimp only at e ⊢; omega, by dsimp only; rw [List.length_append, List.length_singleton]; omega, hw9⟩, fun e => by dsimp only at e ⊢; omega⟩
  split
  · exact ⟨⟨a1, a2, setL_mem a3 fun x hx => wrap64_ok _, a4, a5, a6, by dsimp only; rw [setL_len]; exact a7, a8, a9, a10, a11, a12⟩, ⟨fun e => by dsimp only at e ⊢; omega, by dsimp only; omega, hw9⟩, fun e => by dsimp only at e ⊢; omega⟩
  split
  · refine ⟨⟨a1, a2, a3, fun t ht => ?_, a5, a6, a7, by dsimp only; rw [List.length_append, List.length_singleton]; omega, a9, a10, a11, a12⟩, ⟨fun e => by dsimp only at e ⊢; omega, by dsimp only; omega, fun t ht => ?_⟩, fun e => by dsimp only at e ⊢; omega⟩
    · rcases List.mem_append.1 ht with ht | ht
      · exact a4 t ht
      · simp at ht; subst ht; exact ⟨fun x hx => by simp at hx; subst hx; exact hb, by simp⟩
    · rcases List.mem_append.1 ht with ht | ht
      · exact hw9 t ht
      · simp at ht; subst ht; simp
  split
  · exact ⟨⟨a1, a2, a3, a4, a5, a6, a7, a8, a9, h3, a11, a12⟩, ⟨fun e => by dsimp only at e ⊢; omega, by dsimp only; omega, hw9⟩, fun e => by dsimp only at e ⊢; omega⟩
  split
  · exact ⟨⟨a1, a2, a3, a4, a5, a6, a7, a8, h3, a10, a11, a12⟩, ⟨fun e => by dsimp only at e ⊢; omega, by dsimp only; omega, hw9⟩, fun e => by dsimp only at e ⊢; omega⟩
  · exact ⟨⟨a1, a2, a3, a4, a5, a6, a7, a8, a9, a10, a11, a12⟩, ⟨fun e => by omega, by omega, hw9⟩, fun e => by omega⟩
theorem spoil_col {k s : Int} (ho : okType k s = true) {l : List V} (h : l.length ≤ 120 ∧ ∀ v ∈ l, vOK k s v ∧ v.text.length ≤ 40) {wh wat wby : Int} (h3 : IsI64 wby) :
    COK (colOf k s l) ∧ COK (spoilC (colOf k s l) wh wat wby) ∧ Small18 (spoilC (colOf k s l) wh wat wby) ∧ ((spoilC (colOf k s l) wh wat wby).m = (spoilC (colOf k s l) wh wat wby).n → (spoilC (colOf k s l) wh wat wby).n ≤ 120) := by
  have hf : Few l := ⟨by have := h.1; omega, fun v hv => Nat.le_trans (h.2 v hv).2 (by decide)⟩
  have hc : COK (colOf k s l) := (built_facts ho hf (fun v hv => (h.2 v hv).1)).cok
  obtain ⟨h1, h2⟩ := data_max k l 40 (by decide) (fun v hv => (h.2 v hv).2)
  have h5 := h.1
  have h4 : l.length * 40 ≤ 120 * 40 := Nat.mul_le_mul_right _ h5
  refine ⟨hc, spoil_ok hc rfl ?_ (show (CS.of k l).data.length ≤ 4800 by omega) h2 ?_ h3⟩
  · show ((CS.of k l).nulls.length : Int) ≤ 120
    rw [nulls_of, List.length_map]; omega
  · have := (of_sizes k l hf.2).2.2.2
    show (CS.of k l).words.length ≤ 1000
    omega
end Go.Proofs.YtmhjjhaipcgbiaaGreat
