/- Texts of this claim, one behind the other: Small0, Fx, Fp. -/
import Derived.Test.YtmhjjhaipcgbiaaSpoP33
import Derived.Test.YtmhjjhaipcgbiaaSpoP26
import Derived.Test.YtmhjjhaipcgbiaaSpoP18

namespace Go.Proofs.Ytmhjjhaipcgbiaa
open Go.RowKit
set_option linter.unusedVariables false
set_option linter.unusedSimpArgs false
set_option maxRecDepth 100000
set_option maxHeartbeats 1000000
theorem width_nat (k : Int) : ∃ W : Nat, widthOf k = (W : Int) ∧ W ≤ 8 := by
  unfold widthOf
  split
  · exact ⟨1, rfl, by decide⟩
  split
  · exact ⟨2, rfl, by decide⟩
  split
  · exact ⟨4, rfl, by decide⟩
  split
  · exact ⟨8, rfl, by decide⟩
  · exact ⟨0, rfl, by decide⟩
theorem lows_cons (X n : Nat) : lows X (n + 1) = ((X % 256 : Nat) : Int) :: lows (X / 256) n := by
  unfold lows
  rw [List.range_succ_eq_map, List.map_cons, List.map_map]
  congr 1
  · simp
  · refine List.map_congr_left fun i _ => ?_
    simp only [Function.comp]
    rw [Nat.pow_succ, Nat.mul_comm, ← Nat.div_div_eq_div_mul]
theorem data_max (k : Int) (l : List V) (m : Nat) (hm : 8 ≤ m) (hl : ∀ v ∈ l, v.text.length ≤ m) : (CS.of k l).data.length ≤ l.length * m ∧ ∀ t ∈ (CS.of k l).words, t.length ≤ m := by
  induction l using snoc_ind with
  | h0 => exact ⟨Nat.zero_le _, fun t ht => (by cases ht)⟩
  | h1 l v ih =>
    obtain ⟨h1, h2⟩ := ih (fun v hv => hl v (List.mem_append_left _ hv))
    have hv := hl v (by simp)
    obtain ⟨W, hW, hW8⟩ := width_nat k
    have hw8 : (widthOf k).toNat ≤ 8 := by rw [hW]; exact hW8
    have hs : (l ++ [v]).length * m = l.length * m + m := by rw [List.length_append, List.length_singleton, Nat.add_mul, Nat.one_mul]
    rw [CS.of_snoc, hs]
    unfold CS.add
    split
    · refine ⟨?_, h2⟩
      simp only [List.length_append]; omega
    split
    · refine ⟨by simp only [List.length_append, lows_len]; omega, ?_⟩
      dsimp only
      split
      · exact h2
      · unfold addWord
        split
        · exact h2
        · intro t ht
          rcases List.mem_append.1 ht with h | h
          · exact h2 t h
          · simp at h; subst h; exact hv
    · exact ⟨by simp only [List.length_append, lows_len]; omega, h2⟩
end Go.Proofs.Ytmhjjhaipcgbiaa


namespace Go.Proofs.Ytmhjjhaipcgbiaa
open Go.RowKit
set_option linter.unusedVariables false
set_option linter.unusedSimpArgs false
set_option maxRecDepth 100000
set_option maxHeartbeats 1000000
theorem cnt_max (k : Int) (l : List V) : (CS.of k l).ends.length ≤ l.length ∧ (CS.of k l).words.length ≤ l.length := by
  induction l using snoc_ind with
  | h0 => exact ⟨Nat.zero_le _, Nat.zero_le _⟩
  | h1 l v ih =>
    obtain ⟨h1, h2⟩ := ih
    rw [CS.of_snoc, List.length_append, List.length_singleton]
    unfold CS.add
    split
    · exact ⟨by dsimp only; rw [List.length_append, List.length_singleton]; omega, by dsimp only; omega⟩
    split
    · refine ⟨by dsimp only; omega, ?_⟩
      dsimp only
      split
      · omega
      · unfold addWord
        split
        · omega
        · rw [List.length_append, List.length_singleton]; omega
    · exact ⟨by dsimp only; omega, by dsimp only; omega⟩
theorem sm_of {k s : Int} {l : List V} (h1 : l.length ≤ 120) (h2 : ∀ v ∈ l, v.text.length ≤ 40) : SmC ((CS.of k l).col k s) := by
  obtain ⟨d1, d2⟩ := data_max k l 40 (by decide) h2
  obtain ⟨c1, c2⟩ := cnt_max k l
  refine ⟨?_, ?_, ?_, ?_⟩
  · show (mof (CS.of k l).nulls).length ≤ 200000
    rw [mof_len, nulls_of, List.length_map]; omega
  · show (CS.of k l).data.length ≤ 200000
    omega
  · show (CS.of k l).ends.length ≤ 20000
    omega
  · show (encW (CS.of k l).words).length ≤ 400000
    have := flat_len txtL 48 (CS.of k l).words (fun x hx => by unfold txtL; rw [List.length_append, len_lows]; have := d2 x hx; omega)
    unfold encW
    omega
theorem PlainT.sm {t : Tb} (h : PlainT t) : TbE t := by
  refine ⟨h.table.2, fun c hc => ?_⟩
  obtain ⟨n, L, hn, hr, h8, hl, hsp, hcc⟩ := h
  obtain ⟨i, hi, rfl⟩ := List.mem_iff_getElem.1 hc
  obtain ⟨e, q1, q2⟩ := hcc i hi (by omega)
  rw [e]
  exact sm_of (by omega) (fun v hv => (q2 v hv).2)
def EncY (t : Tb) (w : World) (e : Ending) (w' : World) : Prop := ∃ a c, e = .returned (.tuple #[.slice a (encT t).length c, .int .i64 0]) ∧ Own w' w.heap.size 5 1 (.slice a (encT t).length c) (encT t).length ((encT t).map (.int .u8)) ∧ Below w.heap.size w w'
theorem encode_yes (t : Tb) (ht : TbE t) (hp : TableP t) (H C : SL) (w : World) (h : RdTb w t H C) : Calls Try.prog 31 #[tbV t H C] w (EncY t w) := by
  refine (encode_any t ht H C w h).mono ?_
  rintro e w' ⟨hb, ⟨_, a, c, he, ho⟩ | ⟨hn, _⟩⟩
  · exact ⟨a, c, he, ho, hb⟩
  · exact absurd hp hn
theorem encT_len (t : Tb) : (encT t).length = (encB t).length + 8 := by unfold encT; rw [List.length_append, lows_len]
theorem encT_bytes {t : Tb} (h : ∀ c ∈ t.cs, COK c) : IsBytes (encT t) := by
  unfold encT; exact app_bytes (encB_bytes h) (lows_bytes _ _)
theorem encC_lim {c : Col} (h1 : c.bits.length ≤ 200) (h2 : c.data.length ≤ 4800) (h3 : c.ends.length ≤ 120) (h4 : (encW c.words).length ≤ 6000) : (encC c).length ≤ 20000 := by
  unfold encC
  split <;> simp only [List.length_append, len_lows, encE_len, List.length_nil] <;> omega
theorem encC_plain {k s : Int} {l : List V} (h1 : l.length ≤ 120) (h2 : ∀ v ∈ l, v.text.length ≤ 40) : (encC ((CS.of k l).col k s)).length ≤ 20000 := by
  obtain ⟨d1, d2⟩ := data_max k l 40 (by decide) h2
  obtain ⟨c1, c2⟩ := cnt_max k l
  have h4 : l.length * 40 ≤ 120 * 40 := Nat.mul_le_mul_right _ h1
  have a1 : (mof (CS.of k l).nulls).length ≤ 200 := by rw [mof_len, nulls_of, List.length_map]; omega
  have a2 : (encW (CS.of k l).words).length ≤ 6000 := by
    have := flat_len txtL 48 (CS.of k l).words (fun x hx => by unfold txtL; rw [List.length_append, len_lows]; have := d2 x hx; omega)
    unfold encW
    omega
  exact encC_lim a1 (show (CS.of k l).data.length ≤ 4800 by omega) (show (CS.of k l).ends.length ≤ 120 by omega) a2
theorem encT_max {t : Tb} (h : PlainT t) : (encT t).length ≤ 500000 := by
  rw [encT_len]
  obtain ⟨n, L, hn, hr, h8, hl, hsp, hcc⟩ := h
  have h1 := flat_len encH 96 t.hs (fun x hx => encH_len x (nameB_size (hsp.2.2.1 x hx)))
  have h2 := flat_len encC 20000 t.cs (fun x hx => by
    obtain ⟨i, hi, rfl⟩ := List.mem_iff_getElem.1 hx
    obtain ⟨e, q1, q2⟩ := hcc i hi (by omega)
    rw [e]
    exact encC_plain (by omega) (fun v hv => (q2 v hv).2))
  unfold encB
  simp only [List.length_append, lows_len, List.length_cons, List.length_nil]
  omega
end Go.Proofs.Ytmhjjhaipcgbiaa


namespace Go.Proofs.Ytmhjjhaipcgbiaa
open Go.RowKit
set_option linter.unusedVariables false
set_option maxRecDepth 100000
set_option maxHeartbeats 1000000
theorem mul_inj64 {a b : Nat} (ha : a < 18446744073709551616) (hb : b < 18446744073709551616) (h : a * 1099511628211 % 18446744073709551616 = b * 1099511628211 % 18446744073709551616) : a = b := by
  have e : ∀ n : Nat, n < 18446744073709551616 → (n * 1099511628211 % 18446744073709551616) * 14886173955864302971 % 18446744073709551616 = n := fun n hn => by
    have hpq : 1099511628211 * 14886173955864302971 % 18446744073709551616 = 1 := by kernel_rfl
    rw [Nat.mul_mod, Nat.mod_mod, ← Nat.mul_mod, Nat.mul_assoc, Nat.mul_mod, hpq, Nat.mul_one, Nat.mod_mod, Nat.mod_eq_of_lt hn]
  rw [← e a ha, ← e b hb, h]
theorem xor_lt64 {x : Nat} (hx : x < 18446744073709551616) {c : Int} (h0 : 0 ≤ c) (h1 : c < 256) : x ^^^ c.toNat < 18446744073709551616 :=
  Nat.xor_lt_two_pow (n := 64) hx (by omega)
theorem step_inj {x y : Nat} (hx : x < 18446744073709551616) (hy : y < 18446744073709551616) {c : Int} (h0 : 0 ≤ c) (h1 : c < 256) (h : sumStep x c = sumStep y c) : x = y := by
  have := mul_inj64 (xor_lt64 hx h0 h1) (xor_lt64 hy h0 h1) h
  have e : (x ^^^ c.toNat) ^^^ c.toNat = (y ^^^ c.toNat) ^^^ c.toNat := by rw [this]
  rwa [Nat.xor_assoc, Nat.xor_assoc, Nat.xor_self, Nat.xor_zero, Nat.xor_zero] at e
theorem step_ne {x : Nat} (hx : x < 18446744073709551616) {c d : Int} (h0 : 0 ≤ c) (h1 : c < 256) (g0 : 0 ≤ d) (g1 : d < 256) (h : sumStep x c = sumStep x d) : c = d := by
  have := mul_inj64 (xor_lt64 hx h0 h1) (xor_lt64 hx g0 g1) h
  have e : x ^^^ (x ^^^ c.toNat) = x ^^^ (x ^^^ d.toNat) := by rw [this]
  rw [← Nat.xor_assoc, ← Nat.xor_assoc, Nat.xor_self, Nat.zero_xor, Nat.zero_xor] at e
  omega
theorem sumStep_lt (x : Nat) (c : Int) : sumStep x c < 18446744073709551616 := by unfold sumStep; exact Nat.mod_lt _ (by omega)
theorem sfold_inj : ∀ (l : List Int), IsBytes l → ∀ x y : Nat, x < 18446744073709551616 → y < 18446744073709551616 → l.foldl sumStep x = l.foldl sumStep y → x = y
  | [], _, x, y, _, _, h => h
  | c :: l, hl, x, y, hx, hy, h => by
    have hc := hl c (List.mem_cons_self ..)
    have := sfold_inj l (fun v hv => hl v (List.mem_cons_of_mem _ hv)) _ _ (sumStep_lt x c) (sumStep_lt y c) h
    exact step_inj hx hy (by omega) (by omega) this
theorem sum_set {xs : List Int} (hx : IsBytes xs) {i : Nat} (hi : i < xs.length) {v : Int} (h0 : 0 ≤ v) (h1 : v < 256) (hv : v ≠ xs[i]) : sumN (xs.set i v) ≠ sumN xs := by
  intro h
  have hb := hx _ (List.getElem_mem hi)
  have e : xs = xs.take i ++ xs[i] :: xs.drop (i + 1) := by rw [List.getElem_cons_drop, List.take_append_drop]
  have e2 : xs.set i v = xs.take i ++ v :: xs.drop (i + 1) := List.set_eq_take_append_cons_drop .. |>.trans (by rw [if_pos hi])
  rw [e2] at h
  conv at h => rhs; rw [e]
  unfold sumN at h
  rw [List.foldl_append, List.foldl_append, List.foldl_cons, List.foldl_cons] at h
  have h2 := sfold_inj _ (fun v hv => hx v (List.mem_of_mem_drop hv)) _ _ (sumStep_lt _ _) (sumStep_lt _ _) h
  exact hv (step_ne (sumN_lt (xs.take i)) h0 h1 (by omega) (by omega) h2)
theorem lows_inj : ∀ (n X Y : Nat), X < 256 ^ n → Y < 256 ^ n → lows X n = lows Y n → X = Y
  | 0, X, Y, hX, hY, _ => by simp at hX hY; omega
  | n + 1, X, Y, hX, hY, h => by
    rw [lows_cons, lows_cons] at h
    simp only [List.cons.injEq] at h
    rw [Nat.pow_succ] at hX hY
    have := lows_inj n (X / 256) (Y / 256) (by omega) (by omega) h.2
    have := h.1
    omega
theorem spoilt_sum {xs : List Int} (hx : IsBytes xs) {i : Nat} {v : Int} (h0 : 0 ≤ v) (h1 : v < 256) (hi : i < xs.length + 8) (hv : (xs ++ lows (sumN xs) 8)[i]? ≠ some v) :
    lows (sumN (((xs ++ lows (sumN xs) 8).set i v).take xs.length)) 8 ≠ ((xs ++ lows (sumN xs) 8).set i v).drop xs.length := by
  intro h
  by_cases hlt : i < xs.length
  · rw [List.set_append_left _ _ hlt, List.take_left' (by simp), List.drop_left' (by simp)] at h
    have := lows_inj 8 _ _ (by have := sumN_lt (xs.set i v); omega) (by have := sumN_lt xs; omega) h
    refine sum_set hx hlt h0 h1 (fun e => hv ?_) this
    rw [List.getElem?_append_left hlt, List.getElem?_eq_getElem hlt, e]
  · rw [List.set_append_right _ _ (by omega), List.take_left' rfl, List.drop_left' rfl] at h
    have hl : i - xs.length < (lows (sumN xs) 8).length := by rw [lows_len]; omega
    have e : ((lows (sumN xs) 8).set (i - xs.length) v)[i - xs.length]? = some v := List.getElem?_set_self hl
    rw [← h] at e
    exact hv (by rw [List.getElem?_append_right (by omega)]; exact e)
end Go.Proofs.Ytmhjjhaipcgbiaa
