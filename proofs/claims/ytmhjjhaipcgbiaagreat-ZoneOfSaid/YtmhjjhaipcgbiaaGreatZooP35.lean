/- Texts of this claim, one behind the other: OfCheck, OfRead, Read18W. -/
import Derived.Test.YtmhjjhaipcgbiaaGreatZooP34
import Derived.Test.YtmhjjhaipcgbiaaGreatZooP31
import Derived.BigQuiet
import Derived.Deep.QuietTactic

namespace Go.Proofs.YtmhjjhaipcgbiaaGreat
open Go.RowKit
set_option linter.unusedVariables false
set_option linter.unusedSimpArgs false
set_option maxRecDepth 100000
set_option maxHeartbeats 1000000
theorem lows_cons (X n : Nat) : lows X (n + 1) = ((X % 256 : Nat) : Int) :: lows (X / 256) n := by
  unfold lows
  rw [List.range_succ_eq_map, List.map_cons, List.map_map]
  congr 1
  · simp
  · refine List.map_congr_left fun i _ => ?_
    simp only [Function.comp]
    rw [Nat.pow_succ, Nat.mul_comm, ← Nat.div_div_eq_div_mul]
theorem lows_num : ∀ {xs : List Int}, IsBytes xs → lows (numOf xs) xs.length = xs
  | [], _ => rfl
  | x :: r, h => by
    have hx := h x (List.mem_cons_self ..)
    have hr := lows_num (xs := r) (fun y hy => h y (List.mem_cons_of_mem _ hy))
    rw [List.length_cons, lows_cons, numOf, show (x.toNat + 256 * numOf r) / 256 = numOf r by omega, hr]
    congr 1
    omega
theorem lows_word {data : List Int} (hb : IsBytes data) (o W : Nat) (h : o + W ≤ data.length) : lows (wordAt data o W) W = (data.drop o).take W := by
  have hl : ((data.drop o).take W).length = W := by rw [List.length_take, List.length_drop]; omega
  have := lows_num (xs := (data.drop o).take W) (fun x hx => hb x (List.mem_of_mem_drop (List.mem_of_mem_take hx)))
  rwa [numOf_word _ _ _ h, hl] at this
theorem byte_ext {x y : Int} (hx : 0 ≤ x ∧ x < 256) (hy : 0 ≤ y ∧ y < 256) (h : ∀ j, j < 8 → x.toNat.testBit j = y.toNat.testBit j) : x = y := by
  have e : x.toNat = y.toNat := by
    refine Nat.eq_of_testBit_eq fun j => ?_
    rcases Nat.lt_or_ge j 8 with h8 | h8
    · exact h j h8
    · have hp : 2 ^ 8 ≤ 2 ^ j := Nat.pow_le_pow_right (by decide) h8
      rw [Nat.testBit_lt_two_pow (by omega), Nat.testBit_lt_two_pow (by omega)]
  omega
theorem mof_inv {m : Int} {bs : List Int} (hb : IsBytes bs) (h : maskOK m bs = true) : bs = mof (bitsOf bs m.toNat) := by
  obtain ⟨h1, h2, h3, h4⟩ := (maskOK_iff hb).1 h
  have hl : (mof (bitsOf bs m.toNat)).length = bs.length := by rw [mof_len, bitsOf_len]; omega
  refine List.ext_getElem hl.symm fun i hi hi2 => ?_
  refine byte_ext (hb _ (List.getElem_mem _)) (mof_bytes _ _ (List.getElem_mem _)) fun j hj => ?_
  have e1 : (bs[i]).toNat.testBit j = nullB bs (8 * i + j) := by
    unfold nullB
    rw [show (8 * i + j) / 8 = i by omega, show (8 * i + j) % 8 = j by omega, List.getD_eq_getElem?_getD, List.getElem?_eq_getElem hi]; rfl
  have e2 : ((mof (bitsOf bs m.toNat))[i]).toNat.testBit j = nullB (mof (bitsOf bs m.toNat)) (8 * i + j) := by
    unfold nullB
    rw [show (8 * i + j) / 8 = i by omega, show (8 * i + j) % 8 = j by omega, List.getD_eq_getElem?_getD, List.getElem?_eq_getElem hi2]; rfl
  rw [e1, e2, mof_bit]
  rcases Nat.lt_or_ge (8 * i + j) m.toNat with hm | hm
  · rw [bitsOf, List.getElem?_map, List.getElem?_range hm]; rfl
  · rw [h4 _ hm (by omega), List.getElem?_eq_none (by rw [bitsOf_len]; exact hm)]; rfl
theorem chop (data : List Int) (W : Nat) : ∀ n, ((List.range n).flatMap fun i => (data.drop (i * W)).take W) = data.take (n * W)
  | 0 => by simp
  | n + 1 => by
    rw [List.range_succ, List.flatMap_append, chop data W n, Nat.add_mul, Nat.one_mul, List.take_add]
    simp
theorem flatMap_congr_range {n : Nat} {f g : Nat → List Int} (h : ∀ i, i < n → f i = g i) : (List.range n).flatMap f = (List.range n).flatMap g := by
  induction n with
  | zero => rfl
  | succ n ih =>
    rw [List.range_succ, List.flatMap_append, List.flatMap_append, ih (fun i hi => h i (by omega))]
    simp [h n (by omega)]
theorem valsC_nulls (c : Col) (n : Nat) : (valsC c n).map (·.null) = bitsOf c.bits n := by
  unfold valsC bitsOf
  rw [List.map_map]
  refine List.map_congr_left fun i _ => ?_
  simp only [Function.comp, valC]
  split
  · rename_i h; exact h.symm
  · rename_i h; simpa using h
theorem valsC_len2 (c : Col) (n : Nat) : (valsC c n).length = n := by simp [valsC]
theorem valsC_take (c : Col) (n i : Nat) (h : i ≤ n) : (valsC c n).take i = valsC c i := by
  unfold valsC
  rw [← List.map_take]
  congr 1
  refine List.ext_getElem (by simp; omega) fun j h1 h2 => by simp
theorem fixed_data {c : Col} (hc : COK c) (h : checkC c = 0) (h1 : c.k ≠ 15) (h2 : c.k ≠ 16) : (CS.of c.k (valsC c c.n.toNat)).data = c.data ∧ c.ends = [] ∧ c.words = [] := by
  obtain ⟨ho, hm, hn, hmay⟩ := check_zero h
  obtain ⟨W, hW, hW1, hW8⟩ := width_pos ho h1
  unfold mayB at hmay
  rw [if_neg h1, if_neg h2, hW, Int.toNat_natCast] at hmay
  unfold mayFixed sizedB at hmay
  simp only [Bool.and_eq_true, beq_iff_eq, List.all_eq_true, List.isEmpty_iff] at hmay
  obtain ⟨⟨⟨⟨hs1, hs2⟩, hs3⟩, hs4⟩, hall⟩ := hmay
  have hN : c.n.toNat * W = c.data.length := by
    have : c.n.toNat = c.data.length / W := by rw [← hs2, Int.toNat_natCast]
    rw [this]
    exact Nat.div_mul_cancel (Nat.dvd_of_mod_eq_zero hs1)
  refine ⟨?_, hs3, hs4⟩
  rw [fixed_of h1 h2, hW, Int.toNat_natCast]
  show ((valsC c c.n.toNat).map (·.bits)).flatMap (fun x => lows x W) = c.data
  unfold valsC
  rw [List.map_map, List.flatMap_map]
  have := chop c.data W c.n.toNat
  rw [hN, List.take_length] at this
  rw [← this]
  refine flatMap_congr_range fun i hi => ?_
  have hle : i * W + W ≤ c.data.length := by rw [← hN, ← Nat.add_one_mul]; exact Nat.mul_le_mul_right _ hi
  have ha := hall i (List.mem_range.2 hi)
  simp only [Function.comp, valC]
  rw [← lows_word hc.data _ _ hle]
  split
  · rename_i hnl
    rw [if_pos hnl] at ha
    rw [beq_iff_eq.1 ha]
  · unfold valueC
    rw [if_neg h1, if_neg h2, hW, Int.toNat_natCast]
theorem running_facts2 {c : Col} (hc : COK c) (h : checkC c = 0) (h1 : c.k = 15) : (c.ends.length : Int) = c.n ∧ c.words = [] ∧ aheadI c.ends c.ends.length = (c.data.length : Int) ∧
    ∀ i, i < c.ends.length → aheadI c.ends i ≤ c.ends.getD i 0 ∧ c.ends.getD i 0 ≤ (c.data.length : Int) ∧ (nullB c.bits i = true → c.ends.getD i 0 = aheadI c.ends i) := by
  obtain ⟨ho, hm, hn, hmay⟩ := check_zero h
  unfold mayB at hmay
  rw [if_pos h1] at hmay
  unfold mayRunning at hmay
  simp only [Bool.and_eq_true, beq_iff_eq, List.all_eq_true, List.isEmpty_iff] at hmay
  obtain ⟨⟨⟨h2, h3⟩, h4⟩, h5⟩ := hmay
  refine ⟨h2, h3, h5, fun i hi => ?_⟩
  have := h4 i (List.mem_range.2 hi)
  simp only [Bool.not_eq_true', Bool.or_eq_false_iff, Bool.and_eq_false_iff, decide_eq_false_iff_not, bne_eq_false_iff_eq] at this
  refine ⟨by omega, by omega, fun hnl => ?_⟩
  rcases this.2 with h | h
  · rw [hnl] at h; cases h
  · exact h
theorem ahead_succ (ends : List Int) (i : Nat) : aheadI ends (i + 1) = ends.getD i 0 := by rw [aheadI, if_neg (by omega)]; rfl
theorem running_text {c : Col} (hc : COK c) (h : checkC c = 0) (h1 : c.k = 15) : ∀ i, i ≤ c.ends.length → 0 ≤ aheadI c.ends i ∧ (aheadI c.ends i).toNat ≤ c.data.length ∧ (valsC c i).flatMap (·.text) = c.data.take (aheadI c.ends i).toNat
  | 0, _ => by simp [aheadI, valsC]
  | i + 1, hi => by
    obtain ⟨g0, g1, g2⟩ := running_text hc h h1 i (by omega)
    obtain ⟨_, _, _, hf⟩ := running_facts2 hc h h1
    obtain ⟨f1, f2, f3⟩ := hf i (by omega)
    rw [ahead_succ]
    refine ⟨by omega, by omega, ?_⟩
    rw [valsC_snoc, List.flatMap_append, g2]
    simp only [List.flatMap_cons, List.flatMap_nil, List.append_nil, valC]
    split
    · rename_i hnl
      rw [f3 hnl]; simp
    · unfold valueC
      rw [if_pos h1]
      show c.data.take (aheadI c.ends i).toNat ++ (c.data.drop (aheadI c.ends i).toNat).take (c.ends.getD i 0 - aheadI c.ends i).toNat = _
      rw [← List.take_add]
      congr 1
      omega
theorem running_col {c : Col} (hc : COK c) (h : checkC c = 0) (h1 : c.k = 15) : (CS.of 15 (valsC c c.n.toNat)).data = c.data ∧ (CS.of 15 (valsC c c.n.toNat)).ends = c.ends ∧ c.words = [] := by
  obtain ⟨f1, f2, f3, f4⟩ := running_facts2 hc h h1
  have hN : c.n.toNat = c.ends.length := by omega
  rw [hN]
  obtain ⟨g0, g1, g2⟩ := running_text hc h h1 c.ends.length (Nat.le_refl _)
  refine ⟨?_, ?_, f2⟩
  · rw [(running_data _).1, g2, f3]; simp
  · obtain ⟨e1, e2⟩ := running_ends (valsC c c.ends.length)
    rw [valsC_len2] at e1 e2
    refine List.ext_getElem e1 fun i hi hi2 => ?_
    have e3 := e2 i hi2
    rw [valsC_take _ _ _ (by omega)] at e3
    obtain ⟨g3, g4, g5⟩ := running_text hc h h1 (i + 1) (by omega)
    rw [g5, List.length_take, Nat.min_eq_left g4, ahead_succ] at e3
    rw [List.getD_eq_getElem?_getD, List.getElem?_eq_getElem hi] at e3
    rw [ahead_succ] at g3
    rw [show (some (CS.of 15 (valsC c c.ends.length)).ends[i]).getD 0 = (CS.of 15 (valsC c c.ends.length)).ends[i] from rfl] at e3
    rw [e3, List.getD_eq_getElem?_getD, List.getElem?_eq_getElem hi2] at *
    simp only [Option.getD_some] at *
    omega
theorem nodup_take {ws : List (List Int)} (h : ws.Nodup) (i : Nat) (hi : i < ws.length) : (ws.take i).contains ws[i] = false := by
  rw [List.contains_eq_mem, decide_eq_false_iff_not]
  intro hm
  obtain ⟨j, hj, e⟩ := List.mem_iff_getElem.1 hm
  rw [List.length_take] at hj
  rw [List.getElem_take] at e
  exact (List.pairwise_iff_getElem.1 h) j i (by omega) hi (by omega) e
theorem coded_step {c : Col} (h : checkC c = 0) (h2 : c.k = 16) (i : Nat) (hi : i < c.n.toNat) : ∃ m next, codedRun c i = some m ∧ codedRun c (i + 1) = some next ∧
    (if (valC c i).null then 0 else codeOf (c.words.take m) (valC c i).text) = wordAt c.data (i * 4) 4 ∧ (if (valC c i).null then c.words.take m else addWord (c.words.take m) (valC c i).text) = c.words.take next := by
  obtain ⟨_, hr⟩ := coded_facts h h2
  have hnd : c.words.Nodup := by
    obtain ⟨_, _, _, h4⟩ := check_zero h
    unfold mayB at h4
    rw [if_neg (by omega), if_pos h2] at h4
    unfold mayCoded at h4
    simp only [Bool.and_eq_true, beq_iff_eq, decide_eq_true_eq] at h4
    exact h4.1.2
  obtain ⟨next, hx⟩ := codedRun_pre c.n.toNat (i + 1) (by omega) hr
  have hle := codedRun_le c.n.toNat (i + 1) (by omega) hx hr
  obtain ⟨m, hm⟩ := codedRun_pre (i + 1) i (by omega) hx
  refine ⟨m, next, hm, hx, ?_⟩
  rw [codedRun, hm, Option.bind_some] at hx
  unfold codedStep at hx
  dsimp only at hx
  cases hnl : nullB c.bits i with
  | true =>
    have hv : valC c i = ⟨true, 0, []⟩ := by rw [valC, if_pos hnl]
    rw [hv]
    rw [hnl] at hx
    simp only [Bool.true_and, Bool.not_true, Bool.false_and, Bool.false_eq_true, if_false] at hx
    split at hx
    · cases hx
    · rename_i hz
      cases hx
      simp only [Bool.or_eq_true, not_or, bne_iff_ne, ne_eq, Decidable.not_not] at hz
      exact ⟨by simpa using hz.1.symm, by simp⟩
  | false =>
    have hcode := check_code h h2 (i := i) (by omega) hnl
    have hv : valC c i = ⟨false, 0, c.words.getD (wordAt c.data (i * 4) 4) []⟩ := by
      rw [valC, if_neg (by rw [hnl]; decide), valueC, if_neg (by omega), if_pos h2]
    have ht : c.words.getD (wordAt c.data (i * 4) 4) [] = c.words[wordAt c.data (i * 4) 4] := by
      rw [List.getD_eq_getElem?_getD, List.getElem?_eq_getElem hcode]; rfl
    rw [hv, ht]
    rw [hnl] at hx
    simp only [Bool.false_and, Bool.false_or, Bool.not_false, Bool.true_and, decide_eq_true_eq] at hx
    simp only [Bool.false_eq_true, if_false]
    have hnt := nodup_take hnd _ hcode
    split at hx
    · cases hx
    · rename_i hz
      split at hx
      · rename_i he
        have he := beq_iff_eq.1 he
        cases hx
        rw [← he]
        rw [codeOf_new hnt, addWord_new hnt]
        exact ⟨by rw [List.length_take]; omega, by rw [List.take_succ_eq_append_getElem hcode]⟩
      · rename_i he
        have he : wordAt c.data (i * 4) 4 ≠ m := fun e => he (beq_iff_eq.2 e)
        cases hx
        have hl : wordAt c.data (i * 4) 4 < (c.words.take next).length := by rw [List.length_take]; omega
        obtain ⟨q1, q2⟩ := code_at (ws := c.words.take next) (t := c.words[wordAt c.data (i * 4) 4]) hl (by rw [List.take_take, Nat.min_eq_left (by omega)]; exact hnt) (by rw [List.getElem_take])
        exact ⟨q2, addWord_old q1⟩
theorem coded_words {c : Col} (h : checkC c = 0) (h2 : c.k = 16) : ∀ i, i ≤ c.n.toNat → ∀ m, codedRun c i = some m → wordsOf [] (valsC c i) = c.words.take m
  | 0, _, m, hm => by cases hm; simp [valsC, wordsOf]
  | i + 1, hi, m, hm => by
    obtain ⟨a, b, e1, e2, e3, e4⟩ := coded_step h h2 i hi
    rw [hm] at e2; cases e2
    rw [valsC_snoc, words_app, coded_words h h2 i (by omega) a e1]
    simp only [wordsOf]
    exact e4
theorem coded_col {c : Col} (hc : COK c) (h : checkC c = 0) (h2 : c.k = 16) : (CS.of 16 (valsC c c.n.toNat)).data = c.data ∧ c.ends = [] ∧ (CS.of 16 (valsC c c.n.toNat)).words = c.words := by
  obtain ⟨hs, hr⟩ := coded_facts h h2
  unfold sizedB at hs
  simp only [Bool.and_eq_true, beq_iff_eq, List.isEmpty_iff] at hs
  obtain ⟨⟨hs1, hs2⟩, hs3⟩ := hs
  have hN : c.n.toNat * 4 = c.data.length := by omega
  rw [coded_of]
  refine ⟨?_, hs3, ?_⟩
  · show (codesOf [] (valsC c c.n.toNat)).flatMap (fun x => lows x 4) = c.data
    have e : codesOf [] (valsC c c.n.toNat) = (List.range c.n.toNat).map fun i => wordAt c.data (i * 4) 4 := by
      refine List.ext_getElem (by rw [codes_len, valsC_len2]; simp) fun i hi hj => ?_
      have hi2 : i < c.n.toNat := by simpa using hj
      have g := codes_get (valsC c c.n.toNat) [] i (by rw [valsC_len2]; exact hi2)
      rw [List.getElem?_eq_getElem hi] at g
      have g := Option.some.inj g
      rw [g]
      have hg : (valsC c c.n.toNat)[i]'(by rw [valsC_len2]; exact hi2) = valC c i := by simp [valsC]
      rw [hg, valsC_take _ _ _ (by omega)]
      obtain ⟨a, b, e1, e2, e3, e4⟩ := coded_step h h2 i hi2
      rw [coded_words h h2 i (by omega) a e1, e3]
      simp
    rw [e, List.flatMap_map]
    have := chop c.data 4 c.n.toNat
    rw [hN, List.take_length] at this
    refine Eq.trans (flatMap_congr_range fun i hi => ?_) this
    exact lows_word hc.data _ _ (by omega)
  · show wordsOf [] (valsC c c.n.toNat) = c.words
    rw [coded_words h h2 c.n.toNat (Nat.le_refl _) _ hr, List.take_length]
end Go.Proofs.YtmhjjhaipcgbiaaGreat


namespace Go.Proofs.YtmhjjhaipcgbiaaGreat
open Go.RowKit
set_option linter.unusedVariables false
set_option linter.unusedSimpArgs false
set_option maxRecDepth 100000
set_option maxHeartbeats 1000000
theorem of_checked {c : Col} (hc : COK c) (h : checkC c = 0) : c = colOf c.k c.s (valsC c c.n.toNat) := by
  obtain ⟨ho, hm, hn, hmay⟩ := check_zero h
  have hm0 := ((maskOK_iff hc.bits).1 hm).1
  have hnl : (CS.of c.k (valsC c c.n.toNat)).nulls = bitsOf c.bits c.n.toNat := by rw [nulls_of, valsC_nulls]
  have hlen : ((CS.of c.k (valsC c c.n.toNat)).nulls.length : Int) = c.n := by rw [hnl, bitsOf_len]; omega
  have hbits : c.bits = mof (CS.of c.k (valsC c c.n.toNat)).nulls := by rw [hnl, ← hn]; exact mof_inv hc.bits hm
  have hrest : (CS.of c.k (valsC c c.n.toNat)).data = c.data ∧ (CS.of c.k (valsC c c.n.toNat)).ends = c.ends ∧ (CS.of c.k (valsC c c.n.toNat)).words = c.words := by
    by_cases h1 : c.k = 15
    · obtain ⟨a1, a2, a3⟩ := running_col hc h h1
      rw [h1]
      exact ⟨a1, a2, by rw [(running_data _).2, a3]⟩
    · by_cases h2 : c.k = 16
      · obtain ⟨a1, a2, a3⟩ := coded_col hc h h2
        rw [h2]
        exact ⟨a1, by rw [coded_of, a2], a3⟩
      · obtain ⟨a1, a2, a3⟩ := fixed_data hc h h1 h2
        obtain ⟨W, hW, hW1, hW8⟩ := width_pos ho h1
        obtain ⟨d1, d2, d3⟩ := fixed_len h1 h2 hW (valsC c c.n.toNat)
        exact ⟨a1, by rw [d2, a2], by rw [d3, a3]⟩
  obtain ⟨r1, r2, r3⟩ := hrest
  show (⟨c.k, c.s, c.n, c.m, c.bits, c.data, c.ends, c.words⟩ : Col) = ⟨c.k, c.s, _, _, _, _, _, _⟩
  rw [Col.mk.injEq]
  exact ⟨rfl, rfl, hlen.symm, by rw [hlen, hn], hbits, r1.symm, r2.symm, r3.symm⟩
theorem zero64 : (0 : Nat) < 18446744073709551616 := by decide
theorem getD_bytes {ws : List (List Int)} (h : ∀ t ∈ ws, IsBytes t ∧ t.length ≤ 100000000) (i : Nat) : IsBytes (ws.getD i []) := by
  rw [List.getD_eq_getElem?_getD]
  cases e : ws[i]? with
  | none => intro x hx; cases hx
  | some t => exact (h t (List.mem_of_getElem? e)).1
theorem piece_bytes {data : List Int} (h : IsBytes data) (a b : Nat) : IsBytes ((data.drop a).take b) := fun x hx => h x (List.mem_of_mem_drop (List.mem_of_mem_take hx))
theorem word_64 {data : List Int} (h : IsBytes data) (o : Nat) {k s : Int} (ho : okType k s = true) (h1 : k ≠ 15) : wordAt data o (widthOf k).toNat < 18446744073709551616 := by
  obtain ⟨W, hW, hW1, hW8⟩ := width_pos ho h1
  have hWn : (widthOf k).toNat = W := by rw [hW]; rfl
  rw [hWn]
  refine Nat.lt_of_lt_of_le (wordAt_lt h o W) ?_
  exact Nat.le_trans (Nat.pow_le_pow_right (by decide) hW8) (by decide)
theorem vals_ok {c : Col} (hc : COK c) (h : checkC c = 0) : ∀ v ∈ valsC c c.n.toNat, vOK c.k c.s v := by
  obtain ⟨ho, hm, hn, hmay⟩ := check_zero h
  intro v hv
  obtain ⟨i, hi, rfl⟩ := List.mem_map.1 hv
  have hi := List.mem_range.1 hi
  cases hnl : nullB c.bits i with
  | true =>
    rw [valC, if_pos hnl]
    exact ⟨fun x hx => (by cases hx), zero64, fun _ => ⟨rfl, rfl⟩, fun e => (by cases e)⟩
  | false =>
    rw [valC, if_neg (by rw [hnl]; decide), valueC]
    by_cases h1 : c.k = 15
    · rw [if_pos h1]
      exact ⟨piece_bytes hc.data _ _, zero64, fun e => (by cases e), fun _ => by simp [wordedB, h1]⟩
    rw [if_neg h1]
    by_cases h2 : c.k = 16
    · rw [if_pos h2]
      exact ⟨getD_bytes hc.words _, zero64, fun e => (by cases e), fun _ => by simp [wordedB, h2]⟩
    rw [if_neg h2]
    refine ⟨fun x hx => (by cases hx), word_64 hc.data _ ho h1, fun e => (by cases e), fun _ => ?_⟩
    have hw : wordedB c.k = false := by simp [wordedB, h1, h2]
    rw [hw, if_neg (by decide)]
    refine ⟨?_, rfl⟩
    unfold mayB at hmay
    rw [if_neg h1, if_neg h2] at hmay
    unfold mayFixed at hmay
    simp only [Bool.and_eq_true, List.all_eq_true] at hmay
    have := hmay.2 i (List.mem_range.2 hi)
    rwa [if_neg (by rw [hnl]; decide)] at this
theorem step_ok {c : Col} (hc : COK c) (ho : okType c.k c.s = true) {i p : Nat} {v : V} {q : Nat} (h : rdStep c i p = some (v, q)) : vOK c.k c.s (nrm v) := by
  have hnull : ∀ b t, vOK c.k c.s (nrm ⟨true, b, t⟩) := fun b t => ⟨fun x hx => (by cases hx), zero64, fun _ => ⟨rfl, rfl⟩, fun e => (by cases e)⟩
  unfold rdStep at h
  by_cases h1 : c.k = 15
  · rw [if_pos h1] at h
    split at h
    · cases h
      cases hnl : nullB c.bits i with
      | true => exact hnull _ _
      | false => exact ⟨piece_bytes hc.data _ _, zero64, fun e => (by cases e), fun _ => by simp [wordedB, h1, nrm]⟩
    · cases h
  rw [if_neg h1] at h
  split at h
  · split at h
    · cases h; exact hnull _ _
    · split at h
      · rename_i h2
        split at h
        · cases h
          exact ⟨getD_bytes hc.words _, zero64, fun e => (by cases e), fun _ => by simp [wordedB, h2, nrm]⟩
        · cases h
      · rename_i h2
        split at h
        · rename_i hf
          cases h
          have hw : wordedB c.k = false := by simp [wordedB, h1, h2]
          refine ⟨fun x hx => (by cases hx), word_64 hc.data _ ho h1, fun e => (by cases e), fun _ => ?_⟩
          rw [hw, if_neg (by decide)]
          exact ⟨hf, rfl⟩
        · cases h
  · cases h
theorem run_ok {c : Col} (hc : COK c) (ho : okType c.k c.s = true) : ∀ {i : Nat} {l : List V} {p : Nat}, rdRun c i = some (l, p) → ∀ v ∈ l.map nrm, vOK c.k c.s v
  | 0, l, p, h => by simp [rdRun] at h; rw [h.1]; intro v hv; cases hv
  | i + 1, l, p, h => by
    rw [rdRun] at h
    obtain ⟨x, h1, h2⟩ := Option.bind_eq_some_iff.1 h
    obtain ⟨y, h3, h4⟩ := Option.map_eq_some_iff.1 h2
    cases h4
    rw [List.map_append]
    intro v hv
    rcases List.mem_append.1 hv with hv | hv
    · exact run_ok hc ho (l := x.1) (p := x.2) h1 v hv
    · obtain rfl : v = nrm y.1 := by simpa using hv
      exact step_ok hc ho (v := y.1) (q := y.2) h3
theorem of_read {c : Col} (hc : COK c) {l : List V} (h : readC c = some l) : okType c.k c.s = true ∧ c = colOf c.k c.s (l.map nrm) ∧ (∀ v ∈ l.map nrm, vOK c.k c.s v) ∧ l.length = c.n.toNat := by
  unfold readC at h
  split at h
  · rename_i hg
    unfold readRows at h
    obtain ⟨x, h1, h2⟩ := Option.bind_eq_some_iff.1 h
    split at h2
    · rename_i he
      cases h2
      refine ⟨hg.1, ?_, run_ok hc hg.1 (p := x.2) h1, rdRun_len (p := x.2) h1⟩
      unfold equalC at he
      have he := of_decide_eq_true he
      obtain ⟨e1, e2, e3, e4, e5, e6, e7, e8⟩ := he
      show (⟨c.k, c.s, c.n, c.m, c.bits, c.data, c.ends, c.words⟩ : Col) = ⟨(colOf c.k c.s (x.1.map nrm)).k, (colOf c.k c.s (x.1.map nrm)).s, _, _, _, _, _, _⟩
      rw [Col.mk.injEq]
      exact ⟨rfl, rfl, e3.symm, e4.symm, e5.symm, e6.symm, e7.symm, e8.symm⟩
    · cases h2
  · cases h
theorem read_checked {c : Col} (hc : COK c) (hm : c.m = c.n → c.n ≤ 100000000) (h : checkC c = 0) : readC c = some (valsC c c.n.toNat) := by
  have e := of_checked hc h
  have := read_built (check_zero h).1 (valsC c c.n.toNat) (vals_ok hc h) (by have := hm (check_zero h).2.2.1; rw [valsC_len2]; omega)
  rwa [← e] at this
theorem check_read {c : Col} (hc : COK c) (hm : c.m = c.n → c.n ≤ 100000000) {l : List V} (h : readC c = some l) : checkC c = 0 ∧ l = valsC c c.n.toNat := by
  obtain ⟨ho, e, hv, hl⟩ := of_read hc h
  have hm' : c.n ≤ 100000000 := hm (by unfold readC at h; split at h; · rename_i hg; exact hg.2.2
                                       · cases h)
  have hz : checkC c = 0 := by
    have := built_ok ho (l.map nrm) hv (by rw [List.length_map]; omega)
    rw [show (CS.of c.k (l.map nrm)).col c.k c.s = c from e.symm] at this
    exact this
  refine ⟨hz, ?_⟩
  have := read_checked hc hm hz
  rw [h] at this
  exact Option.some.inj this
theorem readE_check {c : Col} (hc : COK c) (hm : c.m = c.n → c.n ≤ 100000000) : readE c = checkC c := by
  unfold readE
  cases ho : okType c.k c.s with
  | false => rw [if_pos rfl]; exact checkC_type ho
  | true =>
    rw [if_neg (by decide)]
    by_cases hz : checkC c = 0
    · rw [read_checked hc hm hz, hz]; rfl
    · cases hr : readC c with
      | some l => exact absurd (check_read hc hm hr).1 hz
      | none =>
        unfold checkC at hz ⊢
        rw [if_neg (by simp [ho])] at hz ⊢
        split at hz
        · exact absurd rfl hz
        · rename_i hf; rw [if_neg hf, if_neg (by simp [ho])]
end Go.Proofs.YtmhjjhaipcgbiaaGreat


namespace Go.Proofs.YtmhjjhaipcgbiaaGreat
open Go.RowKit
set_option linter.unusedVariables false
set_option linter.unusedSimpArgs false
set_option maxRecDepth 100000
set_option maxHeartbeats 4000000
theorem read18_any (c : Col) (hc : COK c) (hs : Small18 c) (B D E X : SL) (vals : List Value) (w : World) (h : RdC w c B D E X vals) : Calls Tryz.prog 84 #[colV c B D E X] w (Read18P c B D E X vals w) := by
  obtain ⟨w0, ew0⟩ : ∃ x, x = w.alloc (.cells #[.int .i64 c.k, .int .i64 c.s, .int .i64 c.n, .int .i64 c.m, .slice B.a c.bits.length B.c, .slice D.a c.data.length D.c, .slice E.a c.ends.length E.c, .slice X.a c.words.length X.c] 63) := ⟨_, rfl⟩
  have hb0 : Below w.heap.size w w0 := by rw [ew0]; exact below_new w _
  have hx0 : w0.heap[w.heap.size]? = some (colB c B D E X) := by rw [ew0]; exact heap_alloc_new w _
  have HR := Aside.mk h
  have HC := Aside.mk hc
  have HSM := Aside.mk hs
  have HB0 := Aside.mk hb0
  have HX0 := Aside.mk hx0
  obtain ⟨d0, d1, d2, d3, d4, d5, d6, d7⟩ := box8 hx0
  have HCT := Aside.mk (fun W => r18check_any c.k c.s W)
  clear h hc hs hb0 hx0
  dsimp only [colV]
  cases hok : okType c.k c.s with
  | false =>
    have HOK := Aside.mk hok
    rw [hok] at HCT
    clear hok
    go_enter Tryz.func84, Tryz.ntmps84
    go_upto_region 1 with fail
    rw [← ew0]
    clear ew0
    go_wp2_with (go_at_call 13; refine (HCT.out _).mono ?_; rintro e w1 ⟨rfl, hb1⟩; have HB1 := Aside.mk (below_chain HB0.out hb1); clear hb1)
    go_ret2
    refine ⟨HB1.out, ?_⟩
    have e : readC c = none := by unfold readC; rw [if_neg (fun h => by have := HOK.out; rw [h.1] at this; cases this)]
    rw [e]
    show _ = Ending.returned (.tuple #[.slice none 0 0, .int .i64 (readE c)])
    unfold readE
    rw [if_pos HOK.out]
    rfl
  | true =>
    have HOK := Aside.mk hok
    rw [hok] at HCT
    clear hok
    go_enter Tryz.func84, Tryz.ntmps84
    go_upto_region 1 with fail
    rw [← ew0]
    clear ew0
    go_upto_region 4 with (go_at_call 13; refine (HCT.out _).mono ?_; rintro e w1 ⟨rfl, hb1⟩; have HX1 := Aside.mk ((hb1.block _ (lt_of_blk HX0.out)).trans HX0.out); have HB1 := Aside.mk (below_chain HB0.out hb1); clear hb1 d0 d1 d2 d3 d4 d5 d6 d7; obtain ⟨d0, d1, d2, d3, d4, d5, d6, d7⟩ := box8 HX1.out)
    clear HX0 HB0
    go_wp2_with fail
    refine (read16_any c.m c.bits B HC.out.lb HC.out.bits w1 (HR.out.below HB1.out).bits).mono ?_
    rintro e w2 ⟨hb2, ⟨hm, na, nc, rfl, hno⟩ | ⟨hm, rfl⟩⟩
    · have HX2 := Aside.mk ((hb2.block _ (lt_of_blk HX1.out)).trans HX1.out)
      have HB2 := Aside.mk (below_chain HB1.out hb2)
      have HNO := Aside.mk (hno.mono HB1.out.size)
      have HMO := Aside.mk hm
      have hm0 := ((maskOK_iff HC.out.bits).1 hm).1
      clear hb2 hno hm d0 d1 d2 d3 d4 d5 d6 d7
      obtain ⟨d0, d1, d2, d3, d4, d5, d6, d7⟩ := box8 HX2.out
      obtain ⟨N, hN⟩ := Int.eq_ofNat_of_zero_le hm0
      rw [hN] at HNO d3
      have HN := Aside.mk hN
      rw [hN]
      clear hN hm0
      rw [Int.toNat_natCast] at HNO ⊢
      have hNm := HNO.out.max
      by_cases hnn : (N : Int) = c.n
      · have HNN := Aside.mk hnn.symm
        rw [← hnn] at d2
        clear hnn
        obtain ⟨W, hW, hW8⟩ := width_nat c.k
        have HWD := Aside.mk (fun w' => show Calls Tryz.prog 78 #[.int .i64 c.k] w' fun e w'' => e = .returned (.int .i64 (W : Int)) ∧ w' = w'' from by have := r18width_any c.k w'; rwa [hW] at this)
        have HWK := Aside.mk hW
        clear hW
        go_wp2_with (go_at_call 78; refine (HWD.out _).mono ?_; rintro e wx ⟨rfl, rfl⟩)
        go_loopw [7, 8, 10] (fun lv pv iv wr => ∃ (i p : Nat) (a : Option Addr) (cp : Nat), i ≤ N ∧ lv = .slice a i cp ∧ pv = .int .i64 (p : Int) ∧ iv = .int .i64 (i : Int) ∧ Aside (∃ l xs, R18I c B D E X vals w wr (.slice na N nc) N i p l ⟨a, cp⟩ xs)) (fun _ _ iv _ => N - (intOf iv).toNat)
        case atStart => exact ⟨0, 0, none, 0, by omega, rfl, rfl, rfl, ⟨[], [], HB2.out, HX2.out, HNO.out, Own.nil _ _ _ _, fun i v hi => (by simp at hi), rfl⟩⟩
        case round =>
          obtain ⟨i, p, a, cp, hi, rfl, rfl, rfl, hp⟩ := hrel
          obtain ⟨l, xs, hI⟩ := hp.out
          clear hp d0 d1 d2 d3 d4 d5 d6 d7
          have hpl := (rdRun_wf HC.out HSM.out hI.run).2
          have hdl := HC.out.ld
          have hel := HC.out.le
          have hwl := HC.out.lw
          obtain ⟨d0, d1, d2, d3, d4, d5, d6, d7⟩ := box8 hI.box
          rw [HNN.out] at d2
          have HI := Aside.mk hI
          have hll := hI.len
          have hrow := hI.row
          rw [hll] at hrow
          have HROW := Aside.mk hrow
          have HLL := Aside.mk hll
          have hsz := hI.bel.size
          have hlt0 := lt_of_blk hI.box
          clear hI hrow hll
          have hN2 : N ≤ 20000 := by have := HSM.out.1 (HN.out.trans HNN.out.symm); have := HNN.out; omega
          by_cases hlt : i < N
          · obtain ⟨g, off, rfl, hcb⟩ := HI.out.bit hlt
            have hnc := own_capR HI.out.nulls
            have HFAIL := Aside.mk (fun (hs : rdStep c i p = none) => read_fail HI.out.run hs (by have := HNN.out; omega))
            have HNEXT := Aside.mk (show ∀ (v : V) (p' : Nat), rdStep c i p = some (v, p') → ∀ {w2 w5 : World} {ta : Option Addr} {tc tn : Nat} {v5 : Value}, AppP w2 w.heap.size 50 3 (.slice a i cp) i xs 1 [.bool v.null, .int .u64 (v.bits : Int), .slice ta tn tc] v5 w5 → v.text.length = tn → Below wr.heap.size wr w2 → (∀ W, RdC W c B D E X vals → Rd W 1 (.slice ta tn tc) tn (v.text.map (.int .u8))) →
                ∃ a5 c5, v5 = .slice a5 (i + 1) c5 ∧ R18I c B D E X vals w w5 (.slice (some ⟨g, off, none⟩) N nc) N (i + 1) p' (l ++ [v]) ⟨a5, c5⟩ (xs ++ [.bool v.null, .int .u64 (v.bits : Int), .slice ta v.text.length tc]) from by
              intro v p' hs w2 w5 ta tc tn v5 hA htn hb ht
              subst htn
              exact HI.out.next hs hb ht (by dsimp only; rw [HLL.out]; exact hA))
            obtain ⟨nl, hnl⟩ : ∃ b, b = nullB c.bits i := ⟨_, rfl⟩
            rw [← hnl] at hcb
            have HNL := Aside.mk hnl.symm
            clear hnl
            go_upto_region 14 with fail
            have hv3 := heap_alloc_new wr (.cells #[.bool nl, .int .u64 0, .slice none 0 0] 50)
            have hb3 := below_new wr (.cells #[.bool nl, .int .u64 0, .slice none 0 0] 50)
            generalize wr.alloc (.cells #[.bool nl, .int .u64 0, .slice none 0 0] 50) = w3 at *
            clear d0 d1 d2 d3 d4 d5 d6 d7 hcb
            obtain ⟨d0, d1, d2, d3, d4, d5, d6, d7⟩ := box8 ((hb3.block _ hlt0).trans HI.out.box)
            rw [HNN.out] at d2
            have HV3 := Aside.mk hv3
            have HB3 := Aside.mk hb3
            have hlv := lt_of_blk hv3
            obtain ⟨v0, v1, v2⟩ : w3.cell? ⟨wr.heap.size, 0, none⟩ = some (.bool nl) ∧ w3.cell? ⟨wr.heap.size, 1, none⟩ = some (.int .u64 0) ∧ w3.cell? ⟨wr.heap.size, 2, none⟩ = some (.slice none 0 0) := by refine ⟨?_, ?_, ?_⟩ <;> (rw [cell_blk hv3]; rfl)
            have vf := fun k => frozen_blk (k := k) hv3
            clear hv3
            by_cases h15 : c.k = 15
            · have k15 : (c.k == 15) = true := by simpa using h15
              have K15 := Aside.mk h15
              clear h15
              by_cases he1 : i < c.ends.length
              · obtain ⟨g2, off2, cap2, hs2, hlc2, hcap2, hc2⟩ := rd_get HR.out.ends i he1
                have he := ((below_chain HI.out.bel HB3.out).cell (p := ⟨g2, off2 + i, none⟩) (World.block_lt_of_cell? _ _ hc2)).trans hc2
                have hg2 : g2 < wr.heap.size := Nat.lt_of_lt_of_le (World.block_lt_of_cell? _ _ hc2) hsz
                have hg3 : g2 ≠ wr.heap.size := Nat.ne_of_lt hg2
                simp only [Value.slice.injEq, true_and] at hs2
                obtain ⟨e1, e2⟩ := hs2
                rw [e1, e2] at d6
                have hev := HC.out.ends (c.ends.getD i 0) (by rw [List.getD_eq_getElem?_getD, List.getElem?_eq_getElem he1]; exact List.getElem_mem he1)
                unfold IsI64 at hev
                obtain ⟨ev, hevv⟩ : ∃ x, x = c.ends.getD i 0 := ⟨_, rfl⟩
                rw [← hevv] at he hev
                have HEV := Aside.mk hevv.symm
                clear hevv hc2 e1 e2
                have f1 : decide ((c.ends.length : Int) ≤ (i : Int)) = false := by simpa using he1
                have f2 : decide (c.ends.length ≤ i) = false := by simpa using he1
                by_cases he2 : ev < (p : Int)
                · have f3 : decide (ev < (p : Int)) = true := by simpa using he2
                  have HF := Aside.mk (HFAIL.out (by unfold rdStep; rw [if_pos K15.out, if_neg (fun h => by have := HEV.out; omega)]))
                  go_upto_region 15 with fail
                  go_quiet (fail)
                  go_wp2_with fail
                  go_ret2
                  exact read18_no HF.out HOK.out ((below_chain HI.out.bel HB3.out).trans (below_drewN _ _ _))
                have f3 : decide (ev < (p : Int)) = false := by simpa using he2
                by_cases he3 : (c.data.length : Int) < ev
                · have f4 : decide ((c.data.length : Int) < ev) = true := by simpa using he3
                  have HF := Aside.mk (HFAIL.out (by unfold rdStep; rw [if_pos K15.out, if_neg (fun h => by have := HEV.out; omega)]))
                  go_upto_region 15 with fail
                  go_quiet (fail)
                  go_wp2_with fail
                  go_ret2
                  exact read18_no HF.out HOK.out ((below_chain HI.out.bel HB3.out).trans (below_drewN _ _ _))
                obtain ⟨en, rfl⟩ := Int.eq_ofNat_of_zero_le (show 0 ≤ ev by omega)
                have hs5 := fun W => run_slice_mid (P := Tryz.prog) Tryz.underlying43 (sz := 1) (by kernel_rfl) D.a c.data.length D.c p en (by omega) (Nat.le_trans (by omega) (rd_cap HR.out.data)) W
                have HTX := Aside.mk (show ∀ W, RdC W c B D E X vals → Rd W 1 (.slice (cutA D.a D.c p 1) (en - p) (D.c - p)) (en - p) (((c.data.drop p).take (en - p)).map (.int .u8)) from fun W hW => by
                  have := hW.data.mid (i := p) (j := en) (by omega) (by omega)
                  rwa [Nat.mul_one, Nat.mul_one, ← List.map_drop, ← List.map_take] at this)
                have f4 : decide ((c.data.length : Int) < (en : Int)) = false := by simpa using he3
                generalize cutA D.a D.c p 1 = ta at *
                generalize D.c - p = tc at *
                go_upto_region 15 with fail
                go_quiet (fail)
                go_upto_region 17 with fail
                go_region
                have k16 : (c.k == 16) = false := by rw [K15.out]; rfl
                have k15n : (c.k != 15) = false := by rw [K15.out]; rfl
                cases nl
                all_goals
                  go_wp2_with (at_builtin; go_loud (refine wpList_app2 _ rfl _ _ 33 33 rfl w.heap.size 50 (.agg #[.bool false, .int .u64 0, .slice none 0 0]) 3 40 Tryz.underlying33 valinfo rfl _ i xs rfl (HROW.out.below ((by repeat (first | exact Below.refl _ _ | assumption | (refine Below.drew ?_) | (refine Below.trans ?_ (below_drewN _ _ _)) | (refine Below.alloc ?_ (by first | omega | (simp; done) | (simp; omega)) _) | (refine Below.setCell ?_ (by first | omega | (simp; done) | (simp; omega)) _))))) _ 1 [_, _, _] rfl (src_valB w3.heap.size _ _ _ rfl rfl rfl (by simp)) (by unfold maxLen; omega) (by omega) (by simp; omega) ?_))
                  intro v5 w5 hA
                  have HPC := Aside.mk (show ((c.data.drop p).take (en - p)).length = en - p from by rw [List.length_take, List.length_drop]; omega)
                  obtain ⟨a5, c5, rfl, hI5⟩ := HNEXT.out ⟨_, 0, (c.data.drop p).take (en - p)⟩ en (by
                      unfold rdStep
                      rw [if_pos K15.out, HEV.out, if_pos ⟨he1, by omega, by omega⟩, HNL.out]; rfl) hA HPC.out ((by repeat (first | exact Below.refl _ _ | assumption | (refine Below.drew ?_) | (refine Below.trans ?_ (below_drewN _ _ _)) | (refine Below.alloc ?_ (by first | omega | (simp; done) | (simp; omega)) _) | (refine Below.setCell ?_ (by first | omega | (simp; done) | (simp; omega)) _)))) HTX.out
                  have H5 := Aside.mk hI5
                  clear hA hI5
                  go_wp2_with fail
                  exact ⟨⟨i + 1, en, a5, c5, by omega, rfl, rfl, by simp, ⟨_, _, H5.out⟩⟩, by simp [intOf]; omega⟩
              · have f1 : decide ((c.ends.length : Int) ≤ (i : Int)) = true := by simpa using he1
                have f2 : decide (c.ends.length ≤ i) = true := by simpa using he1
                have HF := Aside.mk (HFAIL.out (by unfold rdStep; rw [if_pos K15.out, if_neg (fun h => he1 h.1)]))
                clear he1
                go_upto_region 15 with fail
                go_quiet (fail)
                go_wp2_with fail
                go_ret2
                exact read18_no HF.out HOK.out ((below_chain HI.out.bel HB3.out).trans (below_drewN _ _ _))
            · have k15 : (c.k == 15) = false := by simpa using h15
              have k15n : (c.k != 15) = true := by simpa using h15
              have K15 := Aside.mk h15
              have HWT := Aside.mk (show (widthOf c.k).toNat = W from by rw [HWK.out]; rfl)
              clear h15
              by_cases hpw : p + W ≤ c.data.length
              · have HPW := Aside.mk hpw
                have hs5 := fun W' => run_slice_mid (P := Tryz.prog) Tryz.underlying43 (sz := 1) (by kernel_rfl) D.a c.data.length D.c p (p + W) (by omega) (Nat.le_trans hpw (rd_cap HR.out.data)) W'
                have hrd := HR.out.data.mid (i := p) (j := p + W) (by omega) hpw
                rw [Nat.add_sub_cancel_left, Nat.mul_one, Nat.mul_one, ← List.map_drop, ← List.map_take] at hrd
                simp only [Int.natCast_add, Nat.add_sub_cancel_left] at hs5
                have hxl : ((c.data.drop p).take W).length = W := by rw [List.length_take, List.length_drop]; omega
                have hxb : IsBytes ((c.data.drop p).take W) := fun x hx => HC.out.data x (List.mem_of_mem_drop (List.mem_of_mem_take hx))
                have HNUM := Aside.mk (show Calls Tryz.prog 152 #[.slice (cutA D.a D.c p 1) W (D.c - p)] w3 fun e w' => e = .returned (.int .u64 (wordAt c.data p W : Int)) ∧ w3 = w' from by
                  have := num18_any ((c.data.drop p).take W) ⟨cutA D.a D.c p 1, D.c - p⟩ hxb (by omega) w3 (by rw [hxl]; exact hrd.below (below_chain HI.out.bel HB3.out))
                  rw [numOf_word _ _ _ hpw] at this
                  simpa only [hxl] using this)
                have hb64 : wordAt c.data p W ≤ 18446744073709551615 := by
                  have h1 := wordAt_lt HC.out.data p W
                  have h2 : 256 ^ W ≤ 256 ^ 8 := Nat.pow_le_pow_right (by decide) hW8
                  have h3 : (256 : Nat) ^ 8 = 18446744073709551616 := by decide
                  omega
                have HSTEP := Aside.mk (show rdStep c i p = if nullB c.bits i = true then some (⟨true, wordAt c.data p W, []⟩, p + W)
                    else if c.k = 16 then (if wordAt c.data p W < c.words.length then some (⟨false, 0, c.words.getD (wordAt c.data p W) []⟩, p + W) else none)
                    else if fitsB c.k c.s (wordAt c.data p W) = true then some (⟨false, wordAt c.data p W, []⟩, p + W) else none from by
                  unfold rdStep
                  rw [if_neg K15.out, HWT.out, if_pos HPW.out])
                clear hrd hxl hxb
                generalize wordAt c.data p W = b at *
                generalize cutA D.a D.c p 1 = ta at *
                generalize D.c - p = tc at *
                go_upto_region 22 with (go_at_call 152; refine HNUM.out.mono ?_; rintro e wx ⟨rfl, rfl⟩)
                have hv4 : (w3.setCell ⟨wr.heap.size, 1, none⟩ (.int .u64 (b : Int))).heap[wr.heap.size]? = some (.cells #[.bool nl, .int .u64 (b : Int), .slice none 0 0] 50 (0, 0)) := by
                  have := heap_setCell_at (k := 1) HV3.out (.int .u64 (b : Int)); simpa using this
                have hb4 : Below wr.heap.size wr (w3.setCell ⟨wr.heap.size, 1, none⟩ (.int .u64 (b : Int))) := (by repeat (first | exact Below.refl _ _ | assumption | (refine Below.drew ?_) | (refine Below.trans ?_ (below_drewN _ _ _)) | (refine Below.alloc ?_ (by first | omega | (simp; done) | (simp; omega)) _) | (refine Below.setCell ?_ (by first | omega | (simp; done) | (simp; omega)) _)))
                clear HNUM d0 d1 d2 d3 d4 d5 d6 d7 v0 v1 v2 vf hlv hb3 HV3 HB3 hs5
                generalize w3.setCell ⟨wr.heap.size, 1, none⟩ (.int .u64 (b : Int)) = w4 at *
                obtain ⟨d0, d1, d2, d3, d4, d5, d6, d7⟩ := box8 ((hb4.block _ hlt0).trans HI.out.box)
                rw [HNN.out] at d2
                have HV4 := Aside.mk hv4
                have hlv := lt_of_blk hv4
                obtain ⟨v0, v1, v2⟩ : w4.cell? ⟨wr.heap.size, 0, none⟩ = some (.bool nl) ∧ w4.cell? ⟨wr.heap.size, 1, none⟩ = some (.int .u64 (b : Int)) ∧ w4.cell? ⟨wr.heap.size, 2, none⟩ = some (.slice none 0 0) := by refine ⟨?_, ?_, ?_⟩ <;> (rw [cell_blk hv4]; rfl)
                have vf := fun k => frozen_blk (k := k) hv4
                clear hv4
                cases nl with
                | true =>
                  go_wp2_with (at_builtin; go_loud (refine wpList_app2 _ rfl _ _ 33 33 rfl w.heap.size 50 (.agg #[.bool false, .int .u64 0, .slice none 0 0]) 3 40 Tryz.underlying33 valinfo rfl _ i xs rfl (HROW.out.below ((by repeat (first | exact Below.refl _ _ | assumption | (refine Below.drew ?_) | (refine Below.trans ?_ (below_drewN _ _ _)) | (refine Below.alloc ?_ (by first | omega | (simp; done) | (simp; omega)) _) | (refine Below.setCell ?_ (by first | omega | (simp; done) | (simp; omega)) _))))) _ 1 [_, _, _] rfl (src_valB w4.heap.size _ _ _ rfl rfl rfl (by simp)) (by unfold maxLen; omega) (by omega) (by simp; omega) ?_))
                  intro v5 w5 hA
                  obtain ⟨a5, c5, rfl, hI5⟩ := HNEXT.out ⟨true, b, []⟩ (p + W) (by rw [HSTEP.out, HNL.out]; rfl) hA rfl ((by repeat (first | exact Below.refl _ _ | assumption | (refine Below.drew ?_) | (refine Below.trans ?_ (below_drewN _ _ _)) | (refine Below.alloc ?_ (by first | omega | (simp; done) | (simp; omega)) _) | (refine Below.setCell ?_ (by first | omega | (simp; done) | (simp; omega)) _)))) (fun W _ => Rd.nil W 1)
                  have H5 := Aside.mk hI5
                  clear hA hI5
                  go_wp2_with fail
                  exact ⟨⟨i + 1, p + W, a5, c5, by omega, rfl, by simp, by simp, ⟨_, _, H5.out⟩⟩, by simp [intOf]; omega⟩
                | false =>
                  by_cases h16 : c.k = 16
                  · have k16 : (c.k == 16) = true := by simpa using h16
                    have K16 := Aside.mk h16
                    clear h16
                    by_cases hbw : b < c.words.length
                    · have g1 : decide ((c.words.length : Int) ≤ (b : Int)) = false := by simpa using hbw
                      have g2 : decide (c.words.length ≤ b) = false := by simpa using hbw
                      obtain ⟨ua, uc, q1, q2⟩ := HR.out.each.2 b _ (List.getElem?_eq_getElem hbw)
                      have hvl := HR.out.each.1
                      obtain ⟨g4, off4, cap4, e4, hq1, hq2, hcc⟩ := HR.out.words.some_ (by omega)
                      have hcu0 := hcc b _ q1
                      have hcu := ((below_chain HI.out.bel hb4).cell (p := ⟨g4, off4 + b, none⟩) (World.block_lt_of_cell? _ _ hcu0)).trans hcu0
                      have hg4 : g4 ≠ wr.heap.size := Nat.ne_of_lt (Nat.lt_of_lt_of_le (World.block_lt_of_cell? _ _ hcu0) hsz)
                      simp only [Value.slice.injEq, true_and] at e4
                      obtain ⟨e1, e2⟩ := e4
                      rw [e1, e2] at d7
                      have HQ2 := Aside.mk (show ∀ W, RdC W c B D E X vals → Rd W 1 (.slice ua c.words[b].length uc) c.words[b].length (c.words[b].map (.int .u8)) from fun W hW => by
                        obtain ⟨ua', uc', q1', q2'⟩ := hW.each.2 b _ (List.getElem?_eq_getElem hbw)
                        rw [q1] at q1'
                        have q1' := Option.some.inj q1'
                        simp only [Value.slice.injEq, true_and] at q1'
                        obtain ⟨rfl, rfl⟩ := q1'
                        exact q2')
                      have HGD := Aside.mk (show c.words.getD b [] = c.words[b] from by rw [List.getD_eq_getElem?_getD, List.getElem?_eq_getElem hbw]; rfl)
                      clear q1 q2 hcc hcu0 e1 e2 hvl
                      generalize c.words[b] = ut at *
                      obtain ⟨un, hun⟩ : ∃ n, n = ut.length := ⟨_, rfl⟩
                      rw [← hun] at hcu HQ2
                      have HUN := Aside.mk hun.symm
                      clear hun
                      go_wp2_with (at_builtin; go_loud (refine wpList_app2 _ rfl _ _ 33 33 rfl w.heap.size 50 (.agg #[.bool false, .int .u64 0, .slice none 0 0]) 3 40 Tryz.underlying33 valinfo rfl _ i xs rfl (HROW.out.below ((by repeat (first | exact Below.refl _ _ | assumption | (refine Below.drew ?_) | (refine Below.trans ?_ (below_drewN _ _ _)) | (refine Below.alloc ?_ (by first | omega | (simp; done) | (simp; omega)) _) | (refine Below.setCell ?_ (by first | omega | (simp; done) | (simp; omega)) _))))) _ 1 [_, _, _] rfl (src_valB w4.heap.size _ _ _ rfl rfl rfl (by simp)) (by unfold maxLen; omega) (by omega) (by simp; omega) ?_))
                      intro v5 w5 hA
                      obtain ⟨a5, c5, rfl, hI5⟩ := HNEXT.out ⟨false, 0, ut⟩ (p + W) (by rw [HSTEP.out, HNL.out, if_neg (by decide), if_pos K16.out, if_pos hbw, HGD.out]) hA HUN.out ((by repeat (first | exact Below.refl _ _ | assumption | (refine Below.drew ?_) | (refine Below.trans ?_ (below_drewN _ _ _)) | (refine Below.alloc ?_ (by first | omega | (simp; done) | (simp; omega)) _) | (refine Below.setCell ?_ (by first | omega | (simp; done) | (simp; omega)) _)))) HQ2.out
                      have H5 := Aside.mk hI5
                      clear hA hI5
                      go_wp2_with fail
                      exact ⟨⟨i + 1, p + W, a5, c5, by omega, rfl, by simp, by simp, ⟨_, _, H5.out⟩⟩, by simp [intOf]; omega⟩
                    · have g1 : decide ((c.words.length : Int) ≤ (b : Int)) = true := by simpa using hbw
                      have g2 : decide (c.words.length ≤ b) = true := by simpa using hbw
                      have HF := Aside.mk (HFAIL.out (by rw [HSTEP.out, HNL.out, if_neg (by decide), if_pos K16.out, if_neg hbw]))
                      have HB4 := Aside.mk (below_chain HI.out.bel hb4)
                      go_wp2_with fail
                      go_ret2
                      exact read18_no HF.out HOK.out HB4.out
                  · have k16 : (c.k == 16) = false := by simpa using h16
                    have K16 := Aside.mk h16
                    clear h16
                    cases hf : fitsB c.k c.s (b : Int) with
                    | true =>
                      have HFT := Aside.mk (show Calls Tryz.prog 75 #[.agg #[.int .i64 c.k, .int .i64 c.s], .int .u64 (b : Int)] w4 (FitsP true w4) from by have := r18fits_any c.k c.s b (by omega) (by omega) w4; rwa [hf] at this)
                      have HNX := Aside.mk (show rdStep c i p = some (⟨false, b, []⟩, p + W) from by rw [HSTEP.out, HNL.out, if_neg (by decide), if_neg K16.out, if_pos hf])
                      clear hf
                      go_upto_region 30 with (go_at_call 75; refine HFT.out.mono ?_; rintro e w6 ⟨rfl, hb6⟩; have hv6 := (hb6.block _ hlv).trans HV4.out; have hb60 : Below wr.heap.size wr w6 := below_chain hb4 hb6; clear d0 d1 d2 d3 d4 d5 d6 d7 v0 v1 v2 vf hlv hb6 HFT; have hlv := lt_of_blk hv6; obtain ⟨v0, v1, v2⟩ : w6.cell? ⟨wr.heap.size, 0, none⟩ = some (.bool false) ∧ w6.cell? ⟨wr.heap.size, 1, none⟩ = some (.int .u64 (b : Int)) ∧ w6.cell? ⟨wr.heap.size, 2, none⟩ = some (.slice none 0 0) := (by refine ⟨?_, ?_, ?_⟩ <;> (rw [cell_blk hv6]; rfl)); have vf := fun k => frozen_blk (k := k) hv6; clear hv6; have hsz6 := hb60.size)
                      go_wp2_with (at_builtin; go_loud (refine wpList_app2 _ rfl _ _ 33 33 rfl w.heap.size 50 (.agg #[.bool false, .int .u64 0, .slice none 0 0]) 3 40 Tryz.underlying33 valinfo rfl _ i xs rfl (HROW.out.below ((by repeat (first | exact Below.refl _ _ | assumption | (refine Below.drew ?_) | (refine Below.trans ?_ (below_drewN _ _ _)) | (refine Below.alloc ?_ (by first | omega | (simp; done) | (simp; omega)) _) | (refine Below.setCell ?_ (by first | omega | (simp; done) | (simp; omega)) _))))) _ 1 [_, _, _] rfl (src_valB w6.heap.size _ _ _ rfl rfl rfl (by simp)) (by unfold maxLen; omega) (by omega) (by simp; omega) ?_))
                      intro v5 w5 hA
                      obtain ⟨a5, c5, rfl, hI5⟩ := HNEXT.out ⟨false, b, []⟩ (p + W) HNX.out hA rfl ((by repeat (first | exact Below.refl _ _ | assumption | (refine Below.drew ?_) | (refine Below.trans ?_ (below_drewN _ _ _)) | (refine Below.alloc ?_ (by first | omega | (simp; done) | (simp; omega)) _) | (refine Below.setCell ?_ (by first | omega | (simp; done) | (simp; omega)) _)))) (fun W _ => Rd.nil W 1)
                      have H5 := Aside.mk hI5
                      clear hA hI5
                      go_wp2_with fail
                      exact ⟨⟨i + 1, p + W, a5, c5, by omega, rfl, by simp, by simp, ⟨_, _, H5.out⟩⟩, by simp [intOf]; omega⟩
                    | false =>
                      have HFT := Aside.mk (show Calls Tryz.prog 75 #[.agg #[.int .i64 c.k, .int .i64 c.s], .int .u64 (b : Int)] w4 (FitsP false w4) from by have := r18fits_any c.k c.s b (by omega) (by omega) w4; rwa [hf] at this)
                      have HF := Aside.mk (HFAIL.out (by rw [HSTEP.out, HNL.out, if_neg (by decide), if_neg K16.out, if_neg (by rw [hf]; decide)]))
                      have HB4 := Aside.mk (below_chain HI.out.bel hb4)
                      clear hf
                      go_wp2_with (go_at_call 75; refine HFT.out.mono ?_; rintro e w6 ⟨rfl, hb6⟩; have HB6 := Aside.mk (below_chain HB4.out hb6); clear hb6)
                      go_ret2
                      exact read18_no HF.out HOK.out HB6.out
              · have HF := Aside.mk (HFAIL.out (by unfold rdStep; rw [if_neg K15.out, HWT.out, if_neg hpw]))
                have g1 : decide ((c.data.length : Int) < (p : Int) + (W : Int)) = true := by simp; omega
                have HB4 := Aside.mk (below_chain HI.out.bel HB3.out)
                go_wp2_with fail
                go_ret2
                exact read18_no HF.out HOK.out HB4.out
          · obtain rfl : i = N := by omega
            have hcn : c.n.toNat = i := by have := HNN.out; omega
            have HEND := Aside.mk (read_end (l := l) (p := p) (c := c) (by rw [hcn]; exact HI.out.run) HOK.out HMO.out (by rw [HN.out, HNN.out]))
            have hwf := (rdRun_wf HC.out HSM.out HI.out.run).1
            have hfew : Few l := ⟨by have := HLL.out; omega, fun v hv => (hwf v hv).2.2⟩
            have hlay := lay_gen c.k c.s l HOK.out hfew (fun v hv => ⟨(hwf v hv).1, (hwf v hv).2.1⟩) ⟨a, cp⟩ wr.drew ((HI.out.rdo.vals (HR.out.below HI.out.bel)).below (below_drewN wr _ 1))
            dsimp only at hlay
            rw [HLL.out] at hlay
            have HLAY := Aside.mk hlay
            have HCOK := Aside.mk (show COK (colOf c.k c.s (l.map nrm)) from built_cokB HOK.out (nrm_few hfew) (fun v hv => by obtain ⟨u, hu, rfl⟩ := List.mem_map.1 hv; exact (nrm_wf ⟨(hwf u hu).1, (hwf u hu).2.1⟩).1))
            clear hlay hwf hfew hcn
            generalize hz : colOf c.k c.s (l.map nrm) = z at *
            rw [show (CS.of c.k (l.map nrm)).col c.k c.s = z from hz] at HLAY
            clear hz
            go_upto_region 31 with fail
            go_region_law (first
              | (refine step_call (P := Tryz.prog) wr.drew (by rfl) 25 [.tmp 157, .tmp 158] _ (by rfl) [.agg #[.int .i64 c.k, .int .i64 c.s], .slice a i cp] (by rfl) (fun _ _ => rfl) HLAY.out ?_; rintro e w6 ⟨B6, D6, E6, X6, vals6, rfl, hoc, hb6⟩; replace hb6 := undrew hb6; have HEQ := Aside.mk (equal_col z c HCOK.out HC.out B6 D6 E6 X6 B D E X vals6 vals w6 hoc.rd (HR.out.below (below_chain HI.out.bel hb6))); have HB6 := Aside.mk (below_chain HI.out.bel hb6); have HW6 := Aside.mk hb6; clear d0 d1 d2 d3 d4 d5 d6 d7; obtain ⟨d0, d1, d2, d3, d4, d5, d6, d7⟩ := box8 ((hb6.block _ hlt0).trans HI.out.box); rw [HNN.out] at d2; clear hoc hb6; dsimp only [colV] at HEQ ⊢; rw [HNN.out] at HEQ; refine ⟨_, rfl, ?_⟩)
              | (refine step_call (P := Tryz.prog) w6 (by rfl) 30 [.tmp 159, .tmp 160] _ (by rfl) [.agg #[.int .i64 z.k, .int .i64 z.s, .int .i64 z.n, .int .i64 z.m, .slice B6.a z.bits.length B6.c, .slice D6.a z.data.length D6.c, .slice E6.a z.ends.length E6.c, .slice X6.a z.words.length X6.c], .agg #[.int .i64 c.k, .int .i64 c.s, .int .i64 (i : Int), .int .i64 c.m, .slice B.a c.bits.length B.c, .slice D.a c.data.length D.c, .slice E.a c.ends.length E.c, .slice X.a c.words.length X.c]] (by rfl) (fun _ _ => rfl) HEQ.out ?_; rintro e w7 ⟨rfl, hb7⟩; have HB7 := Aside.mk (below_chain HB6.out hb7); have HW7 := Aside.mk (below_chain HW6.out hb7); clear hb7; refine ⟨_, rfl, ?_⟩))
            all_goals
              cases heq : equalC z c with
              | true =>
                have HE := Aside.mk (show readC c = some l from by rw [HEND.out, heq]; rfl)
                have HRD := Aside.mk (HI.out.rdo.below HW7.out)
                clear heq
                go_wp2_with fail
                go_ret2
                exact read18_yes HE.out HLL.out HB7.out HRD.out
              | false =>
                have HE := Aside.mk (show readC c = none from by rw [HEND.out, heq]; rfl)
                clear heq
                go_wp2_with fail
                go_ret2
                exact read18_no HE.out HOK.out HB7.out
      · have d9 : ((N : Int) != c.n) = true := by simpa using hnn
        have HNN := Aside.mk hnn
        clear hnn
        go_wp2_with fail
        go_ret2
        refine read18_no ?_ HOK.out HB2.out
        unfold readC
        rw [if_neg (fun h => HNN.out (by rw [← HN.out]; exact h.2.2))]
    · have HM := Aside.mk hm
      have HB2 := Aside.mk (below_chain HB1.out hb2)
      clear hb2 hm
      go_wp2_with fail
      go_ret2
      refine read18_no ?_ HOK.out HB2.out
      unfold readC
      rw [if_neg (fun h => by have := HM.out; rw [h.2.1] at this; cases this)]
end Go.Proofs.YtmhjjhaipcgbiaaGreat
