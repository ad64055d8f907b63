/- Texts of this claim, one behind the other: Plain, Plain2, Lay0. -/
import Derived.Test.YtmhjjhaipcgbiaaSpoP8
import Derived.Test.YtmhjjhaipcgbiaaSpoP2

namespace Go.Proofs.Ytmhjjhaipcgbiaa
open Go.RowKit
set_option linter.unusedVariables false
set_option linter.unusedSimpArgs false
set_option maxRecDepth 100000
set_option maxHeartbeats 1000000
structure V where
  null : Bool
  bits : Nat
  text : List Int
structure CS where
  nulls : List Bool
  data : List Int
  ends : List Int
  words : List (List Int)
def CS.zero : CS := ⟨[], [], [], []⟩
def CS.add (k : Int) (c : CS) (v : V) : CS :=
  if k = 15 then ⟨c.nulls ++ [v.null], c.data ++ v.text, c.ends ++ [((c.data ++ v.text).length : Int)], c.words⟩
  else if k = 16 then ⟨c.nulls ++ [v.null], c.data ++ lows (if v.null then 0 else codeOf c.words v.text) 4, c.ends, if v.null then c.words else addWord c.words v.text⟩
  else ⟨c.nulls ++ [v.null], c.data ++ lows v.bits (widthOf k).toNat, c.ends, c.words⟩
def CS.of (k : Int) (l : List V) : CS := l.foldl (CS.add k) CS.zero
theorem CS.of_snoc (k : Int) (l : List V) (v : V) : CS.of k (l ++ [v]) = (CS.of k l).add k v := by simp [CS.of, List.foldl_append]
structure Col where
  k : Int
  s : Int
  n : Int
  m : Int
  bits : List Int
  data : List Int
  ends : List Int
  words : List (List Int)
def CS.col (c : CS) (k s : Int) : Col := ⟨k, s, c.nulls.length, c.nulls.length, mof c.nulls, c.data, c.ends, c.words⟩
def wordAt (data : List Int) (o : Nat) : Nat → Nat
  | 0 => 0
  | n + 1 => wordAt data o n + (data.getD (o + n) 0).toNat * 256 ^ n
theorem wordAt_lows (data : List Int) (o X : Nat) : ∀ n, (∀ j, j < n → data.getD (o + j) 0 = ((X / 256 ^ j % 256 : Nat) : Int)) → wordAt data o n = X % 256 ^ n
  | 0, _ => by simp [wordAt, Nat.mod_one]
  | n + 1, h => by
    rw [wordAt, wordAt_lows data o X n (fun j hj => h j (by omega)), h n (by omega), Int.toNat_natCast, Nat.mod_pow_succ, Nat.mul_comm]
theorem wordAt_lt {data : List Int} (h : IsBytes data) (o : Nat) : ∀ n, wordAt data o n < 256 ^ n
  | 0 => by simp [wordAt]
  | n + 1 => by
    have h1 := wordAt_lt h o n
    have h2 := getD_byte h (o + n)
    have h3 : (data.getD (o + n) 0).toNat * 256 ^ n ≤ 255 * 256 ^ n := Nat.mul_le_mul_right _ (by omega)
    rw [wordAt, Nat.pow_succ]
    omega
def sizedB (W : Nat) (c : Col) : Bool := c.data.length % W == 0 && (((c.data.length / W : Nat) : Int) == c.n) && c.ends.isEmpty
def aheadI (ends : List Int) (i : Nat) : Int := if i = 0 then 0 else ends.getD (i - 1) 0
def mayFixed (k s : Int) (W : Nat) (c : Col) : Bool := sizedB W c && c.words.isEmpty && (List.range c.n.toNat).all fun i => if nullB c.bits i then wordAt c.data (i * W) W == 0 else fitsB k s (wordAt c.data (i * W) W)
def mayRunning (c : Col) : Bool := ((c.ends.length : Int) == c.n) && c.words.isEmpty && ((List.range c.ends.length).all fun i => !(decide (c.ends.getD i 0 < aheadI c.ends i) || decide ((c.data.length : Int) < c.ends.getD i 0) || (nullB c.bits i && c.ends.getD i 0 != aheadI c.ends i))) && (aheadI c.ends c.ends.length == (c.data.length : Int))
def codedStep (c : Col) (i next : Nat) : Option Nat :=
  let code := wordAt c.data (i * 4) 4
  if (nullB c.bits i && code != 0) || decide (next < code) then none else if !nullB c.bits i && code == next then some (next + 1) else some next
def codedRun (c : Col) : Nat → Option Nat
  | 0 => some 0
  | i + 1 => (codedRun c i).bind (codedStep c i)
def mayCoded (c : Col) : Bool := sizedB 4 c && decide c.words.Nodup && (codedRun c c.n.toNat == some c.words.length)
def mayB (c : Col) : Bool := if c.k = 15 then mayRunning c else if c.k = 16 then mayCoded c else mayFixed c.k c.s (widthOf c.k).toNat c
def checkC (c : Col) : Int := if okType c.k c.s = false then 170 else if maskOK c.m c.bits && c.m == c.n && mayB c then 0 else 171
def vOK (k s : Int) (v : V) : Prop := IsBytes v.text ∧ v.bits < 18446744073709551616 ∧ (v.null = true → v.bits = 0 ∧ v.text = []) ∧ (v.null = false → if wordedB k then v.bits = 0 else fitsB k s v.bits = true ∧ v.text = [])
theorem flatMap_get {α β : Type} (f : α → List β) (W : Nat) (hW : ∀ x, (f x).length = W) : ∀ (l : List α) (i j : Nat) (h : i < l.length), j < W → (l.flatMap f)[i * W + j]? = (f l[i])[j]?
  | [], i, j, h, _ => by simp at h
  | x :: l, 0, j, h, hj => by
    rw [List.flatMap_cons, Nat.zero_mul, Nat.zero_add, List.getElem?_append_left (by rw [hW]; exact hj)]
    rfl
  | x :: l, i + 1, j, h, hj => by
    rw [List.flatMap_cons, List.getElem?_append_right (by rw [hW, Nat.add_mul]; omega), hW, show (i + 1) * W + j - W = i * W + j by rw [Nat.add_mul]; omega]
    exact flatMap_get f W hW l i j (by simpa using h) hj
theorem flatMap_len {α β : Type} (f : α → List β) (W : Nat) (hW : ∀ x, (f x).length = W) : ∀ l : List α, (l.flatMap f).length = l.length * W
  | [] => by simp
  | x :: l => by rw [List.flatMap_cons, List.length_append, hW, flatMap_len f W hW l, List.length_cons, Nat.add_mul]; omega
theorem lows_len (X n : Nat) : (lows X n).length = n := by simp [lows]
theorem lows_get (X n j : Nat) (h : j < n) : (lows X n)[j]? = some ((X / 256 ^ j % 256 : Nat) : Int) := by simp [lows, h]
theorem lows_bytes (X n : Nat) : IsBytes (lows X n) := fun x hx => by
  simp only [lows, List.mem_map] at hx
  obtain ⟨i, _, rfl⟩ := hx
  omega
theorem wordAt_flat (l : List Nat) (W i : Nat) (h : i < l.length) : wordAt (l.flatMap fun x => lows x W) (i * W) W = l[i] % 256 ^ W := by
  refine wordAt_lows _ _ _ W fun j hj => ?_
  rw [List.getD_eq_getElem?_getD, flatMap_get _ W (fun x => lows_len x W) l i j h hj, lows_get _ _ _ hj]
  rfl
theorem nulls_of (k : Int) (l : List V) : (CS.of k l).nulls = l.map (·.null) := by
  have : ∀ (l : List V) (c : CS), (l.foldl (CS.add k) c).nulls = c.nulls ++ l.map (·.null) := by
    intro l
    induction l with
    | nil => intro c; simp
    | cons v r ih =>
      intro c
      rw [List.foldl_cons, ih, List.map_cons]
      unfold CS.add
      split
      · simp
      split <;> simp
  simpa [CS.zero, CS.of] using this l CS.zero
theorem fixed_of {k : Int} (h1 : k ≠ 15) (h2 : k ≠ 16) (l : List V) : CS.of k l = ⟨l.map (·.null), (l.map (·.bits)).flatMap fun x => lows x (widthOf k).toNat, [], []⟩ := by
  have : ∀ (l : List V) (c : CS), l.foldl (CS.add k) c = ⟨c.nulls ++ l.map (·.null), c.data ++ (l.map (·.bits)).flatMap (fun x => lows x (widthOf k).toNat), c.ends, c.words⟩ := by
    intro l
    induction l with
    | nil => intro c; simp
    | cons v r ih =>
      intro c
      rw [List.foldl_cons, ih]
      simp [CS.add, h1, h2]
  simpa [CS.zero, CS.of] using this l CS.zero
theorem running_data (l : List V) : (CS.of 15 l).data = l.flatMap (·.text) ∧ (CS.of 15 l).words = [] := by
  have : ∀ (l : List V) (c : CS), (l.foldl (CS.add 15) c).data = c.data ++ l.flatMap (·.text) ∧ (l.foldl (CS.add 15) c).words = c.words := by
    intro l
    induction l with
    | nil => intro c; simp
    | cons v r ih =>
      intro c
      rw [List.foldl_cons, (ih _).1, (ih _).2]
      simp [CS.add]
  simpa [CS.zero, CS.of] using this l CS.zero
theorem snoc_ind {α : Type} {p : List α → Prop} (h0 : p []) (h1 : ∀ l v, p l → p (l ++ [v])) (l : List α) : p l := by
  have : ∀ r : List α, p r.reverse := by
    intro r
    induction r with
    | nil => exact h0
    | cons x r ih => rw [List.reverse_cons]; exact h1 _ _ ih
  have h := this l.reverse
  rwa [List.reverse_reverse] at h
theorem running_ends (l : List V) : (CS.of 15 l).ends.length = l.length ∧ ∀ i, i < l.length → (CS.of 15 l).ends.getD i 0 = (((l.take (i + 1)).flatMap (·.text)).length : Int) := by
  induction l using snoc_ind with
  | h0 => exact ⟨rfl, fun i h => by simp at h⟩
  | h1 l v ih =>
    have e : (CS.of 15 (l ++ [v])).ends = (CS.of 15 l).ends ++ [(((l ++ [v]).flatMap (·.text)).length : Int)] := by
      rw [CS.of_snoc]
      simp [CS.add, (running_data l).1]
    rw [e]
    refine ⟨by simp [ih.1], fun i h => ?_⟩
    rw [List.getD_eq_getElem?_getD]
    simp at h
    rcases Nat.lt_or_ge i l.length with hl | hl
    · rw [List.getElem?_append_left (by rw [ih.1]; exact hl), ← List.getD_eq_getElem?_getD, ih.2 i hl, List.take_append_of_le_length (by omega)]
    · rw [List.getElem?_append_right (by rw [ih.1]; exact hl), ih.1, show i - l.length = 0 by omega, List.take_of_length_le (by simp; omega)]
      rfl
theorem running_ahead (l : List V) (i : Nat) (h : i ≤ l.length) : aheadI (CS.of 15 l).ends i = (((l.take i).flatMap (·.text)).length : Int) := by
  unfold aheadI
  cases i with
  | zero => simp
  | succ i => rw [if_neg (by omega), show i + 1 - 1 = i from rfl, (running_ends l).2 i (by omega)]
theorem running_piece (l : List V) (i : Nat) (h : i < l.length) : ((l.flatMap (·.text)).drop ((l.take i).flatMap (·.text)).length).take (((l.take (i + 1)).flatMap (·.text)).length - ((l.take i).flatMap (·.text)).length) = l[i].text ∧
    ((l.take (i + 1)).flatMap (·.text)).length = ((l.take i).flatMap (·.text)).length + l[i].text.length ∧ ((l.take (i + 1)).flatMap (·.text)).length ≤ (l.flatMap (·.text)).length := by
  have e : (l.take (i + 1)).flatMap (·.text) = (l.take i).flatMap (·.text) ++ l[i].text := by
    rw [List.take_succ_eq_append_getElem h, List.flatMap_append]; simp
  have e2 : l.flatMap (·.text) = (l.take i).flatMap (·.text) ++ l[i].text ++ (l.drop (i + 1)).flatMap (·.text) := by
    rw [← e, ← List.flatMap_append, List.take_append_drop]
  refine ⟨?_, by rw [e, List.length_append], by rw [e2, e]; simp only [List.length_append]; omega⟩
  rw [e, List.length_append, e2, List.append_assoc, List.drop_left, Nat.add_sub_cancel_left, List.take_left]
def codesOf (ws : List (List Int)) : List V → List Nat
  | [] => []
  | v :: r => (if v.null then 0 else codeOf ws v.text) :: codesOf (if v.null then ws else addWord ws v.text) r
def wordsOf (ws : List (List Int)) : List V → List (List Int)
  | [] => ws
  | v :: r => wordsOf (if v.null then ws else addWord ws v.text) r
theorem coded_of (l : List V) : CS.of 16 l = ⟨l.map (·.null), (codesOf [] l).flatMap fun x => lows x 4, [], wordsOf [] l⟩ := by
  have : ∀ (l : List V) (c : CS), l.foldl (CS.add 16) c = ⟨c.nulls ++ l.map (·.null), c.data ++ (codesOf c.words l).flatMap (fun x => lows x 4), c.ends, wordsOf c.words l⟩ := by
    intro l
    induction l with
    | nil => intro c; simp [codesOf, wordsOf]
    | cons v r ih =>
      intro c
      rw [List.foldl_cons, ih]
      simp [CS.add, codesOf, wordsOf]
  simpa [CS.zero, CS.of] using this l CS.zero
theorem codes_len (l : List V) : ∀ ws, (codesOf ws l).length = l.length := by
  induction l with
  | nil => intro ws; rfl
  | cons v r ih => intro ws; simp [codesOf, ih]
theorem codes_get (l : List V) : ∀ (ws : List (List Int)) (i : Nat) (h : i < l.length), (codesOf ws l)[i]? = some (if l[i].null then 0 else codeOf (wordsOf ws (l.take i)) l[i].text) := by
  induction l with
  | nil => intro ws i h; simp at h
  | cons v r ih =>
    intro ws i h
    cases i with
    | zero => simp [codesOf, wordsOf]
    | succ i =>
      rw [codesOf, List.getElem?_cons_succ, ih _ i (by simpa using h)]
      simp [wordsOf]
theorem words_step (l : List V) : ∀ (ws : List (List Int)) (i : Nat) (h : i < l.length), wordsOf ws (l.take (i + 1)) = if l[i].null then wordsOf ws (l.take i) else addWord (wordsOf ws (l.take i)) l[i].text := by
  induction l with
  | nil => intro ws i h; simp at h
  | cons v r ih =>
    intro ws i h
    cases i with
    | zero => simp [wordsOf]
    | succ i =>
      rw [List.take_succ_cons, wordsOf, ih _ i (by simpa using h), List.take_succ_cons, wordsOf]
      simp
theorem addWord_pre (ws : List (List Int)) (t : List Int) : ws <+: addWord ws t := by
  unfold addWord
  split
  · exact List.prefix_refl _
  · exact List.prefix_append _ _
theorem words_pre (l : List V) : ∀ ws, ws <+: wordsOf ws l := by
  induction l with
  | nil => intro ws; exact List.prefix_refl _
  | cons v r ih =>
    intro ws
    rw [wordsOf]
    refine List.IsPrefix.trans ?_ (ih _)
    split
    · exact List.prefix_refl _
    · exact addWord_pre _ _
theorem words_app (l r : List V) : ∀ ws, wordsOf ws (l ++ r) = wordsOf (wordsOf ws l) r := by
  induction l with
  | nil => intro ws; rfl
  | cons v l ih => intro ws; rw [List.cons_append, wordsOf, wordsOf, ih]
theorem words_nodup (l : List V) : ∀ ws, ws.Nodup → (wordsOf ws l).Nodup := by
  induction l with
  | nil => intro ws h; exact h
  | cons v r ih =>
    intro ws h
    rw [wordsOf]
    refine ih _ ?_
    split
    · exact h
    · exact addWord_nodup h _
theorem words_len (l : List V) : ∀ ws, (wordsOf ws l).length ≤ ws.length + l.length := by
  induction l with
  | nil => intro ws; simp [wordsOf]
  | cons v r ih =>
    intro ws
    rw [wordsOf, List.length_cons]
    refine Nat.le_trans (ih _) ?_
    split
    · omega
    · have := addWord_len ws v.text; omega
theorem word_at_code (l : List V) (i : Nat) (h : i < l.length) (hn : l[i].null = false) : (wordsOf [] l)[codeOf (wordsOf [] (l.take i)) l[i].text]? = some l[i].text := by
  have e := words_step l [] i h
  rw [hn] at e
  simp only [Bool.false_eq_true, if_false] at e
  have p : wordsOf [] (l.take (i + 1)) <+: wordsOf [] l := by
    have := words_pre (l.drop (i + 1)) (wordsOf [] (l.take (i + 1)))
    rwa [← words_app, List.take_append_drop] at this
  rw [e] at p
  obtain ⟨r, hr⟩ := p
  have : (addWord (wordsOf [] (l.take i)) l[i].text)[codeOf (wordsOf [] (l.take i)) l[i].text]? = some l[i].text := by
    cases hc : (wordsOf [] (l.take i)).contains l[i].text with
    | true => rw [addWord_old hc]; exact codeOf_get hc
    | false => rw [addWord_new hc, codeOf_new hc]; simp
  rw [← hr, List.getElem?_append_left (List.getElem?_eq_some_iff.1 this).1]
  exact this
end Go.Proofs.Ytmhjjhaipcgbiaa


namespace Go.Proofs.Ytmhjjhaipcgbiaa
open Go.RowKit
set_option linter.unusedVariables false
set_option linter.unusedSimpArgs false
set_option maxRecDepth 100000
set_option maxHeartbeats 1000000
def valueC (c : Col) (i : Nat) : Nat × List Int :=
  if c.k = 15 then (0, (c.data.drop (aheadI c.ends i).toNat).take (c.ends.getD i 0 - aheadI c.ends i).toNat)
  else if c.k = 16 then (0, c.words.getD (wordAt c.data (i * 4) 4) [])
  else (wordAt c.data (i * (widthOf c.k).toNat) (widthOf c.k).toNat, [])
theorem built_null (k s : Int) (l : List V) (i : Nat) (h : i < l.length) : nullB ((CS.of k l).col k s).bits i = l[i].null := by
  show nullB (mof _) i = _
  rw [mof_bit, nulls_of, List.getElem?_map, List.getElem?_eq_getElem h]
  rfl
theorem all_range {n : Nat} {p : Nat → Bool} (h : ∀ i, i < n → p i = true) : (List.range n).all p = true := by
  rw [List.all_eq_true]
  intro i hi
  exact h i (List.mem_range.1 hi)
theorem running_may (s : Int) (l : List V) (hl : ∀ v ∈ l, vOK 15 s v) : mayRunning ((CS.of 15 l).col 15 s) = true := by
  have hE := (running_ends l).1
  have hn : (CS.of 15 l).nulls.length = l.length := by rw [nulls_of]; simp
  unfold mayRunning
  simp only [Bool.and_eq_true, beq_iff_eq]
  refine ⟨⟨⟨?_, ?_⟩, all_range fun i hi => ?_⟩, ?_⟩
  · show ((CS.of 15 l).ends.length : Int) = ((CS.of 15 l).nulls.length : Int)
    rw [hE, hn]
  · show (CS.of 15 l).words.isEmpty = true
    rw [(running_data l).2]; rfl
  · have hi : i < l.length := by rw [← hE]; exact hi
    rw [built_null 15 s l i hi]
    show (!(decide ((CS.of 15 l).ends.getD i 0 < aheadI (CS.of 15 l).ends i) || decide (((CS.of 15 l).data.length : Int) < (CS.of 15 l).ends.getD i 0) || (l[i].null && (CS.of 15 l).ends.getD i 0 != aheadI (CS.of 15 l).ends i))) = true
    rw [running_ahead l i (by omega), (running_ends l).2 i hi, (running_data l).1]
    obtain ⟨_, h2, h3⟩ := running_piece l i hi
    have hv := hl l[i] (List.getElem_mem _)
    simp only [Bool.not_eq_true', Bool.or_eq_false_iff, Bool.and_eq_false_iff, decide_eq_false_iff_not]
    refine ⟨⟨by omega, by omega⟩, ?_⟩
    cases hnl : l[i].null with
    | false => exact .inl rfl
    | true =>
      refine .inr ?_
      have := (hv.2.2.1 hnl).2
      rw [this] at h2
      simp at h2
      simp [h2]
  · show aheadI (CS.of 15 l).ends (CS.of 15 l).ends.length = ((CS.of 15 l).data.length : Int)
    rw [hE, running_ahead l _ (Nat.le_refl _), (running_data l).1, List.take_length]
theorem running_value (s : Int) (l : List V) (hl : ∀ v ∈ l, vOK 15 s v) (i : Nat) (h : i < l.length) : valueC ((CS.of 15 l).col 15 s) i = (l[i].bits, l[i].text) := by
  have hv := hl l[i] (List.getElem_mem _)
  have hb : l[i].bits = 0 := by
    cases hn : l[i].null with
    | true => exact (hv.2.2.1 hn).1
    | false => have := hv.2.2.2 hn; exact this
  rw [hb]
  unfold valueC
  rw [if_pos (show ((CS.of 15 l).col 15 s).k = 15 from rfl)]
  show (0, ((CS.of 15 l).data.drop (aheadI (CS.of 15 l).ends i).toNat).take ((CS.of 15 l).ends.getD i 0 - aheadI (CS.of 15 l).ends i).toNat) = _
  obtain ⟨h1, h2, h3⟩ := running_piece l i h
  rw [running_ahead l i (by omega), (running_ends l).2 i h, (running_data l).1, Int.toNat_natCast, show ((((l.take (i + 1)).flatMap (·.text)).length : Int) - (((l.take i).flatMap (·.text)).length : Int)).toNat = ((l.take (i + 1)).flatMap (·.text)).length - ((l.take i).flatMap (·.text)).length by omega, h1]
theorem coded_word (s : Int) (l : List V) (hm : l.length ≤ 100000000) (i : Nat) (h : i < l.length) : wordAt ((CS.of 16 l).col 16 s).data (i * 4) 4 = if l[i].null then 0 else codeOf (wordsOf [] (l.take i)) l[i].text := by
  show wordAt (CS.of 16 l).data (i * 4) 4 = _
  rw [coded_of]
  show wordAt ((codesOf [] l).flatMap fun x => lows x 4) (i * 4) 4 = _
  have hg := codes_get l [] i h
  have hi : i < (codesOf [] l).length := by rw [codes_len]; exact h
  rw [wordAt_flat _ 4 i hi]
  rw [List.getElem?_eq_getElem hi, Option.some.injEq] at hg
  rw [hg]
  refine Nat.mod_eq_of_lt ?_
  split
  · decide
  · have h1 := codeOf_le (wordsOf [] (l.take i)) l[i].text
    have h2 := words_len (l.take i) []
    simp only [List.length_nil, List.length_take] at h2
    omega
theorem coded_run (s : Int) (l : List V) (hm : l.length ≤ 100000000) : ∀ i, i ≤ l.length → codedRun ((CS.of 16 l).col 16 s) i = some (wordsOf [] (l.take i)).length
  | 0, _ => by simp [codedRun, wordsOf]
  | i + 1, h => by
    rw [codedRun, coded_run s l hm i (by omega), Option.bind_some]
    unfold codedStep
    rw [coded_word s l hm i (by omega), built_null 16 s l i (by omega), words_step l [] i (by omega)]
    cases hn : l[i].null with
    | true => simp
    | false =>
      simp only [Bool.false_eq_true, if_false, Bool.false_and, Bool.not_false, Bool.true_and, Bool.false_or]
      have hle := codeOf_le (wordsOf [] (l.take i)) l[i].text
      rw [if_neg (by simpa using hle)]
      cases hc : (wordsOf [] (l.take i)).contains l[i].text with
      | true =>
        have := (List.getElem?_eq_some_iff.1 (codeOf_get hc)).1
        rw [if_neg (by simp; omega), addWord_old hc]
      | false => rw [if_pos (by simp [codeOf_new hc]), addWord_new hc]; simp
theorem coded_may (s : Int) (l : List V) (hm : l.length ≤ 100000000) : mayCoded ((CS.of 16 l).col 16 s) = true := by
  have hn : (CS.of 16 l).nulls.length = l.length := by rw [nulls_of]; simp
  have hd : (CS.of 16 l).data.length = l.length * 4 := by rw [coded_of]; show ((codesOf [] l).flatMap fun x => lows x 4).length = _; rw [flatMap_len _ 4 (fun x => lows_len x 4), codes_len]
  unfold mayCoded sizedB
  simp only [Bool.and_eq_true, beq_iff_eq, decide_eq_true_eq]
  refine ⟨⟨⟨⟨?_, ?_⟩, ?_⟩, ?_⟩, ?_⟩
  · show (CS.of 16 l).data.length % 4 = 0
    omega
  · show (((CS.of 16 l).data.length / 4 : Nat) : Int) = ((CS.of 16 l).nulls.length : Int)
    omega
  · show (CS.of 16 l).ends.isEmpty = true
    rw [coded_of]; rfl
  · show (CS.of 16 l).words.Nodup
    rw [coded_of]; exact words_nodup l [] List.nodup_nil
  · show codedRun ((CS.of 16 l).col 16 s) (((CS.of 16 l).nulls.length : Int)).toNat = some (CS.of 16 l).words.length
    rw [hn, Int.toNat_natCast, coded_run s l hm _ (Nat.le_refl _), List.take_length, coded_of]
theorem coded_value (s : Int) (l : List V) (hm : l.length ≤ 100000000) (hl : ∀ v ∈ l, vOK 16 s v) (i : Nat) (h : i < l.length) (hn : l[i].null = false) : valueC ((CS.of 16 l).col 16 s) i = (l[i].bits, l[i].text) := by
  have hv := hl l[i] (List.getElem_mem _)
  have hb : l[i].bits = 0 := hv.2.2.2 hn
  rw [hb]
  unfold valueC
  rw [if_neg (show ¬ ((CS.of 16 l).col 16 s).k = 15 from (by decide : ¬ (16 : Int) = 15)), if_pos (show ((CS.of 16 l).col 16 s).k = 16 from rfl), coded_word s l hm i h, hn]
  show (0, (CS.of 16 l).words.getD (codeOf _ _) []) = _
  rw [coded_of]
  show (0, (wordsOf [] l).getD (codeOf _ _) []) = _
  rw [List.getD_eq_getElem?_getD, word_at_code l i h hn]
  rfl
theorem width_pos {k s : Int} (h : okType k s = true) (h1 : k ≠ 15) : ∃ W : Nat, widthOf k = (W : Int) ∧ 1 ≤ W ∧ W ≤ 8 := by
  unfold okType at h
  simp only [decide_eq_true_eq] at h
  unfold widthOf
  split
  · exact ⟨1, rfl, by omega⟩
  split
  · exact ⟨2, rfl, by omega⟩
  split
  · exact ⟨4, rfl, by omega⟩
  split
  · exact ⟨8, rfl, by omega⟩
  · omega
theorem f32_lt {b : Int} (h : f32OK b = true) : b < 4294967296 := by
  unfold f32OK at h
  simp only [Bool.and_eq_true, decide_eq_true_eq] at h
  exact h.1
theorem fits_width {k s : Int} {b W : Nat} (hf : fitsB k s (b : Int) = true) (hw : widthOf k = (W : Int)) (h1 : k ≠ 15) (h2 : k ≠ 16) (hb : b < 18446744073709551616) : b < 256 ^ W := by
  unfold fitsB at hf
  simp only [Bool.and_eq_true] at hf
  obtain ⟨ho, hf⟩ := hf
  unfold okType at ho
  simp only [decide_eq_true_eq] at ho
  have hk : k = 1 ∨ k = 2 ∨ k = 3 ∨ k = 4 ∨ k = 5 ∨ k = 6 ∨ k = 7 ∨ k = 8 ∨ k = 9 ∨ k = 10 ∨ k = 11 ∨ k = 12 ∨ k = 13 ∨ k = 14 := by omega
  clear ho h1 h2
  have e8 : ∀ W : Nat, (8 : Int) = (W : Int) → b < 256 ^ W := fun W e => (show W = 8 by omega) ▸ hb
  rcases hk with rfl | rfl | rfl | rfl | rfl | rfl | rfl | rfl | rfl | rfl | rfl | rfl | rfl | rfl
  case inr.inr.inr.inr.inr.inr.inr.inr.inl =>
    have e : (4 : Int) = (W : Int) := hw
    obtain rfl : W = 4 := by omega
    have := f32_lt (show f32OK b = true from hf)
    show b < 4294967296
    omega
  all_goals first
    | exact e8 W hw
    | (have e : (1 : Int) = (W : Int) := hw
       obtain rfl : W = 1 := by omega
       first
        | (have h3 : decide ((b : Int) ≤ 255) = true := hf
           rw [decide_eq_true_eq] at h3
           show b < 256; omega)
        | (have h3 : decide ((b : Int) ≤ 1) = true := hf
           rw [decide_eq_true_eq] at h3
           show b < 256; omega))
    | (have e : (2 : Int) = (W : Int) := hw
       obtain rfl : W = 2 := by omega
       have h3 : decide ((b : Int) ≤ 65535) = true := hf
       rw [decide_eq_true_eq] at h3
       show b < 65536; omega)
    | (have e : (4 : Int) = (W : Int) := hw
       obtain rfl : W = 4 := by omega
       have h3 : decide ((b : Int) ≤ 4294967295) = true := hf
       rw [decide_eq_true_eq] at h3
       show b < 4294967296; omega)
theorem fixed_word {k s : Int} (h1 : k ≠ 15) (h2 : k ≠ 16) {W : Nat} (hw : widthOf k = (W : Int)) (l : List V) (hl : ∀ v ∈ l, vOK k s v) (i : Nat) (h : i < l.length) : wordAt ((CS.of k l).col k s).data (i * W) W = l[i].bits := by
  show wordAt (CS.of k l).data (i * W) W = _
  rw [fixed_of h1 h2]
  show wordAt ((l.map (·.bits)).flatMap fun x => lows x (widthOf k).toNat) (i * W) W = _
  rw [hw, Int.toNat_natCast, wordAt_flat _ W i (by simpa using h), List.getElem_map]
  have hv := hl l[i] (List.getElem_mem _)
  refine Nat.mod_eq_of_lt ?_
  cases hn : l[i].null with
  | true => rw [(hv.2.2.1 hn).1]; exact Nat.pow_pos (by decide)
  | false =>
    have h3 := hv.2.2.2 hn
    rw [if_neg (by simp [wordedB, h1, h2])] at h3
    exact fits_width h3.1 hw h1 h2 hv.2.1
theorem fixed_may {k s : Int} (ho : okType k s = true) (h1 : k ≠ 15) (h2 : k ≠ 16) (l : List V) (hl : ∀ v ∈ l, vOK k s v) : mayFixed k s (widthOf k).toNat ((CS.of k l).col k s) = true := by
  obtain ⟨W, hw, hp, h8⟩ := width_pos ho h1
  have hn : (CS.of k l).nulls.length = l.length := by rw [nulls_of]; simp
  have hd : (CS.of k l).data.length = l.length * W := by rw [fixed_of h1 h2]; show ((l.map (·.bits)).flatMap fun x => lows x (widthOf k).toNat).length = _; rw [hw, Int.toNat_natCast, flatMap_len _ W (fun x => lows_len x W), List.length_map]
  have he : (CS.of k l).ends = [] := by rw [fixed_of h1 h2]
  have hwd : (CS.of k l).words = [] := by rw [fixed_of h1 h2]
  rw [hw, Int.toNat_natCast]
  unfold mayFixed sizedB
  simp only [Bool.and_eq_true, beq_iff_eq]
  refine ⟨⟨⟨⟨?_, ?_⟩, ?_⟩, ?_⟩, all_range fun i hi => ?_⟩
  · show (CS.of k l).data.length % W = 0
    rw [hd, Nat.mul_mod_left]
  · show (((CS.of k l).data.length / W : Nat) : Int) = ((CS.of k l).nulls.length : Int)
    rw [hd, Nat.mul_div_cancel _ hp, hn]
  · show (CS.of k l).ends.isEmpty = true
    rw [he]; rfl
  · show (CS.of k l).words.isEmpty = true
    rw [hwd]; rfl
  · have hi : i < l.length := by
      have : i < (((CS.of k l).nulls.length : Int)).toNat := hi
      omega
    rw [built_null k s l i hi, fixed_word h1 h2 hw l hl i hi]
    have hv := hl l[i] (List.getElem_mem _)
    cases hnl : l[i].null with
    | true => simp [(hv.2.2.1 hnl).1]
    | false =>
      have h3 := hv.2.2.2 hnl
      rw [if_neg (by simp [wordedB, h1, h2])] at h3
      simp [h3.1]
theorem built_ok {k s : Int} (ho : okType k s = true) (l : List V) (hl : ∀ v ∈ l, vOK k s v) (hm : l.length ≤ 100000000) : checkC ((CS.of k l).col k s) = 0 := by
  unfold checkC
  rw [if_neg (by show ¬ okType k s = false; rw [ho]; decide), if_pos]
  simp only [Bool.and_eq_true, beq_iff_eq]
  refine ⟨⟨mof_ok _, rfl⟩, ?_⟩
  unfold mayB
  by_cases h1 : k = 15
  · rw [if_pos (show ((CS.of k l).col k s).k = 15 from h1)]; subst h1; exact running_may s l hl
  by_cases h2 : k = 16
  · rw [if_neg (show ¬ ((CS.of k l).col k s).k = 15 from h1), if_pos (show ((CS.of k l).col k s).k = 16 from h2)]; subst h2; exact coded_may s l hm
  rw [if_neg (show ¬ ((CS.of k l).col k s).k = 15 from h1), if_neg (show ¬ ((CS.of k l).col k s).k = 16 from h2)]
  exact fixed_may ho h1 h2 l hl
theorem built_value {k s : Int} (ho : okType k s = true) (l : List V) (hl : ∀ v ∈ l, vOK k s v) (hm : l.length ≤ 100000000) (i : Nat) (h : i < l.length) (hn : l[i].null = false) : valueC ((CS.of k l).col k s) i = (l[i].bits, l[i].text) := by
  by_cases h1 : k = 15
  · subst h1; exact running_value s l hl i h
  by_cases h2 : k = 16
  · subst h2; exact coded_value s l hm hl i h hn
  obtain ⟨W, hw, hp, h8⟩ := width_pos ho h1
  unfold valueC
  rw [if_neg (show ((CS.of k l).col k s).k ≠ 15 from h1), if_neg (show ((CS.of k l).col k s).k ≠ 16 from h2)]
  show (wordAt _ (i * (widthOf k).toNat) (widthOf k).toNat, []) = _
  rw [hw, Int.toNat_natCast, fixed_word h1 h2 hw l hl i h]
  have hv := (hl l[i] (List.getElem_mem _)).2.2.2 hn
  rw [if_neg (by simp [wordedB, h1, h2])] at hv
  rw [hv.2]
end Go.Proofs.Ytmhjjhaipcgbiaa


namespace Go.Proofs.Ytmhjjhaipcgbiaa
open Go.RowKit
set_option linter.unusedVariables false
set_option linter.unusedSimpArgs false
set_option maxRecDepth 100000
set_option maxHeartbeats 1000000
theorem lows_succ18 (X n : Nat) : lows X (n + 1) = lows X n ++ [((X / 256 ^ n % 256 : Nat) : Int)] := by simp [lows, List.range_succ]
def Put18P (base : Nat) (a : Option Addr) (c : Nat) (data : List Int) (X W : Nat) (w : World) (e : Ending) (w' : World) : Prop :=
  ∃ a' c', e = .returned (.slice a' (data.length + W) c') ∧ Own w' base 5 1 (.slice a' (data.length + W) c') (data.length + W) ((data ++ lows X W).map (.int .u8)) ∧ Kept (fun b => (Value.slice a data.length c).ownBlock = some b) w w' ∧
    ((Value.slice a' (data.length + W) c').ownBlock = (Value.slice a data.length c).ownBlock ∨ ∃ b, (Value.slice a' (data.length + W) c').ownBlock = some b ∧ w.heap.size ≤ b)
structure Put18I (base : Nat) (a : Option Addr) (c : Nat) (data : List Int) (X i : Nat) (a' : Option Addr) (c' : Nat) (w wr : World) : Prop where
  own : Own wr base 5 1 (.slice a' (data.length + i) c') (data.length + i) ((data ++ lows X i).map (.int .u8))
  kept : Kept (fun b => (Value.slice a data.length c).ownBlock = some b) w wr
  blk : (Value.slice a' (data.length + i) c').ownBlock = (Value.slice a data.length c).ownBlock ∨ ∃ b, (Value.slice a' (data.length + i) c').ownBlock = some b ∧ w.heap.size ≤ b
theorem put18_next {base : Nat} {a : Option Addr} {c : Nat} {data : List Int} {X i : Nat} {a' a2 : Option Addr} {c' c2 : Nat} {w wr w2 : World} {o : Obj} {y : Int} (h : Put18I base a c data X i a' c' w wr) (hy : y = ((X / 256 ^ i % 256 : Nat) : Int))
    (hA : AppP (wr.alloc o) base 5 1 (.slice a' (data.length + i) c') (data.length + i) ((data ++ lows X i).map (.int .u8)) 1 [.int .u8 y] (.slice a2 (data.length + i + 1) c2) w2) : Put18I base a c data X (i + 1) a2 c2 w w2 := by
  subst hy
  refine ⟨?_, ?_, ?_⟩
  · have := hA.own
    rw [lows_succ18]
    simpa [List.append_assoc, Nat.add_assoc] using this
  · refine h.kept.trans ((Kept.of_below (below_new wr o)).trans (Kept.of_grown hA.grown) (S := fun b => (Value.slice a' (data.length + i) c').ownBlock = some b) (fun b e _ => e.symm)) (fun b e hlt => ?_)
    rcases h.blk with h1 | ⟨b', h1, h2⟩
    · exact h1 ▸ e
    · rw [h1] at e; cases e; omega
  · have hs : (wr.alloc o).heap.size = wr.heap.size + 1 := by simp
    have hk := h.kept.size
    rcases hA.blk with h1 | ⟨b', h1, h2⟩
    · exact (show (Value.slice a2 (data.length + (i + 1)) c2).ownBlock = _ from h1) ▸ h.blk
    · exact .inr ⟨b', h1, by omega⟩
theorem put18_any (base : Nat) (data : List Int) (X W : Nat) (hX : X < 18446744073709551616) (hW : W ≤ 8) (hl : data.length ≤ 100000000) (a : Option Addr) (c : Nat) (w : World) (h : Own w base 5 1 (.slice a data.length c) data.length (data.map (.int .u8))) (hb : base ≤ w.heap.size) :
    Calls Try.prog 109 #[.slice a data.length c, .int .u64 (X : Int), .int .i64 (W : Int)] w (Put18P base a c data X W w) := by
  have H := Aside.mk (show Put18I base a c data X 0 a c w w from ⟨by simpa [lows] using h, Kept.refl _ _, .inl rfl⟩)
  have HX := Aside.mk hX
  clear h hX
  generalize hdl : data.length = n at *
  have HDL := Aside.mk hdl
  go_enter Try.func109, Try.ntmps109
  go_wp2
  go_loopw [0, 1, 7] (fun bv xv iv wr => ∃ (i : Nat) (a' : Option Addr) (c' : Nat), i ≤ W ∧ bv = .slice a' (n + i) c' ∧ xv = .int .u64 ((X / 256 ^ i : Nat) : Int) ∧ iv = .int .i64 (i : Int) ∧ Aside (Put18I base a c data X i a' c' w wr)) (fun _ _ iv _ => W - (intOf iv).toNat)
  case atStart => exact ⟨0, a, c, by omega, rfl, by simp, rfl, H⟩
  case round =>
    clear H
    obtain ⟨i, a', c', hi, rfl, rfl, rfl, hp⟩ := hrel
    have hk := hp.out.kept.size
    by_cases hlt : i < W
    · have hy : X / 256 ^ i < 18446744073709551616 := Nat.lt_of_le_of_lt (Nat.div_le_self _ _) HX.out
      have HY := Aside.mk (show X / 256 ^ (i + 1) = X / 256 ^ i / 256 by rw [Nat.pow_succ, Nat.div_div_eq_div_mul])
      have HO := Aside.mk (show Own wr base 5 1 (.slice a' (n + i) c') (n + i) ((data ++ lows X i).map (.int .u8)) from hdl ▸ hp.out.own)
      have HQ := Aside.mk (show (((X / 256 ^ i : Nat) : Int) % 256) = ((X / 256 ^ i % 256 : Nat) : Int) by simp)
      clear hdl
      generalize hyg : X / 256 ^ i = y at *
      have HYG := Aside.mk hyg
      clear hyg
      go_wp2_with (at_builtin; refine wpList_app2 _ rfl _ _ 37 37 rfl base 5 (.int .u8 0) 1 1 Try.underlying37 u8info rfl _ (n + i) ((data ++ lows X i).map (.int .u8)) rfl (HO.out.alloc _) _ 1 [_] rfl (src_one Try.underlying37 _ _ _ rfl rfl) (by unfold maxLen; omega) (by omega) (Nat.le_trans hb (by simp; omega)) ?_)
      intro v' w5 hA
      obtain ⟨a5, c5, rfl⟩ := hA.own.form
      have HA := Aside.mk hA
      clear hA
      go_wp2_with fail
      have e := HDL.out
      subst e
      exact ⟨⟨i + 1, a5, c5, by omega, by rw [Nat.add_assoc], by rw [HY.out]; simp, by simp, ⟨put18_next (y := (y : Int) % 256) hp.out (by rw [HYG.out]; exact HQ.out) (by have := HA.out; rw [← List.map_append] at this; exact this)⟩⟩, by simp [intOf]; omega⟩
    · obtain rfl : i = W := by omega
      go_wp2_with fail
      go_ret
      subst hdl
      exact ⟨a', c', rfl, hp.out.own, hp.out.kept, hp.out.blk⟩
end Go.Proofs.Ytmhjjhaipcgbiaa
