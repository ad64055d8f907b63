/- Texts of this claim, one behind the other: Ref18, Plain, Box. -/
import Derived.Test.YtmhjjhaipcgbiaaBakP5
import Derived.Test.YtmhjjhaipcgbiaaBakP8

namespace Go.Proofs.Ytmhjjhaipcgbiaa
open Go.RowKit
set_option linter.unusedVariables false
set_option linter.unusedSimpArgs false
set_option maxRecDepth 100000
set_option maxHeartbeats 1000000
def wordedB (k : Int) : Bool := k == 15 || k == 16
theorem worded_any (k s : Int) (w : World) : Calls Try.prog 45 #[.agg #[.int .i64 k, .int .i64 s]] w (FitsP (wordedB k) w) := by
  by_cases h1 : k = 15
  · subst h1
    have hb := Aside.mk (below_new w (.cells #[.int .i64 15, .int .i64 s] 23))
    go_enter Try.func45, Try.ntmps45
    go_wp2
    go_ret
    exact ⟨rfl, hb.out⟩
  · have h2 : (k == 15) = false := by simpa using h1
    have HW : Aside (wordedB k = (k == 16)) := ⟨by simp [wordedB, h2]⟩
    have hb := Aside.mk (below_new w (.cells #[.int .i64 k, .int .i64 s] 23))
    clear h1
    go_enter Try.func45, Try.ntmps45
    go_wp2
    go_ret
    exact ⟨by rw [HW.out]; rfl, hb.out⟩
theorem r18check_yes (k s : Int) (w : World) (h : okType k s = true) :
    Calls Try.prog 11 #[.agg #[.int .i64 k, .int .i64 s]] w fun e w' => e = .returned (.int .i64 0) ∧ Below w.heap.size w w' := by
  unfold okType at h
  simp only [decide_eq_true_eq] at h
  obtain ⟨h1, h2, h3, h4, h5⟩ := h
  have hb := Aside.mk (below_new w (.cells #[.int .i64 k, .int .i64 s] 23))
  rcases h5 with h5 | h5
  · subst h5
    go_enter Try.func11, Try.ntmps11
    go_wp2
    go_ret
    exact ⟨rfl, hb.out⟩
  · subst h5
    by_cases h6 : k = 12
    · subst h6
      go_enter Try.func11, Try.ntmps11
      go_wp2
      go_ret
      exact ⟨rfl, hb.out⟩
    · have h7 : (k != 12) = true := by simpa using h6
      clear h6
      go_enter Try.func11, Try.ntmps11
      go_wp2
      go_ret
      exact ⟨rfl, hb.out⟩
theorem r18check_no (k s : Int) (w : World) (h : okType k s = false) :
    Calls Try.prog 11 #[.agg #[.int .i64 k, .int .i64 s]] w fun e w' => e = .returned (.int .i64 170) ∧ Below w.heap.size w w' := by
  unfold okType at h
  simp only [decide_eq_false_iff_not] at h
  have hb := Aside.mk (below_new w (.cells #[.int .i64 k, .int .i64 s] 23))
  have go : k < 1 ∨ (1 ≤ k ∧ 16 < k) ∨ (1 ≤ k ∧ k ≤ 16 ∧ s < 0) ∨ (1 ≤ k ∧ k ≤ 16 ∧ 0 ≤ s ∧ 18 < s) ∨ (1 ≤ k ∧ k ≤ 16 ∧ 0 < s ∧ s ≤ 18 ∧ k ≠ 12) := by omega
  clear h
  rcases go with h | ⟨h1, h⟩ | ⟨h1, h2, h⟩ | ⟨h1, h2, h0, h⟩ | ⟨h1, h2, h, h3, h4⟩
  · go_enter Try.func11, Try.ntmps11
    go_wp2
    go_ret
    exact ⟨rfl, hb.out⟩
  · go_enter Try.func11, Try.ntmps11
    go_wp2
    go_ret
    exact ⟨rfl, hb.out⟩
  · go_enter Try.func11, Try.ntmps11
    go_wp2
    go_ret
    exact ⟨rfl, hb.out⟩
  · go_enter Try.func11, Try.ntmps11
    go_wp2
    go_ret
    exact ⟨rfl, hb.out⟩
  · have h7 : (k != 12) = true := by simpa using h4
    have h8 : (s != 0) = true := by simp; omega
    have h9 : ¬ s < 0 := by omega
    clear h4
    go_enter Try.func11, Try.ntmps11
    go_wp2
    go_ret
    exact ⟨rfl, hb.out⟩
theorem r18width_any (k : Int) (w : World) : Calls Try.prog 13 #[.int .i64 k] w fun e w' => e = .returned (.int .i64 (widthOf k)) ∧ w = w' := by
  by_cases h : 1 ≤ k ∧ k ≤ 16
  · obtain ⟨h1, h2⟩ := h
    have hk : k = 1 ∨ k = 2 ∨ k = 3 ∨ k = 4 ∨ k = 5 ∨ k = 6 ∨ k = 7 ∨ k = 8 ∨ k = 9 ∨ k = 10 ∨ k = 11 ∨ k = 12 ∨ k = 13 ∨ k = 14 ∨ k = 15 ∨ k = 16 := by omega
    clear h1 h2
    rcases hk with rfl | rfl | rfl | rfl | rfl | rfl | rfl | rfl | rfl | rfl | rfl | rfl | rfl | rfl | rfl | rfl
    all_goals
      go_enter Try.func13, Try.ntmps13
      go_wp2_with (go_at_call 38; refine (r5width_any _ _).mono ?_; rintro e w1 ⟨rfl, rfl⟩; simp only [wbits, reduceCtorEq, Int.reduceEq, or_self, or_true, true_or, or_false, false_or, if_true, if_false, ↓reduceIte])
      go_ret
      exact ⟨rfl, rfl⟩
  · have hw : Aside (widthOf k = 0) := ⟨by unfold widthOf; rw [if_neg (by omega), if_neg (by omega), if_neg (by omega), if_neg (by omega)]⟩
    have hw5 : wbits k = 0 := by unfold wbits; rw [if_neg (by omega), if_neg (by omega), if_neg (by omega), if_neg (by omega)]
    have hw5 := Aside.mk hw5
    have h' : k < 1 ∨ 16 < k := by omega
    clear h
    rcases h' with h | h
    all_goals
      go_enter Try.func13, Try.ntmps13
      go_wp2_with (go_at_call 38; refine (r5width_any _ _).mono ?_; rintro e w1 ⟨rfl, rfl⟩; simp only [hw5.out])
      go_ret
      exact ⟨by rw [hw.out]; rfl, rfl⟩
end Go.Proofs.Ytmhjjhaipcgbiaa


namespace Go.Proofs.Ytmhjjhaipcgbiaa
open Go.RowKit
set_option linter.unusedVariables false
set_option linter.unusedSimpArgs false
set_option maxRecDepth 100000
set_option maxHeartbeats 1000000
structure V where
  null : Bool
  bits : Nat
  text : List Int
structure CS where
  nulls : List Bool
  data : List Int
  ends : List Int
  words : List (List Int)
def CS.zero : CS := ⟨[], [], [], []⟩
def CS.add (k : Int) (c : CS) (v : V) : CS :=
  if k = 15 then ⟨c.nulls ++ [v.null], c.data ++ v.text, c.ends ++ [((c.data ++ v.text).length : Int)], c.words⟩
  else if k = 16 then ⟨c.nulls ++ [v.null], c.data ++ lows (if v.null then 0 else codeOf c.words v.text) 4, c.ends, if v.null then c.words else addWord c.words v.text⟩
  else ⟨c.nulls ++ [v.null], c.data ++ lows v.bits (widthOf k).toNat, c.ends, c.words⟩
def CS.of (k : Int) (l : List V) : CS := l.foldl (CS.add k) CS.zero
theorem CS.of_snoc (k : Int) (l : List V) (v : V) : CS.of k (l ++ [v]) = (CS.of k l).add k v := by simp [CS.of, List.foldl_append]
structure Col where
  k : Int
  s : Int
  n : Int
  m : Int
  bits : List Int
  data : List Int
  ends : List Int
  words : List (List Int)
def CS.col (c : CS) (k s : Int) : Col := ⟨k, s, c.nulls.length, c.nulls.length, mof c.nulls, c.data, c.ends, c.words⟩
def wordAt (data : List Int) (o : Nat) : Nat → Nat
  | 0 => 0
  | n + 1 => wordAt data o n + (data.getD (o + n) 0).toNat * 256 ^ n
theorem wordAt_lows (data : List Int) (o X : Nat) : ∀ n, (∀ j, j < n → data.getD (o + j) 0 = ((X / 256 ^ j % 256 : Nat) : Int)) → wordAt data o n = X % 256 ^ n
  | 0, _ => by simp [wordAt, Nat.mod_one]
  | n + 1, h => by
    rw [wordAt, wordAt_lows data o X n (fun j hj => h j (by omega)), h n (by omega), Int.toNat_natCast, Nat.mod_pow_succ, Nat.mul_comm]
theorem wordAt_lt {data : List Int} (h : IsBytes data) (o : Nat) : ∀ n, wordAt data o n < 256 ^ n
  | 0 => by simp [wordAt]
  | n + 1 => by
    have h1 := wordAt_lt h o n
    have h2 := getD_byte h (o + n)
    have h3 : (data.getD (o + n) 0).toNat * 256 ^ n ≤ 255 * 256 ^ n := Nat.mul_le_mul_right _ (by omega)
    rw [wordAt, Nat.pow_succ]
    omega
def sizedB (W : Nat) (c : Col) : Bool := c.data.length % W == 0 && (((c.data.length / W : Nat) : Int) == c.n) && c.ends.isEmpty
def aheadI (ends : List Int) (i : Nat) : Int := if i = 0 then 0 else ends.getD (i - 1) 0
def mayFixed (k s : Int) (W : Nat) (c : Col) : Bool := sizedB W c && c.words.isEmpty && (List.range c.n.toNat).all fun i => if nullB c.bits i then wordAt c.data (i * W) W == 0 else fitsB k s (wordAt c.data (i * W) W)
def mayRunning (c : Col) : Bool := ((c.ends.length : Int) == c.n) && c.words.isEmpty && ((List.range c.ends.length).all fun i => !(decide (c.ends.getD i 0 < aheadI c.ends i) || decide ((c.data.length : Int) < c.ends.getD i 0) || (nullB c.bits i && c.ends.getD i 0 != aheadI c.ends i))) && (aheadI c.ends c.ends.length == (c.data.length : Int))
def codedStep (c : Col) (i next : Nat) : Option Nat :=
  let code := wordAt c.data (i * 4) 4
  if (nullB c.bits i && code != 0) || decide (next < code) then none else if !nullB c.bits i && code == next then some (next + 1) else some next
def codedRun (c : Col) : Nat → Option Nat
  | 0 => some 0
  | i + 1 => (codedRun c i).bind (codedStep c i)
def mayCoded (c : Col) : Bool := sizedB 4 c && decide c.words.Nodup && (codedRun c c.n.toNat == some c.words.length)
def mayB (c : Col) : Bool := if c.k = 15 then mayRunning c else if c.k = 16 then mayCoded c else mayFixed c.k c.s (widthOf c.k).toNat c
def checkC (c : Col) : Int := if okType c.k c.s = false then 170 else if maskOK c.m c.bits && c.m == c.n && mayB c then 0 else 171
def vOK (k s : Int) (v : V) : Prop := IsBytes v.text ∧ v.bits < 18446744073709551616 ∧ (v.null = true → v.bits = 0 ∧ v.text = []) ∧ (v.null = false → if wordedB k then v.bits = 0 else fitsB k s v.bits = true ∧ v.text = [])
theorem flatMap_get {α β : Type} (f : α → List β) (W : Nat) (hW : ∀ x, (f x).length = W) : ∀ (l : List α) (i j : Nat) (h : i < l.length), j < W → (l.flatMap f)[i * W + j]? = (f l[i])[j]?
  | [], i, j, h, _ => by simp at h
  | x :: l, 0, j, h, hj => by
    rw [List.flatMap_cons, Nat.zero_mul, Nat.zero_add, List.getElem?_append_left (by rw [hW]; exact hj)]
    rfl
  | x :: l, i + 1, j, h, hj => by
    rw [List.flatMap_cons, List.getElem?_append_right (by rw [hW, Nat.add_mul]; omega), hW, show (i + 1) * W + j - W = i * W + j by rw [Nat.add_mul]; omega]
    exact flatMap_get f W hW l i j (by simpa using h) hj
theorem flatMap_len {α β : Type} (f : α → List β) (W : Nat) (hW : ∀ x, (f x).length = W) : ∀ l : List α, (l.flatMap f).length = l.length * W
  | [] => by simp
  | x :: l => by rw [List.flatMap_cons, List.length_append, hW, flatMap_len f W hW l, List.length_cons, Nat.add_mul]; omega
theorem lows_len (X n : Nat) : (lows X n).length = n := by simp [lows]
theorem lows_get (X n j : Nat) (h : j < n) : (lows X n)[j]? = some ((X / 256 ^ j % 256 : Nat) : Int) := by simp [lows, h]
theorem lows_bytes (X n : Nat) : IsBytes (lows X n) := fun x hx => by
  simp only [lows, List.mem_map] at hx
  obtain ⟨i, _, rfl⟩ := hx
  omega
theorem wordAt_flat (l : List Nat) (W i : Nat) (h : i < l.length) : wordAt (l.flatMap fun x => lows x W) (i * W) W = l[i] % 256 ^ W := by
  refine wordAt_lows _ _ _ W fun j hj => ?_
  rw [List.getD_eq_getElem?_getD, flatMap_get _ W (fun x => lows_len x W) l i j h hj, lows_get _ _ _ hj]
  rfl
theorem nulls_of (k : Int) (l : List V) : (CS.of k l).nulls = l.map (·.null) := by
  have : ∀ (l : List V) (c : CS), (l.foldl (CS.add k) c).nulls = c.nulls ++ l.map (·.null) := by
    intro l
    induction l with
    | nil => intro c; simp
    | cons v r ih =>
      intro c
      rw [List.foldl_cons, ih, List.map_cons]
      unfold CS.add
      split
      · simp
      split <;> simp
  simpa [CS.zero, CS.of] using this l CS.zero
theorem fixed_of {k : Int} (h1 : k ≠ 15) (h2 : k ≠ 16) (l : List V) : CS.of k l = ⟨l.map (·.null), (l.map (·.bits)).flatMap fun x => lows x (widthOf k).toNat, [], []⟩ := by
  have : ∀ (l : List V) (c : CS), l.foldl (CS.add k) c = ⟨c.nulls ++ l.map (·.null), c.data ++ (l.map (·.bits)).flatMap (fun x => lows x (widthOf k).toNat), c.ends, c.words⟩ := by
    intro l
    induction l with
    | nil => intro c; simp
    | cons v r ih =>
      intro c
      rw [List.foldl_cons, ih]
      simp [CS.add, h1, h2]
  simpa [CS.zero, CS.of] using this l CS.zero
theorem running_data (l : List V) : (CS.of 15 l).data = l.flatMap (·.text) ∧ (CS.of 15 l).words = [] := by
  have : ∀ (l : List V) (c : CS), (l.foldl (CS.add 15) c).data = c.data ++ l.flatMap (·.text) ∧ (l.foldl (CS.add 15) c).words = c.words := by
    intro l
    induction l with
    | nil => intro c; simp
    | cons v r ih =>
      intro c
      rw [List.foldl_cons, (ih _).1, (ih _).2]
      simp [CS.add]
  simpa [CS.zero, CS.of] using this l CS.zero
theorem snoc_ind {α : Type} {p : List α → Prop} (h0 : p []) (h1 : ∀ l v, p l → p (l ++ [v])) (l : List α) : p l := by
  have : ∀ r : List α, p r.reverse := by
    intro r
    induction r with
    | nil => exact h0
    | cons x r ih => rw [List.reverse_cons]; exact h1 _ _ ih
  have h := this l.reverse
  rwa [List.reverse_reverse] at h
theorem running_ends (l : List V) : (CS.of 15 l).ends.length = l.length ∧ ∀ i, i < l.length → (CS.of 15 l).ends.getD i 0 = (((l.take (i + 1)).flatMap (·.text)).length : Int) := by
  induction l using snoc_ind with
  | h0 => exact ⟨rfl, fun i h => by simp at h⟩
  | h1 l v ih =>
    have e : (CS.of 15 (l ++ [v])).ends = (CS.of 15 l).ends ++ [(((l ++ [v]).flatMap (·.text)).length : Int)] := by
      rw [CS.of_snoc]
      simp [CS.add, (running_data l).1]
    rw [e]
    refine ⟨by simp [ih.1], fun i h => ?_⟩
    rw [List.getD_eq_getElem?_getD]
    simp at h
    rcases Nat.lt_or_ge i l.length with hl | hl
    · rw [List.getElem?_append_left (by rw [ih.1]; exact hl), ← List.getD_eq_getElem?_getD, ih.2 i hl, List.take_append_of_le_length (by omega)]
    · rw [List.getElem?_append_right (by rw [ih.1]; exact hl), ih.1, show i - l.length = 0 by omega, List.take_of_length_le (by simp; omega)]
      rfl
theorem running_ahead (l : List V) (i : Nat) (h : i ≤ l.length) : aheadI (CS.of 15 l).ends i = (((l.take i).flatMap (·.text)).length : Int) := by
  unfold aheadI
  cases i with
  | zero => simp
  | succ i => rw [if_neg (by omega), show i + 1 - 1 = i from rfl, (running_ends l).2 i (by omega)]
theorem running_piece (l : List V) (i : Nat) (h : i < l.length) : ((l.flatMap (·.text)).drop ((l.take i).flatMap (·.text)).length).take (((l.take (i + 1)).flatMap (·.text)).length - ((l.take i).flatMap (·.text)).length) = l[i].text ∧
    ((l.take (i + 1)).flatMap (·.text)).length = ((l.take i).flatMap (·.text)).length + l[i].text.length ∧ ((l.take (i + 1)).flatMap (·.text)).length ≤ (l.flatMap (·.text)).length := by
  have e : (l.take (i + 1)).flatMap (·.text) = (l.take i).flatMap (·.text) ++ l[i].text := by
    rw [List.take_succ_eq_append_getElem h, List.flatMap_append]; simp
  have e2 : l.flatMap (·.text) = (l.take i).flatMap (·.text) ++ l[i].text ++ (l.drop (i + 1)).flatMap (·.text) := by
    rw [← e, ← List.flatMap_append, List.take_append_drop]
  refine ⟨?_, by rw [e, List.length_append], by rw [e2, e]; simp only [List.length_append]; omega⟩
  rw [e, List.length_append, e2, List.append_assoc, List.drop_left, Nat.add_sub_cancel_left, List.take_left]
def codesOf (ws : List (List Int)) : List V → List Nat
  | [] => []
  | v :: r => (if v.null then 0 else codeOf ws v.text) :: codesOf (if v.null then ws else addWord ws v.text) r
def wordsOf (ws : List (List Int)) : List V → List (List Int)
  | [] => ws
  | v :: r => wordsOf (if v.null then ws else addWord ws v.text) r
theorem coded_of (l : List V) : CS.of 16 l = ⟨l.map (·.null), (codesOf [] l).flatMap fun x => lows x 4, [], wordsOf [] l⟩ := by
  have : ∀ (l : List V) (c : CS), l.foldl (CS.add 16) c = ⟨c.nulls ++ l.map (·.null), c.data ++ (codesOf c.words l).flatMap (fun x => lows x 4), c.ends, wordsOf c.words l⟩ := by
    intro l
    induction l with
    | nil => intro c; simp [codesOf, wordsOf]
    | cons v r ih =>
      intro c
      rw [List.foldl_cons, ih]
      simp [CS.add, codesOf, wordsOf]
  simpa [CS.zero, CS.of] using this l CS.zero
theorem codes_len (l : List V) : ∀ ws, (codesOf ws l).length = l.length := by
  induction l with
  | nil => intro ws; rfl
  | cons v r ih => intro ws; simp [codesOf, ih]
theorem codes_get (l : List V) : ∀ (ws : List (List Int)) (i : Nat) (h : i < l.length), (codesOf ws l)[i]? = some (if l[i].null then 0 else codeOf (wordsOf ws (l.take i)) l[i].text) := by
  induction l with
  | nil => intro ws i h; simp at h
  | cons v r ih =>
    intro ws i h
    cases i with
    | zero => simp [codesOf, wordsOf]
    | succ i =>
      rw [codesOf, List.getElem?_cons_succ, ih _ i (by simpa using h)]
      simp [wordsOf]
theorem words_step (l : List V) : ∀ (ws : List (List Int)) (i : Nat) (h : i < l.length), wordsOf ws (l.take (i + 1)) = if l[i].null then wordsOf ws (l.take i) else addWord (wordsOf ws (l.take i)) l[i].text := by
  induction l with
  | nil => intro ws i h; simp at h
  | cons v r ih =>
    intro ws i h
    cases i with
    | zero => simp [wordsOf]
    | succ i =>
      rw [List.take_succ_cons, wordsOf, ih _ i (by simpa using h), List.take_succ_cons, wordsOf]
      simp
theorem addWord_pre (ws : List (List Int)) (t : List Int) : ws <+: addWord ws t := by
  unfold addWord
  split
  · exact List.prefix_refl _
  · exact List.prefix_append _ _
theorem words_pre (l : List V) : ∀ ws, ws <+: wordsOf ws l := by
  induction l with
  | nil => intro ws; exact List.prefix_refl _
  | cons v r ih =>
    intro ws
    rw [wordsOf]
    refine List.IsPrefix.trans ?_ (ih _)
    split
    · exact List.prefix_refl _
    · exact addWord_pre _ _
theorem words_app (l r : List V) : ∀ ws, wordsOf ws (l ++ r) = wordsOf (wordsOf ws l) r := by
  induction l with
  | nil => intro ws; rfl
  | cons v l ih => intro ws; rw [List.cons_append, wordsOf, wordsOf, ih]
theorem words_nodup (l : List V) : ∀ ws, ws.Nodup → (wordsOf ws l).Nodup := by
  induction l with
  | nil => intro ws h; exact h
  | cons v r ih =>
    intro ws h
    rw [wordsOf]
    refine ih _ ?_
    split
    · exact h
    · exact addWord_nodup h _
theorem words_len (l : List V) : ∀ ws, (wordsOf ws l).length ≤ ws.length + l.length := by
  induction l with
  | nil => intro ws; simp [wordsOf]
  | cons v r ih =>
    intro ws
    rw [wordsOf, List.length_cons]
    refine Nat.le_trans (ih _) ?_
    split
    · omega
    · have := addWord_len ws v.text; omega
theorem word_at_code (l : List V) (i : Nat) (h : i < l.length) (hn : l[i].null = false) : (wordsOf [] l)[codeOf (wordsOf [] (l.take i)) l[i].text]? = some l[i].text := by
  have e := words_step l [] i h
  rw [hn] at e
  simp only [Bool.false_eq_true, if_false] at e
  have p : wordsOf [] (l.take (i + 1)) <+: wordsOf [] l := by
    have := words_pre (l.drop (i + 1)) (wordsOf [] (l.take (i + 1)))
    rwa [← words_app, List.take_append_drop] at this
  rw [e] at p
  obtain ⟨r, hr⟩ := p
  have : (addWord (wordsOf [] (l.take i)) l[i].text)[codeOf (wordsOf [] (l.take i)) l[i].text]? = some l[i].text := by
    cases hc : (wordsOf [] (l.take i)).contains l[i].text with
    | true => rw [addWord_old hc]; exact codeOf_get hc
    | false => rw [addWord_new hc, codeOf_new hc]; simp
  rw [← hr, List.getElem?_append_left (List.getElem?_eq_some_iff.1 this).1]
  exact this
end Go.Proofs.Ytmhjjhaipcgbiaa


namespace Go.Proofs.Ytmhjjhaipcgbiaa
open Go.RowKit
set_option linter.unusedVariables false
set_option linter.unusedSimpArgs false
set_option maxRecDepth 100000
set_option maxHeartbeats 1000000
structure SL where
  a : Option Addr
  c : Nat
def colV (c : Col) (B D E W : SL) : Value := .agg #[.int .i64 c.k, .int .i64 c.s, .int .i64 c.n, .int .i64 c.m, .slice B.a c.bits.length B.c, .slice D.a c.data.length D.c, .slice E.a c.ends.length E.c, .slice W.a c.words.length W.c]
def RdWs (w : World) (vals : List Value) (ws : List (List Int)) : Prop :=
  vals.length = ws.length ∧ ∀ (i : Nat) t, ws[i]? = some t → ∃ a cap, vals[i]? = some (.slice a t.length cap) ∧ Rd w 1 (.slice a t.length cap) t.length (t.map (.int .u8))
structure RdC (w : World) (c : Col) (B D E W : SL) (vals : List Value) : Prop where
  bits : Rd w 1 (.slice B.a c.bits.length B.c) c.bits.length (c.bits.map (.int .u8))
  data : Rd w 1 (.slice D.a c.data.length D.c) c.data.length (c.data.map (.int .u8))
  ends : Rd w 1 (.slice E.a c.ends.length E.c) c.ends.length (c.ends.map (.int .i64))
  words : Rd w 1 (.slice W.a c.words.length W.c) c.words.length vals
  each : RdWs w vals c.words
theorem RdWs.below {w w' : World} {vals : List Value} {ws : List (List Int)} (h : RdWs w vals ws) (hb : Below w.heap.size w w') : RdWs w' vals ws :=
  ⟨h.1, fun i t hi => by obtain ⟨a, cap, h1, h2⟩ := h.2 i t hi; exact ⟨a, cap, h1, h2.below hb⟩⟩
theorem RdC.below {w w' : World} {c : Col} {B D E W : SL} {vals : List Value} (h : RdC w c B D E W vals) (hb : Below w.heap.size w w') : RdC w' c B D E W vals :=
  ⟨h.bits.below hb, h.data.below hb, h.ends.below hb, h.words.below hb, h.each.below hb⟩
def IsI64 (x : Int) : Prop := -9223372036854775808 ≤ x ∧ x ≤ 9223372036854775807
structure COK (c : Col) : Prop where
  bits : IsBytes c.bits
  data : IsBytes c.data
  ends : ∀ x ∈ c.ends, IsI64 x
  words : ∀ t ∈ c.words, IsBytes t ∧ t.length ≤ 100000000
  lb : c.bits.length ≤ 100000000
  ld : c.data.length ≤ 100000000
  le : c.ends.length ≤ 100000000
  lw : c.words.length ≤ 100000000
  k : IsI64 c.k
  s : IsI64 c.s
  n : IsI64 c.n
  m : IsI64 c.m
theorem rd_get {w : World} {v : Value} {n : Nat} {xs : List Int} {K : IntKind} (h : Rd w 1 v n (xs.map (.int K))) (i : Nat) (hi : i < xs.length) : ∃ b off cap, v = .slice (some ⟨b, off, none⟩) n cap ∧ n ≤ cap ∧ cap ≤ 9223372036854775807 ∧ w.cell? ⟨b, off + i, none⟩ = some (.int K (xs.getD i 0)) := by
  obtain ⟨b, off, cap, rfl, h1, h2, hc⟩ := h.some_ (by rw [List.length_map]; omega)
  refine ⟨b, off, cap, rfl, h1, h2, hc i _ ?_⟩
  rw [List.getElem?_map, List.getElem?_eq_getElem hi, List.getD_eq_getElem?_getD, List.getElem?_eq_getElem hi]
  rfl
theorem box8 {w : World} {b : Nat} {x0 x1 x2 x3 x4 x5 x6 x7 : Value} {T : TypeId} (h : w.heap[b]? = some (.cells #[x0, x1, x2, x3, x4, x5, x6, x7] T (0, 0))) :
    w.cell? ⟨b, 0, none⟩ = some x0 ∧ w.cell? ⟨b, 1, none⟩ = some x1 ∧ w.cell? ⟨b, 2, none⟩ = some x2 ∧ w.cell? ⟨b, 3, none⟩ = some x3 ∧ w.cell? ⟨b, 4, none⟩ = some x4 ∧ w.cell? ⟨b, 5, none⟩ = some x5 ∧ w.cell? ⟨b, 6, none⟩ = some x6 ∧ w.cell? ⟨b, 7, none⟩ = some x7 := by
  refine ⟨?_, ?_, ?_, ?_, ?_, ?_, ?_, ?_⟩ <;> (rw [cell_blk h]; rfl)
def BoolP (r : Bool) (w : World) (e : Ending) (w' : World) : Prop := e = .returned (.bool r) ∧ Below w.heap.size w w'
def IntP (r : Int) (w : World) (e : Ending) (w' : World) : Prop := e = .returned (.int .i64 r) ∧ Below w.heap.size w w'
def U64P (r : Nat) (w : World) (e : Ending) (w' : World) : Prop := e = .returned (.int .u64 (r : Int)) ∧ Below w.heap.size w w'
theorem shr_bit (x : Int) (h0 : 0 ≤ x) (h1 : x < 256) (k : Nat) : (bits .and .u8 (x / 2 ^ k) 1 == 1) = x.toNat.testBit k := by
  obtain ⟨n, rfl⟩ := Int.eq_ofNat_of_zero_le h0
  have e : ((n : Int) / 2 ^ k) = ((n / 2 ^ k : Nat) : Int) := by simp
  rw [e, show (1 : Int) = ((1 : Nat) : Int) from rfl, u8_and_nat _ 1 (Nat.lt_of_le_of_lt (Nat.div_le_self _ _) (by omega)) (by decide)]
  rw [Int.toNat_natCast, Nat.testBit_eq_decide_div_mod_eq, Nat.and_one_is_mod]
  rw [Bool.eq_iff_iff]
  simp
  omega
theorem null_any (c : Col) (B D E W : SL) (i : Nat) (hi : i / 8 < c.bits.length) (hb : IsBytes c.bits) (hl : c.bits.length ≤ 100000000) (w : World) (h : Rd w 1 (.slice B.a c.bits.length B.c) c.bits.length (c.bits.map (.int .u8))) :
    Calls Try.prog 56 #[colV c B D E W, .int .i64 (i : Int)] w (BoolP (nullB c.bits i) w) := by
  obtain ⟨ba, bc⟩ := B
  obtain ⟨g, off, cap, hs, hlc, hcap, hc⟩ := rd_get h (i / 8) hi
  simp only [Value.slice.injEq, true_and] at hs
  obtain ⟨rfl, rfl⟩ := hs
  have hv := getD_byte hb (i / 8)
  have hbn := below_new w (.cells #[.int .i64 c.k, .int .i64 c.s, .int .i64 c.n, .int .i64 c.m, .slice (some ⟨g, off, none⟩) c.bits.length bc, .slice D.a c.data.length D.c, .slice E.a c.ends.length E.c, .slice W.a c.words.length W.c] 43)
  have hc2 := (hbn.cell (p := ⟨g, off + i / 8, none⟩) (World.block_lt_of_cell? _ _ hc)).trans hc
  have r := Aside.mk (show _ = nullB c.bits i from shr_bit _ hv.1 hv.2 (i % 8))
  have HB := Aside.mk hbn
  clear h hbn hc
  generalize c.bits.getD (i / 8) 0 = y at *
  dsimp only [colV]
  go_enter Try.func56, Try.ntmps56
  go_wp2
  go_ret
  exact ⟨ret_bool r.out, HB.out⟩
theorem cahead_any (c : Col) (B D E W : SL) (i : Nat) (hi : i ≤ c.ends.length) (hl : c.ends.length ≤ 100000000) (w : World) (h : Rd w 1 (.slice E.a c.ends.length E.c) c.ends.length (c.ends.map (.int .i64))) :
    Calls Try.prog 69 #[colV c B D E W, .int .i64 (i : Int)] w (IntP (aheadI c.ends i) w) := by
  have hb0 := Aside.mk (below_new w (.cells #[.int .i64 c.k, .int .i64 c.s, .int .i64 c.n, .int .i64 c.m, .slice B.a c.bits.length B.c, .slice D.a c.data.length D.c, .slice E.a c.ends.length E.c, .slice W.a c.words.length W.c] 43))
  cases i with
  | zero =>
    dsimp only [colV]
    go_enter Try.func69, Try.ntmps69
    go_wp2
    go_ret
    exact ⟨rfl, hb0.out⟩
  | succ i =>
    obtain ⟨ea, ec⟩ := E
    obtain ⟨g, off, cap, hs, hlc, hcap, hc⟩ := rd_get h i (by omega)
    simp only [Value.slice.injEq, true_and] at hs
    obtain ⟨rfl, rfl⟩ := hs
    have hbn := below_new w (.cells #[.int .i64 c.k, .int .i64 c.s, .int .i64 c.n, .int .i64 c.m, .slice B.a c.bits.length B.c, .slice D.a c.data.length D.c, .slice (some ⟨g, off, none⟩) c.ends.length ec, .slice W.a c.words.length W.c] 43)
    have hc2 := (hbn.cell (p := ⟨g, off + i, none⟩) (World.block_lt_of_cell? _ _ hc)).trans hc
    have r := Aside.mk (show aheadI c.ends (i + 1) = c.ends.getD i 0 from by rw [aheadI, if_neg (by omega)]; rfl)
    clear h hbn hc
    generalize c.ends.getD i 0 = y at *
    dsimp only [colV]
    have hne : (((i + 1 : Nat) : Int) == 0) = false := by simp; omega
    go_enter Try.func69, Try.ntmps69
    go_wp2
    go_ret
    exact ⟨ret_int r.out.symm, hb0.out⟩
theorem empty_len {α : Type} (l : List α) : ((l.length : Int) == 0) = l.isEmpty := by cases l <;> simp; omega
theorem sized_1 (c : Col) (B D E X : SL) (hl : c.data.length ≤ 100000000) (w : World) :
    Calls Try.prog 141 #[.agg #[.int .i64 1], colV c B D E X] w (BoolP (sizedB 1 c) w) := by
  have hb0 := Aside.mk (((below_new w (.cells #[.int .i64 1] 128)).trans ((below_new _ (.cells #[.int .i64 c.k, .int .i64 c.s, .int .i64 c.n, .int .i64 c.m, .slice B.a c.bits.length B.c, .slice D.a c.data.length D.c, .slice E.a c.ends.length E.c, .slice X.a c.words.length X.c] 43)).mono (by simp))))
  dsimp only [colV]
  by_cases h1 : (c.data.length : Int) % 1 = 0
  · have d1 : ((c.data.length : Int) % 1 == 0) = true := by simp only [h1]; rfl
    have g1 : c.data.length % 1 = 0 := by omega
    by_cases h2 : ((c.data.length : Int) / 1) = c.n
    · have d2 : ((c.data.length : Int) == c.n) = true := by simpa using h2
      have r := Aside.mk (show ((c.ends.length : Int) == 0) = sizedB 1 c by rw [empty_len]; unfold sizedB; simp [g1]; intro _; omega)
      go_enter Try.func141, Try.ntmps141
      go_wp2
      go_quiet (fail)
      go_wp2
      go_ret
      exact ⟨ret_bool r.out, hb0.out.trans (below_drewN _ _ _)⟩
    · have d2 : ((c.data.length : Int) == c.n) = false := by simpa using h2
      have r := Aside.mk (show false = sizedB 1 c by unfold sizedB; simp [g1]; omega)
      go_enter Try.func141, Try.ntmps141
      go_wp2
      go_quiet (fail)
      go_wp2
      go_ret
      exact ⟨ret_bool r.out, hb0.out.trans (below_drewN _ _ _)⟩
  · exact absurd (Int.emod_one _) h1
theorem sized_2 (c : Col) (B D E X : SL) (hl : c.data.length ≤ 100000000) (w : World) :
    Calls Try.prog 141 #[.agg #[.int .i64 2], colV c B D E X] w (BoolP (sizedB 2 c) w) := by
  have hb0 := Aside.mk (((below_new w (.cells #[.int .i64 2] 128)).trans ((below_new _ (.cells #[.int .i64 c.k, .int .i64 c.s, .int .i64 c.n, .int .i64 c.m, .slice B.a c.bits.length B.c, .slice D.a c.data.length D.c, .slice E.a c.ends.length E.c, .slice X.a c.words.length X.c] 43)).mono (by simp))))
  dsimp only [colV]
  by_cases h1 : (c.data.length : Int) % 2 = 0
  · have d1 : ((c.data.length : Int) % 2 == 0) = true := by simp only [h1]; rfl
    have g1 : c.data.length % 2 = 0 := by omega
    by_cases h2 : ((c.data.length : Int) / 2) = c.n
    · have d2 : ((c.data.length : Int) / 2 == c.n) = true := by rw [h2]; simp
      have r := Aside.mk (show ((c.ends.length : Int) == 0) = sizedB 2 c by rw [empty_len]; unfold sizedB; simp [g1]; intro _; omega)
      go_enter Try.func141, Try.ntmps141
      go_wp2
      go_quiet (fail)
      go_wp2
      go_ret
      exact ⟨ret_bool r.out, hb0.out.trans (below_drewN _ _ _)⟩
    · have d2 : ((c.data.length : Int) / 2 == c.n) = false := by simpa using h2
      have r := Aside.mk (show false = sizedB 2 c by unfold sizedB; simp [g1]; omega)
      go_enter Try.func141, Try.ntmps141
      go_wp2
      go_quiet (fail)
      go_wp2
      go_ret
      exact ⟨ret_bool r.out, hb0.out.trans (below_drewN _ _ _)⟩
  · have d1 : ((c.data.length : Int) % 2 == 0) = false := by simpa using h1
    have r := Aside.mk (show false = sizedB 2 c by unfold sizedB; simp; omega)
    go_enter Try.func141, Try.ntmps141
    go_wp2
    go_quiet (fail)
    go_wp2
    go_ret
    exact ⟨ret_bool r.out, hb0.out.trans (below_drewN _ _ _)⟩
theorem sized_4 (c : Col) (B D E X : SL) (hl : c.data.length ≤ 100000000) (w : World) :
    Calls Try.prog 141 #[.agg #[.int .i64 4], colV c B D E X] w (BoolP (sizedB 4 c) w) := by
  have hb0 := Aside.mk (((below_new w (.cells #[.int .i64 4] 128)).trans ((below_new _ (.cells #[.int .i64 c.k, .int .i64 c.s, .int .i64 c.n, .int .i64 c.m, .slice B.a c.bits.length B.c, .slice D.a c.data.length D.c, .slice E.a c.ends.length E.c, .slice X.a c.words.length X.c] 43)).mono (by simp))))
  dsimp only [colV]
  by_cases h1 : (c.data.length : Int) % 4 = 0
  · have d1 : ((c.data.length : Int) % 4 == 0) = true := by simp only [h1]; rfl
    have g1 : c.data.length % 4 = 0 := by omega
    by_cases h2 : ((c.data.length : Int) / 4) = c.n
    · have d2 : ((c.data.length : Int) / 4 == c.n) = true := by rw [h2]; simp
      have r := Aside.mk (show ((c.ends.length : Int) == 0) = sizedB 4 c by rw [empty_len]; unfold sizedB; simp [g1]; intro _; omega)
      go_enter Try.func141, Try.ntmps141
      go_wp2
      go_quiet (fail)
      go_wp2
      go_ret
      exact ⟨ret_bool r.out, hb0.out.trans (below_drewN _ _ _)⟩
    · have d2 : ((c.data.length : Int) / 4 == c.n) = false := by simpa using h2
      have r := Aside.mk (show false = sizedB 4 c by unfold sizedB; simp [g1]; omega)
      go_enter Try.func141, Try.ntmps141
      go_wp2
      go_quiet (fail)
      go_wp2
      go_ret
      exact ⟨ret_bool r.out, hb0.out.trans (below_drewN _ _ _)⟩
  · have d1 : ((c.data.length : Int) % 4 == 0) = false := by simpa using h1
    have r := Aside.mk (show false = sizedB 4 c by unfold sizedB; simp; omega)
    go_enter Try.func141, Try.ntmps141
    go_wp2
    go_quiet (fail)
    go_wp2
    go_ret
    exact ⟨ret_bool r.out, hb0.out.trans (below_drewN _ _ _)⟩
theorem sized_8 (c : Col) (B D E X : SL) (hl : c.data.length ≤ 100000000) (w : World) :
    Calls Try.prog 141 #[.agg #[.int .i64 8], colV c B D E X] w (BoolP (sizedB 8 c) w) := by
  have hb0 := Aside.mk (((below_new w (.cells #[.int .i64 8] 128)).trans ((below_new _ (.cells #[.int .i64 c.k, .int .i64 c.s, .int .i64 c.n, .int .i64 c.m, .slice B.a c.bits.length B.c, .slice D.a c.data.length D.c, .slice E.a c.ends.length E.c, .slice X.a c.words.length X.c] 43)).mono (by simp))))
  dsimp only [colV]
  by_cases h1 : (c.data.length : Int) % 8 = 0
  · have d1 : ((c.data.length : Int) % 8 == 0) = true := by simp only [h1]; rfl
    have g1 : c.data.length % 8 = 0 := by omega
    by_cases h2 : ((c.data.length : Int) / 8) = c.n
    · have d2 : ((c.data.length : Int) / 8 == c.n) = true := by rw [h2]; simp
      have r := Aside.mk (show ((c.ends.length : Int) == 0) = sizedB 8 c by rw [empty_len]; unfold sizedB; simp [g1]; intro _; omega)
      go_enter Try.func141, Try.ntmps141
      go_wp2
      go_quiet (fail)
      go_wp2
      go_ret
      exact ⟨ret_bool r.out, hb0.out.trans (below_drewN _ _ _)⟩
    · have d2 : ((c.data.length : Int) / 8 == c.n) = false := by simpa using h2
      have r := Aside.mk (show false = sizedB 8 c by unfold sizedB; simp [g1]; omega)
      go_enter Try.func141, Try.ntmps141
      go_wp2
      go_quiet (fail)
      go_wp2
      go_ret
      exact ⟨ret_bool r.out, hb0.out.trans (below_drewN _ _ _)⟩
  · have d1 : ((c.data.length : Int) % 8 == 0) = false := by simpa using h1
    have r := Aside.mk (show false = sizedB 8 c by unfold sizedB; simp; omega)
    go_enter Try.func141, Try.ntmps141
    go_wp2
    go_quiet (fail)
    go_wp2
    go_ret
    exact ⟨ret_bool r.out, hb0.out.trans (below_drewN _ _ _)⟩
theorem sized_any (W : Nat) (hW : W = 1 ∨ W = 2 ∨ W = 4 ∨ W = 8) (c : Col) (B D E X : SL) (hl : c.data.length ≤ 100000000) (w : World) :
    Calls Try.prog 141 #[.agg #[.int .i64 (W : Int)], colV c B D E X] w (BoolP (sizedB W c) w) := by
  rcases hW with rfl | rfl | rfl | rfl
  · exact sized_1 c B D E X hl w
  · exact sized_2 c B D E X hl w
  · exact sized_4 c B D E X hl w
  · exact sized_8 c B D E X hl w
end Go.Proofs.Ytmhjjhaipcgbiaa
