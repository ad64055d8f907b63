/- Texts of this claim, one behind the other: MofLaw, Add, Plain. -/
import Derived.Test.YtmhjjhaipcgbiaaGreatZemP7
import Derived.Test.YtmhjjhaipcgbiaaGreatZemP6
import Derived.Laws.BitsAllLaws
import Derived.Test.YtmhjjhaipcgbiaaGreatZemP5

namespace Go.Proofs.YtmhjjhaipcgbiaaGreat
open Go.RowKit
set_option linter.unusedVariables false
set_option linter.unusedSimpArgs false
set_option maxRecDepth 100000
set_option maxHeartbeats 1000000
def nullB (bs : List Int) (i : Nat) : Bool := ((bs.getD (i / 8) 0).toNat).testBit (i % 8)
theorem getD_byte {bs : List Int} (h : IsBytes bs) (i : Nat) : 0 ≤ bs.getD i 0 ∧ bs.getD i 0 < 256 := by
  rw [List.getD_eq_getElem?_getD]
  rcases Nat.lt_or_ge i bs.length with hl | hl
  · rw [List.getElem?_eq_getElem hl]; exact h _ (List.getElem_mem _)
  · rw [List.getElem?_eq_none hl]; decide
theorem morb_nat (x : Int) (h0 : 0 ≤ x) (h1 : x < 256) (k : Nat) (hk : k < 8) : morb x k = ((x.toNat ||| 2 ^ k : Nat) : Int) ∧ (x.toNat ||| 2 ^ k) < 256 := by
  have h2 : 2 ^ k < 256 := Nat.pow_lt_pow_right (a := 2) (by decide) (n := 8) hk
  obtain ⟨n, rfl⟩ := Int.eq_ofNat_of_zero_le h0
  have e : ((2 : Int) ^ k % 256) = ((2 ^ k : Nat) : Int) := by
    have : ((2 : Int) ^ k) = ((2 ^ k : Nat) : Int) := by simp
    rw [this]
    generalize 2 ^ k = z at *
    omega
  refine ⟨?_, Nat.or_lt_two_pow (n := 8) (by simp; omega) h2⟩
  unfold morb
  rw [e]
  exact u8_or_nat n (2 ^ k) (by omega) h2
theorem isBytes_append {a b : List Int} (ha : IsBytes a) (hb : IsBytes b) : IsBytes (a ++ b) := fun x hx => (List.mem_append.1 hx).elim (ha x) (hb x)
theorem isBytes_nil : IsBytes [] := fun x hx => by cases hx
theorem isBytes_set {a : List Int} (ha : IsBytes a) (i : Nat) {x : Int} (h0 : 0 ≤ x) (h1 : x < 256) : IsBytes (a.set i x) := fun y hy => by
  rcases List.mem_or_eq_of_mem_set hy with h | rfl
  · exact ha y h
  · exact ⟨h0, h1⟩
theorem mrow_bytes {bs : List Int} (h : IsBytes bs) (n : Nat) : IsBytes (mrow bs n) := by
  unfold mrow
  split
  · exact isBytes_append h (fun x hx => by simp at hx; subst hx; decide)
  · exact h
theorem mrow_bit (bs : List Int) (n i : Nat) : nullB (mrow bs n) i = nullB bs i := by
  unfold mrow
  split
  · unfold nullB
    congr 2
    simp only [List.getD_eq_getElem?_getD]
    rcases Nat.lt_or_ge (i / 8) bs.length with hl | hl
    · rw [List.getElem?_append_left hl]
    · rw [List.getElem?_append_right hl, List.getElem?_eq_none hl]
      rcases Nat.eq_zero_or_pos (i / 8 - bs.length) with e | e
      · rw [e]; rfl
      · rw [List.getElem?_eq_none (by simp; omega)]
  · rfl
theorem mput_law {bs : List Int} {n : Nat} (hb : IsBytes bs) (hl : bs.length = (n + 7) / 8) (bit : Bool) (h0 : nullB bs n = false) :
    IsBytes (mput bs n bit) ∧ ∀ i, nullB (mput bs n bit) i = if i = n then bit else nullB bs i := by
  have hr := mrow_bytes hb n
  have hg := getD_byte hr (n / 8)
  obtain ⟨e, hlt⟩ := morb_nat _ hg.1 hg.2 (n % 8) (Nat.mod_lt _ (by decide))
  unfold mput
  cases bit with
  | false =>
    simp only [Bool.false_eq_true, if_false]
    refine ⟨hr, fun i => ?_⟩
    rw [mrow_bit]
    split
    · rename_i e2; subst e2; exact h0
    · rfl
  | true =>
    simp only [if_true]
    rw [e]
    refine ⟨isBytes_set hr _ (by omega) (by omega), fun i => ?_⟩
    have hlr : n / 8 < (mrow bs n).length := by rw [mrow_len bs n hl]; omega
    rw [← mrow_bit bs n i]
    unfold nullB
    simp only [List.getD_eq_getElem?_getD, List.getElem?_set]
    by_cases e8 : n / 8 = i / 8
    · rw [if_pos e8, if_pos (by omega)]
      simp only [Option.getD_some, Int.toNat_natCast, Nat.testBit_or, Nat.testBit_two_pow]
      by_cases e2 : i = n
      · subst e2; simp
      · rw [if_neg e2]
        have : ¬ (n % 8 = i % 8) := by omega
        simp only [this, decide_false, Bool.or_false]
        rw [e8]
    · rw [if_neg e8, if_neg (by rintro rfl; exact e8 rfl)]
theorem mofR_law : ∀ l : List Bool, IsBytes (mofR l) ∧ ∀ i, nullB (mofR l) i = (l.reverse[i]?).getD false
  | [] => ⟨isBytes_nil, fun i => by simp [mofR, nullB]⟩
  | b :: r => by
    obtain ⟨h1, h2⟩ := mofR_law r
    have h0 : nullB (mofR r) r.length = false := by rw [h2]; rw [List.getElem?_eq_none (by simp)]; rfl
    obtain ⟨h3, h4⟩ := mput_law h1 (mofR_len r) b h0
    refine ⟨h3, fun i => ?_⟩
    rw [mofR, h4, List.reverse_cons]
    split
    · rename_i e; subst e
      rw [List.getElem?_append_right (by simp)]; simp
    · rename_i e
      rw [h2]
      rcases Nat.lt_or_ge i r.length with hl | hl
      · rw [List.getElem?_append_left (by simpa using hl)]
      · rw [List.getElem?_append_right (by simpa using hl), List.getElem?_eq_none (by simpa using hl), List.getElem?_eq_none (by simp; omega)]
theorem mof_bytes (l : List Bool) : IsBytes (mof l) := (mofR_law _).1
theorem mof_bit (l : List Bool) (i : Nat) : nullB (mof l) i = (l[i]?).getD false := by
  have := (mofR_law l.reverse).2 i
  rw [List.reverse_reverse] at this
  exact this
def maskOK (m : Int) (bs : List Int) : Bool :=
  decide (0 ≤ m ∧ m ≤ 8 * (bs.length : Int) ∧ 8 * ((bs.length : Int) - 1) < m ∧ (0 < m % 8 → (bs.getD (bs.length - 1) 0).toNat / 2 ^ (m % 8).toNat = 0))
theorem mof_ok (l : List Bool) : maskOK (l.length : Int) (mof l) = true := by
  unfold maskOK
  rw [decide_eq_true_eq]
  have hl := mof_len l
  refine ⟨by omega, by omega, by omega, fun h => ?_⟩
  have e : ((l.length : Int) % 8).toNat = l.length % 8 := by omega
  rw [e, hl]
  refine Nat.div_eq_of_lt (Nat.lt_pow_two_of_testBit _ fun i hi => ?_)
  rcases Nat.lt_or_ge i 8 with h8 | h8
  · have := mof_bit l (((l.length + 7) / 8 - 1) * 8 + i)
    rw [List.getElem?_eq_none (by omega)] at this
    unfold nullB at this
    rw [show (((l.length + 7) / 8 - 1) * 8 + i) / 8 = (l.length + 7) / 8 - 1 by omega, show (((l.length + 7) / 8 - 1) * 8 + i) % 8 = i by omega] at this
    exact this
  · refine Nat.testBit_lt_two_pow (Nat.lt_of_lt_of_le ?_ (Nat.pow_le_pow_right (by decide) h8))
    have := getD_byte (mof_bytes l) ((l.length + 7) / 8 - 1)
    omega
end Go.Proofs.YtmhjjhaipcgbiaaGreat


namespace Go.Proofs.YtmhjjhaipcgbiaaGreat
open Go.RowKit
set_option linter.unusedVariables false
set_option linter.unusedSimpArgs false
set_option maxRecDepth 100000
set_option maxHeartbeats 1000000
theorem of_fixed (k s : Int) (h1 : (k == 15) = false) (h2 : (k == 16) = false) (w : World) : Calls Tryz.prog 86 #[.agg #[.int .i64 k, .int .i64 s]] w fun e w' => e = .returned (.iface 165 (.agg #[.int .i64 (widthOf k)])) ∧ w' = w.alloc (.cells #[.int .i64 k, .int .i64 s] 23) := by
  go_enter Tryz.func86, Tryz.ntmps86
  go_wp2_with (go_at_call 153; refine (width_any _ _).mono ?_; rintro e w1 ⟨rfl, rfl⟩)
  go_ret
  exact ⟨rfl, rfl⟩
def lows (X n : Nat) : List Int := (List.range n).map fun i => ((X / 256 ^ i % 256 : Nat) : Int)
theorem lows_succ (X n : Nat) : lows X (n + 1) = lows X n ++ [((X / 256 ^ n % 256 : Nat) : Int)] := by simp [lows, List.range_succ]
theorem len_lows (X n : Nat) : (lows X n).length = n := by simp [lows]
def WordP (bl lw base : Nat) (k s : Int) (nulls : List Bool) (data : List Int) (ends : List Int) (nv dv ev : Value) (X n : Nat) (w : World) (e : Ending) (w' : World) : Prop :=
  e = .returned (.tuple #[]) ∧ ∃ dv', IsB w' bl lw base k s nulls (data ++ lows X n) ends nv dv' ev ∧ Kept (fun b => b = bl ∨ dv.ownBlock = some b) w w' ∧ (dv'.ownBlock = dv.ownBlock ∨ ∃ b, dv'.ownBlock = some b ∧ w.heap.size ≤ b)
theorem word_any (bl lw base : Nat) (k s : Int) (nulls : List Bool) (data : List Int) (ends : List Int) (nv dv ev : Value) (X n : Nat) (hn : n ≤ 8) (hX : X < 18446744073709551616) (hl : data.length ≤ 100000000) (w : World) (h : IsB w bl lw base k s nulls data ends nv dv ev) (hb : base ≤ w.heap.size) :
    Calls Tryz.prog 135 #[.pointer (some ⟨bl, 0, none⟩), .int .u64 (X : Int), .int .i64 (n : Int)] w (WordP bl lw base k s nulls data ends nv dv ev X n w) := by
  have H0 := Aside.mk h
  clear h
  go_enter Tryz.func135, Tryz.ntmps135
  go_wp2
  go_loopw [1, 7] (fun xv iv wr => ∃ j : Nat, j ≤ n ∧ xv = .int .u64 ((X / 256 ^ j : Nat) : Int) ∧ iv = .int .i64 (j : Int) ∧ Aside (∃ dv', IsB wr bl lw base k s nulls (data ++ lows X j) ends nv dv' ev ∧ Kept (fun b => b = bl ∨ dv.ownBlock = some b) w wr ∧ (dv'.ownBlock = dv.ownBlock ∨ ∃ b, dv'.ownBlock = some b ∧ w.heap.size ≤ b))) (fun _ iv _ => n - (intOf iv).toNat)
  case atStart => exact ⟨0, by omega, by simp, rfl, ⟨dv, by simpa [lows] using H0.out, Kept.refl _ _, .inl rfl⟩⟩
  case round =>
    obtain ⟨j, hj, rfl, rfl, hp⟩ := hrel
    obtain ⟨dv', hp, hk, ho⟩ := hp.out
    clear H0
    by_cases hlt : j < n
    · have hX3 : X / 256 ^ j < 18446744073709551616 := Nat.lt_of_le_of_lt (Nat.div_le_self _ _) hX
      have hc3 := cell_blk (k := 3) hp.blk
      have hf3 := frozen_blk (k := 3) hp.blk
      simp at hc3
      obtain ⟨a1, c1, rfl⟩ := hp.data.form
      have hlen := len_lows X j
      have hdl : (data ++ lows X j).length ≤ 100000008 := by rw [List.length_append, hlen]; omega
      have hd := hp.data
      generalize hm : (data ++ lows X j).length = m at hd hc3 hdl hp ho
      have HP := Aside.mk hp
      have HD := Aside.mk hd
      have HM := Aside.mk hm
      have HK := Aside.mk hk
      have HO := Aside.mk ho
      clear hp hk ho hd hm hlen
      generalize hq : X / 256 ^ j = q at *
      have HQ := Aside.mk hq
      clear hq
      have hbs := lt_of_blk HP.out.blk
      go_wp2_with (at_builtin; refine wpList_app _ rfl _ _ 43 43 rfl base 5 (.int .u8 0) 1 1 Tryz.underlying43 u8info rfl _ _ _ rfl (HD.out.alloc _) _ 1 [.int .u8 ((q : Int) % 256)] rfl (src_one Tryz.underlying43 _ _ _ rfl rfl) (by unfold maxLen; omega) (by omega) (by have := HK.out.size; simp; omega) ?_)
      intro v' w5 hown' hgrow _ hat
      have e1 : data.map (Value.int .u8) ++ ((lows X j).map (Value.int .u8) ++ [.int .u8 ((q : Int) % 256)]) = (data ++ lows X (j + 1)).map (.int .u8) := by
        rw [lows_succ, HQ.out]; simp
      have e2 : m + 1 = (data ++ lows X (j + 1)).length := by rw [lows_succ, ← HM.out]; simp; omega
      rw [e1] at hown'
      obtain ⟨a5, c5, rfl⟩ := hown'.form
      have hown2 : Own w5 base 5 1 (.slice a5 (m + 1) c5) (data ++ lows X (j + 1)).length ((data ++ lows X (j + 1)).map (.int .u8)) := by rw [← e2]; exact hown'
      have hh := HP.out.app_data (.cells #[.int .u8 ((q : Int) % 256)] 5) hgrow hown2
      have hb5 := (hgrow.block bl (by simp; omega) (fun e => HP.out.data.blk_ne HP.out.blk (by decide) e.symm)).trans ((Below.heap_alloc _ _ _ hbs).trans HP.out.blk)
      have hc5 := cell_blk (k := 3) hb5
      have hf5 := frozen_blk (k := 3) hb5
      simp at hc5
      have HH := Aside.mk hh
      have HAT := Aside.mk hat
      clear hh hown2 e1 e2 hown' hgrow hat hb5
      go_wp2
      go_roundw
      case rel =>
        refine ⟨j + 1, by omega, ?_, by go_num, ⟨_, HH.out.1, (HK.out.trans HH.out.2 ?_), ?_⟩⟩
        · rw [Nat.pow_succ, ← Nat.div_div_eq_div_mul, HQ.out]; go_num
        · intro b hb1 hb2
          rcases hb1 with rfl | hb1
          · exact .inl rfl
          · rcases HO.out with h | ⟨b2, h, h2⟩
            · exact .inr (h ▸ hb1)
            · rw [h] at hb1; cases hb1; omega
        · rcases HAT.out with h | ⟨b2, h, h2⟩
          · rw [h]; exact HO.out
          · exact .inr ⟨b2, h, by have := HK.out.size; omega⟩
      case measure => simp [intOf]; omega
    · obtain rfl : j = n := by omega
      have HP := Aside.mk (And.intro hp (And.intro hk ho))
      clear hp hk ho
      go_wp2
      refine bodyPost_ret (v := .tuple #[]) (by simp [results, Tryz.results135, go_sem]) rfl ?_
      exact ⟨rfl, _, HP.out.1, HP.out.2.1, HP.out.2.2⟩
end Go.Proofs.YtmhjjhaipcgbiaaGreat


namespace Go.Proofs.YtmhjjhaipcgbiaaGreat
open Go.RowKit
set_option linter.unusedVariables false
set_option linter.unusedSimpArgs false
set_option maxRecDepth 100000
set_option maxHeartbeats 1000000
structure V where
  null : Bool
  bits : Nat
  text : List Int
structure CS where
  nulls : List Bool
  data : List Int
  ends : List Int
  words : List (List Int)
def CS.zero : CS := ⟨[], [], [], []⟩
def CS.add (k : Int) (c : CS) (v : V) : CS :=
  if k = 15 then ⟨c.nulls ++ [v.null], c.data ++ v.text, c.ends ++ [((c.data ++ v.text).length : Int)], c.words⟩
  else if k = 16 then ⟨c.nulls ++ [v.null], c.data ++ lows (if v.null then 0 else codeOf c.words v.text) 4, c.ends, if v.null then c.words else addWord c.words v.text⟩
  else ⟨c.nulls ++ [v.null], c.data ++ lows v.bits (widthOf k).toNat, c.ends, c.words⟩
def CS.of (k : Int) (l : List V) : CS := l.foldl (CS.add k) CS.zero
theorem CS.of_snoc (k : Int) (l : List V) (v : V) : CS.of k (l ++ [v]) = (CS.of k l).add k v := by simp [CS.of, List.foldl_append]
structure Col where
  k : Int
  s : Int
  n : Int
  m : Int
  bits : List Int
  data : List Int
  ends : List Int
  words : List (List Int)
def CS.col (c : CS) (k s : Int) : Col := ⟨k, s, c.nulls.length, c.nulls.length, mof c.nulls, c.data, c.ends, c.words⟩
def wordAt (data : List Int) (o : Nat) : Nat → Nat
  | 0 => 0
  | n + 1 => wordAt data o n + (data.getD (o + n) 0).toNat * 256 ^ n
theorem wordAt_lows (data : List Int) (o X : Nat) : ∀ n, (∀ j, j < n → data.getD (o + j) 0 = ((X / 256 ^ j % 256 : Nat) : Int)) → wordAt data o n = X % 256 ^ n
  | 0, _ => by simp [wordAt, Nat.mod_one]
  | n + 1, h => by
    rw [wordAt, wordAt_lows data o X n (fun j hj => h j (by omega)), h n (by omega), Int.toNat_natCast, Nat.mod_pow_succ, Nat.mul_comm]
theorem wordAt_lt {data : List Int} (h : IsBytes data) (o : Nat) : ∀ n, wordAt data o n < 256 ^ n
  | 0 => by simp [wordAt]
  | n + 1 => by
    have h1 := wordAt_lt h o n
    have h2 := getD_byte h (o + n)
    have h3 : (data.getD (o + n) 0).toNat * 256 ^ n ≤ 255 * 256 ^ n := Nat.mul_le_mul_right _ (by omega)
    rw [wordAt, Nat.pow_succ]
    omega
def sizedB (W : Nat) (c : Col) : Bool := c.data.length % W == 0 && (((c.data.length / W : Nat) : Int) == c.n) && c.ends.isEmpty
def aheadI (ends : List Int) (i : Nat) : Int := if i = 0 then 0 else ends.getD (i - 1) 0
def mayFixed (k s : Int) (W : Nat) (c : Col) : Bool := sizedB W c && c.words.isEmpty && (List.range c.n.toNat).all fun i => if nullB c.bits i then wordAt c.data (i * W) W == 0 else fitsB k s (wordAt c.data (i * W) W)
def mayRunning (c : Col) : Bool := ((c.ends.length : Int) == c.n) && c.words.isEmpty && ((List.range c.ends.length).all fun i => !(decide (c.ends.getD i 0 < aheadI c.ends i) || decide ((c.data.length : Int) < c.ends.getD i 0) || (nullB c.bits i && c.ends.getD i 0 != aheadI c.ends i))) && (aheadI c.ends c.ends.length == (c.data.length : Int))
def codedStep (c : Col) (i next : Nat) : Option Nat :=
  let code := wordAt c.data (i * 4) 4
  if (nullB c.bits i && code != 0) || decide (next < code) then none else if !nullB c.bits i && code == next then some (next + 1) else some next
def codedRun (c : Col) : Nat → Option Nat
  | 0 => some 0
  | i + 1 => (codedRun c i).bind (codedStep c i)
def mayCoded (c : Col) : Bool := sizedB 4 c && decide c.words.Nodup && (codedRun c c.n.toNat == some c.words.length)
def mayB (c : Col) : Bool := if c.k = 15 then mayRunning c else if c.k = 16 then mayCoded c else mayFixed c.k c.s (widthOf c.k).toNat c
def checkC (c : Col) : Int := if okType c.k c.s = false then 170 else if maskOK c.m c.bits && c.m == c.n && mayB c then 0 else 171
def vOK (k s : Int) (v : V) : Prop := IsBytes v.text ∧ v.bits < 18446744073709551616 ∧ (v.null = true → v.bits = 0 ∧ v.text = []) ∧ (v.null = false → if wordedB k then v.bits = 0 else fitsB k s v.bits = true ∧ v.text = [])
theorem flatMap_get {α β : Type} (f : α → List β) (W : Nat) (hW : ∀ x, (f x).length = W) : ∀ (l : List α) (i j : Nat) (h : i < l.length), j < W → (l.flatMap f)[i * W + j]? = (f l[i])[j]?
  | [], i, j, h, _ => by simp at h
  | x :: l, 0, j, h, hj => by
    rw [List.flatMap_cons, Nat.zero_mul, Nat.zero_add, List.getElem?_append_left (by rw [hW]; exact hj)]
    rfl
  | x :: l, i + 1, j, h, hj => by
    rw [List.flatMap_cons, List.getElem?_append_right (by rw [hW, Nat.add_mul]; omega), hW, show (i + 1) * W + j - W = i * W + j by rw [Nat.add_mul]; omega]
    exact flatMap_get f W hW l i j (by simpa using h) hj
theorem flatMap_len {α β : Type} (f : α → List β) (W : Nat) (hW : ∀ x, (f x).length = W) : ∀ l : List α, (l.flatMap f).length = l.length * W
  | [] => by simp
  | x :: l => by rw [List.flatMap_cons, List.length_append, hW, flatMap_len f W hW l, List.length_cons, Nat.add_mul]; omega
theorem lows_len (X n : Nat) : (lows X n).length = n := by simp [lows]
theorem lows_get (X n j : Nat) (h : j < n) : (lows X n)[j]? = some ((X / 256 ^ j % 256 : Nat) : Int) := by simp [lows, h]
theorem lows_bytes (X n : Nat) : IsBytes (lows X n) := fun x hx => by
  simp only [lows, List.mem_map] at hx
  obtain ⟨i, _, rfl⟩ := hx
  omega
theorem wordAt_flat (l : List Nat) (W i : Nat) (h : i < l.length) : wordAt (l.flatMap fun x => lows x W) (i * W) W = l[i] % 256 ^ W := by
  refine wordAt_lows _ _ _ W fun j hj => ?_
  rw [List.getD_eq_getElem?_getD, flatMap_get _ W (fun x => lows_len x W) l i j h hj, lows_get _ _ _ hj]
  rfl
theorem nulls_of (k : Int) (l : List V) : (CS.of k l).nulls = l.map (·.null) := by
  have : ∀ (l : List V) (c : CS), (l.foldl (CS.add k) c).nulls = c.nulls ++ l.map (·.null) := by
    intro l
    induction l with
    | nil => intro c; simp
    | cons v r ih =>
      intro c
      rw [List.foldl_cons, ih, List.map_cons]
      unfold CS.add
      split
      · simp
      split <;> simp
  simpa [CS.zero, CS.of] using this l CS.zero
theorem fixed_of {k : Int} (h1 : k ≠ 15) (h2 : k ≠ 16) (l : List V) : CS.of k l = ⟨l.map (·.null), (l.map (·.bits)).flatMap fun x => lows x (widthOf k).toNat, [], []⟩ := by
  have : ∀ (l : List V) (c : CS), l.foldl (CS.add k) c = ⟨c.nulls ++ l.map (·.null), c.data ++ (l.map (·.bits)).flatMap (fun x => lows x (widthOf k).toNat), c.ends, c.words⟩ := by
    intro l
    induction l with
    | nil => intro c; simp
    | cons v r ih =>
      intro c
      rw [List.foldl_cons, ih]
      simp [CS.add, h1, h2]
  simpa [CS.zero, CS.of] using this l CS.zero
theorem running_data (l : List V) : (CS.of 15 l).data = l.flatMap (·.text) ∧ (CS.of 15 l).words = [] := by
  have : ∀ (l : List V) (c : CS), (l.foldl (CS.add 15) c).data = c.data ++ l.flatMap (·.text) ∧ (l.foldl (CS.add 15) c).words = c.words := by
    intro l
    induction l with
    | nil => intro c; simp
    | cons v r ih =>
      intro c
      rw [List.foldl_cons, (ih _).1, (ih _).2]
      simp [CS.add]
  simpa [CS.zero, CS.of] using this l CS.zero
theorem snoc_ind {α : Type} {p : List α → Prop} (h0 : p []) (h1 : ∀ l v, p l → p (l ++ [v])) (l : List α) : p l := by
  have : ∀ r : List α, p r.reverse := by
    intro r
    induction r with
    | nil => exact h0
    | cons x r ih => rw [List.reverse_cons]; exact h1 _ _ ih
  have h := this l.reverse
  rwa [List.reverse_reverse] at h
theorem running_ends (l : List V) : (CS.of 15 l).ends.length = l.length ∧ ∀ i, i < l.length → (CS.of 15 l).ends.getD i 0 = (((l.take (i + 1)).flatMap (·.text)).length : Int) := by
  induction l using snoc_ind with
  | h0 => exact ⟨rfl, fun i h => by simp at h⟩
  | h1 l v ih =>
    have e : (CS.of 15 (l ++ [v])).ends = (CS.of 15 l).ends ++ [(((l ++ [v]).flatMap (·.text)).length : Int)] := by
      rw [CS.of_snoc]
      simp [CS.add, (running_data l).1]
    rw [e]
    refine ⟨by simp [ih.1], fun i h => ?_⟩
    rw [List.getD_eq_getElem?_getD]
    simp at h
    rcases Nat.lt_or_ge i l.length with hl | hl
    · rw [List.getElem?_append_left (by rw [ih.1]; exact hl), ← List.getD_eq_getElem?_getD, ih.2 i hl, List.take_append_of_le_length (by omega)]
    · rw [List.getElem?_append_right (by rw [ih.1]; exact hl), ih.1, show i - l.length = 0 by omega, List.take_of_length_le (by simp; omega)]
      rfl
theorem running_ahead (l : List V) (i : Nat) (h : i ≤ l.length) : aheadI (CS.of 15 l).ends i = (((l.take i).flatMap (·.text)).length : Int) := by
  unfold aheadI
  cases i with
  | zero => simp
  | succ i => rw [if_neg (by omega), show i + 1 - 1 = i from rfl, (running_ends l).2 i (by omega)]
theorem running_piece (l : List V) (i : Nat) (h : i < l.length) : ((l.flatMap (·.text)).drop ((l.take i).flatMap (·.text)).length).take (((l.take (i + 1)).flatMap (·.text)).length - ((l.take i).flatMap (·.text)).length) = l[i].text ∧
    ((l.take (i + 1)).flatMap (·.text)).length = ((l.take i).flatMap (·.text)).length + l[i].text.length ∧ ((l.take (i + 1)).flatMap (·.text)).length ≤ (l.flatMap (·.text)).length := by
  have e : (l.take (i + 1)).flatMap (·.text) = (l.take i).flatMap (·.text) ++ l[i].text := by
    rw [List.take_succ_eq_append_getElem h, List.flatMap_append]; simp
  have e2 : l.flatMap (·.text) = (l.take i).flatMap (·.text) ++ l[i].text ++ (l.drop (i + 1)).flatMap (·.text) := by
    rw [← e, ← List.flatMap_append, List.take_append_drop]
  refine ⟨?_, by rw [e, List.length_append], by rw [e2, e]; simp only [List.length_append]; omega⟩
  rw [e, List.length_append, e2, List.append_assoc, List.drop_left, Nat.add_sub_cancel_left, List.take_left]
def codesOf (ws : List (List Int)) : List V → List Nat
  | [] => []
  | v :: r => (if v.null then 0 else codeOf ws v.text) :: codesOf (if v.null then ws else addWord ws v.text) r
def wordsOf (ws : List (List Int)) : List V → List (List Int)
  | [] => ws
  | v :: r => wordsOf (if v.null then ws else addWord ws v.text) r
theorem coded_of (l : List V) : CS.of 16 l = ⟨l.map (·.null), (codesOf [] l).flatMap fun x => lows x 4, [], wordsOf [] l⟩ := by
  have : ∀ (l : List V) (c : CS), l.foldl (CS.add 16) c = ⟨c.nulls ++ l.map (·.null), c.data ++ (codesOf c.words l).flatMap (fun x => lows x 4), c.ends, wordsOf c.words l⟩ := by
    intro l
    induction l with
    | nil => intro c; simp [codesOf, wordsOf]
    | cons v r ih =>
      intro c
      rw [List.foldl_cons, ih]
      simp [CS.add, codesOf, wordsOf]
  simpa [CS.zero, CS.of] using this l CS.zero
theorem codes_len (l : List V) : ∀ ws, (codesOf ws l).length = l.length := by
  induction l with
  | nil => intro ws; rfl
  | cons v r ih => intro ws; simp [codesOf, ih]
theorem codes_get (l : List V) : ∀ (ws : List (List Int)) (i : Nat) (h : i < l.length), (codesOf ws l)[i]? = some (if l[i].null then 0 else codeOf (wordsOf ws (l.take i)) l[i].text) := by
  induction l with
  | nil => intro ws i h; simp at h
  | cons v r ih =>
    intro ws i h
    cases i with
    | zero => simp [codesOf, wordsOf]
    | succ i =>
      rw [codesOf, List.getElem?_cons_succ, ih _ i (by simpa using h)]
      simp [wordsOf]
theorem words_step (l : List V) : ∀ (ws : List (List Int)) (i : Nat) (h : i < l.length), wordsOf ws (l.take (i + 1)) = if l[i].null then wordsOf ws (l.take i) else addWord (wordsOf ws (l.take i)) l[i].text := by
  induction l with
  | nil => intro ws i h; simp at h
  | cons v r ih =>
    intro ws i h
    cases i with
    | zero => simp [wordsOf]
    | succ i =>
      rw [List.take_succ_cons, wordsOf, ih _ i (by simpa using h), List.take_succ_cons, wordsOf]
      simp
theorem addWord_pre (ws : List (List Int)) (t : List Int) : ws <+: addWord ws t := by
  unfold addWord
  split
  · exact List.prefix_refl _
  · exact List.prefix_append _ _
theorem words_pre (l : List V) : ∀ ws, ws <+: wordsOf ws l := by
  induction l with
  | nil => intro ws; exact List.prefix_refl _
  | cons v r ih =>
    intro ws
    rw [wordsOf]
    refine List.IsPrefix.trans ?_ (ih _)
    split
    · exact List.prefix_refl _
    · exact addWord_pre _ _
theorem words_app (l r : List V) : ∀ ws, wordsOf ws (l ++ r) = wordsOf (wordsOf ws l) r := by
  induction l with
  | nil => intro ws; rfl
  | cons v l ih => intro ws; rw [List.cons_append, wordsOf, wordsOf, ih]
theorem words_nodup (l : List V) : ∀ ws, ws.Nodup → (wordsOf ws l).Nodup := by
  induction l with
  | nil => intro ws h; exact h
  | cons v r ih =>
    intro ws h
    rw [wordsOf]
    refine ih _ ?_
    split
    · exact h
    · exact addWord_nodup h _
theorem words_len (l : List V) : ∀ ws, (wordsOf ws l).length ≤ ws.length + l.length := by
  induction l with
  | nil => intro ws; simp [wordsOf]
  | cons v r ih =>
    intro ws
    rw [wordsOf, List.length_cons]
    refine Nat.le_trans (ih _) ?_
    split
    · omega
    · have := addWord_len ws v.text; omega
theorem word_at_code (l : List V) (i : Nat) (h : i < l.length) (hn : l[i].null = false) : (wordsOf [] l)[codeOf (wordsOf [] (l.take i)) l[i].text]? = some l[i].text := by
  have e := words_step l [] i h
  rw [hn] at e
  simp only [Bool.false_eq_true, if_false] at e
  have p : wordsOf [] (l.take (i + 1)) <+: wordsOf [] l := by
    have := words_pre (l.drop (i + 1)) (wordsOf [] (l.take (i + 1)))
    rwa [← words_app, List.take_append_drop] at this
  rw [e] at p
  obtain ⟨r, hr⟩ := p
  have : (addWord (wordsOf [] (l.take i)) l[i].text)[codeOf (wordsOf [] (l.take i)) l[i].text]? = some l[i].text := by
    cases hc : (wordsOf [] (l.take i)).contains l[i].text with
    | true => rw [addWord_old hc]; exact codeOf_get hc
    | false => rw [addWord_new hc, codeOf_new hc]; simp
  rw [← hr, List.getElem?_append_left (List.getElem?_eq_some_iff.1 this).1]
  exact this
end Go.Proofs.YtmhjjhaipcgbiaaGreat
