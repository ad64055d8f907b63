/- Texts of this claim, one behind the other: BuiltC, J0, Read0. -/
import Derived.Test.YtmhjjhaipcgbiaaGreatZooP23
import Derived.Test.YtmhjjhaipcgbiaaGreatZooP32
import Derived.Test.YtmhjjhaipcgbiaaGreatZooP30

namespace Go.Proofs.YtmhjjhaipcgbiaaGreat
open Go.RowKit
set_option linter.unusedVariables false
set_option linter.unusedSimpArgs false
set_option maxRecDepth 100000
set_option maxHeartbeats 1000000
theorem of_bytes (k : Int) (l : List V) (hl : ∀ v ∈ l, IsBytes v.text) : IsBytes (CS.of k l).data ∧ ∀ t ∈ (CS.of k l).words, IsBytes t := by
  induction l using snoc_ind with
  | h0 => exact ⟨isBytes_nil, fun t h => by cases h⟩
  | h1 l v ih =>
    obtain ⟨h1, h2⟩ := ih (fun v hv => hl v (List.mem_append_left _ hv))
    have hv := hl v (by simp)
    rw [CS.of_snoc]
    unfold CS.add
    split
    · exact ⟨isBytes_append h1 hv, h2⟩
    split
    · refine ⟨isBytes_append h1 (lows_bytes _ _), ?_⟩
      dsimp only
      split
      · exact h2
      · exact addWord_bytes h2 hv
    · exact ⟨isBytes_append h1 (lows_bytes _ _), h2⟩
theorem of_ends (k : Int) (l : List V) (hl : ∀ v ∈ l, v.text.length ≤ 4900) : ∀ x ∈ (CS.of k l).ends, 0 ≤ x ∧ x ≤ (l.length : Int) * 4900 := by
  induction l using snoc_ind with
  | h0 => intro x h; cases h
  | h1 l v ih =>
    have ih := ih (fun v hv => hl v (List.mem_append_left _ hv))
    have hv := hl v (by simp)
    have hd := (of_sizes k l (fun v hv => hl v (List.mem_append_left _ hv))).1
    have ih2 : ∀ x ∈ (CS.of k l).ends, 0 ≤ x ∧ x ≤ ((l ++ [v]).length : Int) * 4900 := fun x hx => by
      have := ih x hx
      simp; omega
    rw [CS.of_snoc]
    unfold CS.add
    split
    · intro x hx
      rcases List.mem_append.1 hx with h | h
      · exact ih2 x h
      · simp at h; subst h; simp; omega
    split <;> exact ih2
theorem built_cokB {k s : Int} (ho : okType k s = true) {l : List V} (hf : Few l) (hl : ∀ v ∈ l, IsBytes v.text) : COK ((CS.of k l).col k s) := by
  obtain ⟨h1, h2, h3, h4⟩ := of_sizes k l hf.2
  obtain ⟨h5, h6⟩ := of_bytes k l hl
  have h7 := of_ends k l hf.2
  have h8 := of_words k l hf.2
  have h9 := hf.1
  have hm := mof_len (CS.of k l).nulls
  unfold okType at ho
  simp only [decide_eq_true_eq] at ho
  refine ⟨mof_bytes _, h5, fun x hx => ?_, fun t ht => ⟨h6 t ht, Nat.le_trans (h8 t ht) (by decide)⟩, ?_, ?_, ?_, ?_, ?_, ?_, ?_, ?_⟩
  · have := h7 x hx; unfold IsI64; omega
  · show (mof (CS.of k l).nulls).length ≤ _; omega
  · show (CS.of k l).data.length ≤ _; omega
  · show (CS.of k l).ends.length ≤ _; omega
  · show (CS.of k l).words.length ≤ _; omega
  · show IsI64 k; unfold IsI64; omega
  · show IsI64 s; unfold IsI64; omega
  · show IsI64 ((CS.of k l).nulls.length : Int); unfold IsI64; omega
  · show IsI64 ((CS.of k l).nulls.length : Int); unfold IsI64; omega
theorem built_cok {k s : Int} (ho : okType k s = true) {l : List V} (hf : Few l) (hl : ∀ v ∈ l, vOK k s v) : COK ((CS.of k l).col k s) := built_cokB ho hf (fun v hv => (hl v hv).1)
structure BF (k s : Int) (l : List V) (c : Col) : Prop where
  cok : COK c
  chk : checkC c = 0
  k : c.k = k
  s : c.s = s
  n : c.n = (l.length : Int)
  bits : c.bits = mof (l.map (·.null))
  val : ∀ (i : Nat) (h : i < l.length), l[i].null = false → valueC c i = (l[i].bits, l[i].text)
  nul : ∀ (i : Nat) (h : i < l.length), nullB c.bits i = l[i].null
theorem built_facts {k s : Int} (ho : okType k s = true) {l : List V} (hf : Few l) (hl : ∀ v ∈ l, vOK k s v) : BF k s l ((CS.of k l).col k s) := by
  have h9 := hf.1
  refine ⟨built_cok ho hf hl, built_ok ho l hl (by omega), rfl, rfl, ?_, ?_, fun i h hn => built_value ho l hl (by omega) i h hn, fun i h => built_null k s l i h⟩
  · show ((CS.of k l).nulls.length : Int) = _; rw [nulls_of]; simp
  · show mof (CS.of k l).nulls = _; rw [nulls_of]
end Go.Proofs.YtmhjjhaipcgbiaaGreat


namespace Go.Proofs.YtmhjjhaipcgbiaaGreat
open Go.RowKit
set_option linter.unusedVariables false
set_option linter.unusedSimpArgs false
set_option maxRecDepth 100000
set_option maxHeartbeats 1000000
abbrev colOf (k s : Int) (l : List V) : Col := (CS.of k l).col k s
structure HasC (w : World) (base blk : Nat) (c : Col) (B D E X : SL) (vals : List Value) : Prop where
  box : w.heap[blk]? = some (.cells #[.int .i64 c.k, .int .i64 c.s, .int .i64 c.n, .int .i64 c.m, .slice B.a c.bits.length B.c, .slice D.a c.data.length D.c, .slice E.a c.ends.length E.c, .slice X.a c.words.length X.c] 63 (0, 0))
  own : OwnC w base c B D E X vals
theorem HasC.kept {w w' : World} {base blk : Nat} {c : Col} {B D E X : SL} {vals : List Value} {S : Nat → Prop} (h : HasC w base blk c B D E X vals) (hk : Kept S w w') (h1 : ¬ S blk) (h2 : ∀ b, base ≤ b → b < w.heap.size → ¬ S b) : HasC w' base blk c B D E X vals :=
  ⟨(hk.block _ (lt_of_blk h.box) h1).trans h.box, h.own.keptL hk h2⟩
theorem HasC.below {w w' : World} {base blk : Nat} {c : Col} {B D E X : SL} {vals : List Value} (h : HasC w base blk c B D E X vals) (hb : Below w.heap.size w w') : HasC w' base blk c B D E X vals :=
  ⟨(hb.block _ (lt_of_blk h.box)).trans h.box, h.own.below hb⟩
structure B5 (w5 W : World) (bl : Nat) (k s : Int) (l : List V) : Prop where
  bs : BS W (fun b => w5.heap.size ≤ b) bl k s (CS.of k l)
  bel : Below w5.heap.size w5 W
theorem B5.below {w5 W W' : World} {bl : Nat} {k s : Int} {l : List V} (h : B5 w5 W bl k s l) (hb : Below W.heap.size W W') : B5 w5 W' bl k s l := ⟨h.bs.below hb, below_chain h.bel hb⟩
theorem B5.step {w5 W W' : World} {bl : Nat} {k s : Int} {l l' : List V} {r : Value} {e : Ending} (h : B5 w5 W bl k s l) (hs : StepP (fun b => w5.heap.size ≤ b) bl k s (CS.of k l') r W e W') : e = .returned r ∧ B5 w5 W' bl k s l' := by
  obtain ⟨rfl, hb, hk⟩ := hs
  exact ⟨rfl, hb.mono (fun b hb _ => hb.elim id (fun h' => Nat.le_trans h.bel.size h')), h.bel.trans (hk.to_below h.bel.size (fun _ h => h))⟩
end Go.Proofs.YtmhjjhaipcgbiaaGreat


namespace Go.Proofs.YtmhjjhaipcgbiaaGreat
open Go.RowKit
set_option linter.unusedVariables false
set_option linter.unusedSimpArgs false
set_option maxRecDepth 100000
set_option maxHeartbeats 1000000
def rdStep (c : Col) (i p : Nat) : Option (V × Nat) :=
  if c.k = 15 then
    if i < c.ends.length ∧ (p : Int) ≤ c.ends.getD i 0 ∧ c.ends.getD i 0 ≤ (c.data.length : Int) then some (⟨nullB c.bits i, 0, (c.data.drop p).take ((c.ends.getD i 0).toNat - p)⟩, (c.ends.getD i 0).toNat) else none
  else if p + (widthOf c.k).toNat ≤ c.data.length then
    if nullB c.bits i = true then some (⟨true, wordAt c.data p (widthOf c.k).toNat, []⟩, p + (widthOf c.k).toNat)
    else if c.k = 16 then (if wordAt c.data p (widthOf c.k).toNat < c.words.length then some (⟨false, 0, c.words.getD (wordAt c.data p (widthOf c.k).toNat) []⟩, p + (widthOf c.k).toNat) else none)
    else if fitsB c.k c.s (wordAt c.data p (widthOf c.k).toNat) = true then some (⟨false, wordAt c.data p (widthOf c.k).toNat, []⟩, p + (widthOf c.k).toNat) else none
  else none
def rdRun (c : Col) : Nat → Option (List V × Nat)
  | 0 => some ([], 0)
  | i + 1 => (rdRun c i).bind fun x => (rdStep c i x.2).map fun y => (x.1 ++ [y.1], y.2)
def readRows (c : Col) : Option (List V) := (rdRun c c.n.toNat).bind fun x => if equalC (colOf c.k c.s (x.1.map nrm)) c = true then some x.1 else none
def readC (c : Col) : Option (List V) := if okType c.k c.s = true ∧ maskOK c.m c.bits = true ∧ c.m = c.n then readRows c else none
def readE (c : Col) : Int := if okType c.k c.s = false then 170 else if (readC c).isSome then 0 else 171
theorem rdRun_len {c : Col} : ∀ {i : Nat} {l : List V} {p : Nat}, rdRun c i = some (l, p) → l.length = i
  | 0, l, p, h => by simp [rdRun] at h; simp [← h.1]
  | i + 1, l, p, h => by
    rw [rdRun] at h
    obtain ⟨x, h1, h2⟩ := Option.bind_eq_some_iff.1 h
    obtain ⟨y, h3, h4⟩ := Option.map_eq_some_iff.1 h2
    cases h4
    simp [rdRun_len (l := x.1) (p := x.2) (by simpa using h1)]
def placeOf (k : Int) (l : List V) (i : Nat) : Nat := if k = 15 then ((l.take i).flatMap (·.text)).length else i * (widthOf k).toNat
theorem step_built {k s : Int} (ho : okType k s = true) (l : List V) (hl : ∀ v ∈ l, vOK k s v) (hm : l.length ≤ 100000000) (i : Nat) (h : i < l.length) : rdStep (colOf k s l) i (placeOf k l i) = some (l[i], placeOf k l (i + 1)) := by
  have hv := hl l[i] (List.getElem_mem _)
  have hnl := built_null k s l i h
  by_cases h15 : k = 15
  · subst h15
    have hb : l[i].bits = 0 := by
      cases hn : l[i].null with
      | true => exact (hv.2.2.1 hn).1
      | false => exact hv.2.2.2 hn
    obtain ⟨h1, h2, h3⟩ := running_piece l i h
    obtain ⟨e1, e2⟩ := running_ends l
    unfold rdStep placeOf
    rw [if_pos (show (colOf 15 s l).k = 15 from rfl), if_pos rfl, if_pos rfl, hnl]
    show (if i < (CS.of 15 l).ends.length ∧ (((l.take i).flatMap (·.text)).length : Int) ≤ (CS.of 15 l).ends.getD i 0 ∧ (CS.of 15 l).ends.getD i 0 ≤ ((CS.of 15 l).data.length : Int) then some ((⟨l[i].null, 0, ((CS.of 15 l).data.drop ((l.take i).flatMap (·.text)).length).take (((CS.of 15 l).ends.getD i 0).toNat - ((l.take i).flatMap (·.text)).length)⟩ : V), ((CS.of 15 l).ends.getD i 0).toNat) else none) = _
    rw [e1, e2 i h, (running_data l).1, Int.toNat_natCast, h1, if_pos ⟨h, by omega, by omega⟩]
    have : (⟨l[i].null, 0, l[i].text⟩ : V) = l[i] := by rw [← hb]
    rw [this]
  · obtain ⟨W, hW, hW1, hW8⟩ := width_pos ho h15
    have hWn : (widthOf k).toNat = W := by rw [hW]; rfl
    unfold rdStep placeOf
    rw [if_neg (show ¬ (colOf k s l).k = 15 from h15), if_neg h15, if_neg h15, hnl]
    show (if i * (widthOf k).toNat + (widthOf k).toNat ≤ (CS.of k l).data.length then if l[i].null = true then some ((⟨true, wordAt (CS.of k l).data (i * (widthOf k).toNat) (widthOf k).toNat, []⟩ : V), i * (widthOf k).toNat + (widthOf k).toNat)
      else if k = 16 then (if wordAt (CS.of k l).data (i * (widthOf k).toNat) (widthOf k).toNat < (CS.of k l).words.length then some (⟨false, 0, (CS.of k l).words.getD (wordAt (CS.of k l).data (i * (widthOf k).toNat) (widthOf k).toNat) []⟩, i * (widthOf k).toNat + (widthOf k).toNat) else none)
      else if fitsB k s (wordAt (CS.of k l).data (i * (widthOf k).toNat) (widthOf k).toNat) = true then some (⟨false, wordAt (CS.of k l).data (i * (widthOf k).toNat) (widthOf k).toNat, []⟩, i * (widthOf k).toNat + (widthOf k).toNat) else none
      else none) = _
    rw [hWn]
    have hplace : i * W + W = (i + 1) * W := by rw [Nat.add_mul]; omega
    have hle : (i + 1) * W ≤ l.length * W := Nat.mul_le_mul_right _ h
    by_cases h16 : k = 16
    · subst h16
      have hw4 : W = 4 := by simp [widthOf] at hW; omega
      subst hw4
      obtain ⟨d1, d2, d3⟩ := coded_len l
      have hwd := coded_word s l hm i h
      replace hwd : wordAt (CS.of 16 l).data (i * 4) 4 = _ := hwd
      rw [d1, if_pos (by omega), hwd, hplace]
      cases hn : l[i].null with
      | true =>
        obtain ⟨q1, q2⟩ := hv.2.2.1 hn
        have : (⟨true, 0, []⟩ : V) = l[i] := by rw [← q2, ← hn, ← q1]
        simp only [if_true]
        rw [this]
      | false =>
        have hb : l[i].bits = 0 := hv.2.2.2 hn
        have hc := word_at_code l i h hn
        have hlt := (List.getElem?_eq_some_iff.1 hc).1
        simp only [Bool.false_eq_true, if_false, if_true]
        rw [d3, if_pos hlt, List.getD_eq_getElem?_getD, hc]
        have : (⟨false, 0, l[i].text⟩ : V) = l[i] := by rw [← hn, ← hb]
        simp only [Option.getD_some]
        rw [this]
    · obtain ⟨d1, d2, d3⟩ := fixed_len h15 h16 hW l
      have hwd := fixed_word h15 h16 hW l hl i h
      replace hwd : wordAt (CS.of k l).data (i * W) W = _ := hwd
      rw [d1, if_pos (by omega), hwd, hplace]
      cases hn : l[i].null with
      | true =>
        obtain ⟨q1, q2⟩ := hv.2.2.1 hn
        have : (⟨true, l[i].bits, []⟩ : V) = l[i] := by rw [← q2, ← hn]
        simp only [if_true]
        rw [this]
      | false =>
        have hw : wordedB k = false := by simp [wordedB, h15, h16]
        have hq := hv.2.2.2 hn
        rw [hw] at hq
        simp only [Bool.false_eq_true, if_false] at hq
        have : (⟨false, l[i].bits, []⟩ : V) = l[i] := by rw [← hq.2, ← hn]
        simp only [Bool.false_eq_true, if_false]
        rw [if_neg h16, if_pos hq.1, this]
theorem run_built {k s : Int} (ho : okType k s = true) (l : List V) (hl : ∀ v ∈ l, vOK k s v) (hm : l.length ≤ 100000000) : ∀ i, i ≤ l.length → rdRun (colOf k s l) i = some (l.take i, placeOf k l i)
  | 0, _ => by simp [rdRun, placeOf]
  | i + 1, h => by
    rw [rdRun, run_built ho l hl hm i (by omega), Option.bind_some, step_built ho l hl hm i (by omega), Option.map_some, List.take_succ_eq_append_getElem (by omega)]
theorem read_built {k s : Int} (ho : okType k s = true) (l : List V) (hl : ∀ v ∈ l, vOK k s v) (hm : l.length ≤ 100000000) : readC (colOf k s l) = some l := by
  have hn : (colOf k s l).n = (l.length : Int) := by show ((CS.of k l).nulls.length : Int) = _; rw [nulls_of]; simp
  have hm2 : maskOK (colOf k s l).m (colOf k s l).bits = true := mof_ok _
  unfold readC readRows
  rw [if_pos ⟨ho, hm2, rfl⟩, hn, Int.toNat_natCast, run_built ho l hl hm _ (Nat.le_refl _), List.take_length, Option.bind_some, nrm_map hl]
  exact if_pos (equalC_refl _)
end Go.Proofs.YtmhjjhaipcgbiaaGreat
