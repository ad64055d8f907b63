/- Texts of this claim, one behind the other: BuiltC, J0. -/
import Derived.Test.YtmhjjhaipcgbiaaGreatZemP9
import Derived.Test.YtmhjjhaipcgbiaaGreatZemP23
import Derived.Test.YtmhjjhaipcgbiaaGreatZemP31
import Derived.Test.YtmhjjhaipcgbiaaGreatZemP29

namespace Go.Proofs.YtmhjjhaipcgbiaaGreat
open Go.RowKit
set_option linter.unusedVariables false
set_option linter.unusedSimpArgs false
set_option maxRecDepth 100000
set_option maxHeartbeats 1000000
theorem of_bytes (k : Int) (l : List V) (hl : ∀ v ∈ l, IsBytes v.text) : IsBytes (CS.of k l).data ∧ ∀ t ∈ (CS.of k l).words, IsBytes t := by
  induction l using snoc_ind with
  | h0 => exact ⟨isBytes_nil, fun t h => by cases h⟩
  | h1 l v ih =>
    obtain ⟨h1, h2⟩ := ih (fun v hv => hl v (List.mem_append_left _ hv))
    have hv := hl v (by simp)
    rw [CS.of_snoc]
    unfold CS.add
    split
    · exact ⟨isBytes_append h1 hv, h2⟩
    split
    · refine ⟨isBytes_append h1 (lows_bytes _ _), ?_⟩
      dsimp only
      split
      · exact h2
      · exact addWord_bytes h2 hv
    · exact ⟨isBytes_append h1 (lows_bytes _ _), h2⟩
theorem of_ends (k : Int) (l : List V) (hl : ∀ v ∈ l, v.text.length ≤ 4900) : ∀ x ∈ (CS.of k l).ends, 0 ≤ x ∧ x ≤ (l.length : Int) * 4900 := by
  induction l using snoc_ind with
  | h0 => intro x h; cases h
  | h1 l v ih =>
    have ih := ih (fun v hv => hl v (List.mem_append_left _ hv))
    have hv := hl v (by simp)
    have hd := (of_sizes k l (fun v hv => hl v (List.mem_append_left _ hv))).1
    have ih2 : ∀ x ∈ (CS.of k l).ends, 0 ≤ x ∧ x ≤ ((l ++ [v]).length : Int) * 4900 := fun x hx => by
      have := ih x hx
      simp; omega
    rw [CS.of_snoc]
    unfold CS.add
    split
    · intro x hx
      rcases List.mem_append.1 hx with h | h
      · exact ih2 x h
      · simp at h; subst h; simp; omega
    split <;> exact ih2
theorem built_cokB {k s : Int} (ho : okType k s = true) {l : List V} (hf : Few l) (hl : ∀ v ∈ l, IsBytes v.text) : COK ((CS.of k l).col k s) := by
  obtain ⟨h1, h2, h3, h4⟩ := of_sizes k l hf.2
  obtain ⟨h5, h6⟩ := of_bytes k l hl
  have h7 := of_ends k l hf.2
  have h8 := of_words k l hf.2
  have h9 := hf.1
  have hm := mof_len (CS.of k l).nulls
  unfold okType at ho
  simp only [decide_eq_true_eq] at ho
  refine ⟨mof_bytes _, h5, fun x hx => ?_, fun t ht => ⟨h6 t ht, Nat.le_trans (h8 t ht) (by decide)⟩, ?_, ?_, ?_, ?_, ?_, ?_, ?_, ?_⟩
  · have := h7 x hx; unfold IsI64; omega
  · show (mof (CS.of k l).nulls).length ≤ _; omega
  · show (CS.of k l).data.length ≤ _; omega
  · show (CS.of k l).ends.length ≤ _; omega
  · show (CS.of k l).words.length ≤ _; omega
  · show IsI64 k; unfold IsI64; omega
  · show IsI64 s; unfold IsI64; omega
  · show IsI64 ((CS.of k l).nulls.length : Int); unfold IsI64; omega
  · show IsI64 ((CS.of k l).nulls.length : Int); unfold IsI64; omega
theorem built_cok {k s : Int} (ho : okType k s = true) {l : List V} (hf : Few l) (hl : ∀ v ∈ l, vOK k s v) : COK ((CS.of k l).col k s) := built_cokB ho hf (fun v hv => (hl v hv).1)
structure BF (k s : Int) (l : List V) (c : Col) : Prop where
  cok : COK c
  chk : checkC c = 0
  k : c.k = k
  s : c.s = s
  n : c.n = (l.length : Int)
  bits : c.bits = mof (l.map (·.null))
  val : ∀ (i : Nat) (h : i < l.length), l[i].null = false → valueC c i = (l[i].bits, l[i].text)
  nul : ∀ (i : Nat) (h : i < l.length), nullB c.bits i = l[i].null
theorem built_facts {k s : Int} (ho : okType k s = true) {l : List V} (hf : Few l) (hl : ∀ v ∈ l, vOK k s v) : BF k s l ((CS.of k l).col k s) := by
  have h9 := hf.1
  refine ⟨built_cok ho hf hl, built_ok ho l hl (by omega), rfl, rfl, ?_, ?_, fun i h hn => built_value ho l hl (by omega) i h hn, fun i h => built_null k s l i h⟩
  · show ((CS.of k l).nulls.length : Int) = _; rw [nulls_of]; simp
  · show mof (CS.of k l).nulls = _; rw [nulls_of]
end Go.Proofs.YtmhjjhaipcgbiaaGreat


namespace Go.Proofs.YtmhjjhaipcgbiaaGreat
open Go.RowKit
set_option linter.unusedVariables false
set_option linter.unusedSimpArgs false
set_option maxRecDepth 100000
set_option maxHeartbeats 1000000
abbrev colOf (k s : Int) (l : List V) : Col := (CS.of k l).col k s
theorem app_of (k : Int) (l r : List V) : CS.app k (CS.of k l) r = CS.of k (l ++ r) := by simp [CS.app, CS.of, List.foldl_append]
theorem valC_built {k s : Int} {l : List V} {c : Col} (hF : BF k s l c) (hl : ∀ v ∈ l, vOK k s v) (i : Nat) (h : i < l.length) : valC c i = l[i] := by
  have hv := hl _ (List.getElem_mem h)
  unfold valC
  rw [hF.nul i h]
  cases hn : l[i].null with
  | true =>
    obtain ⟨h1, h2⟩ := hv.2.2.1 hn
    rw [if_pos rfl]
    cases hx : l[i] with
    | mk a b t => rw [hx] at hn h1 h2; simp at hn h1 h2; rw [hn, h1, h2]
  | false =>
    rw [if_neg (by simp), hF.val i h hn]
    cases hx : l[i] with
    | mk a b t => rw [hx] at hn; simp at hn; rw [hn]
theorem valsC_built {k s : Int} {l : List V} {c : Col} (hF : BF k s l c) (hl : ∀ v ∈ l, vOK k s v) (n : Nat) (h : n ≤ l.length) : valsC c n = l.take n := by
  refine List.ext_getElem (by rw [valsC_len, List.length_take]; omega) (fun i h1 h2 => ?_)
  rw [valsC_len] at h1
  simp only [valsC, List.getElem_map, List.getElem_range, List.getElem_take]
  exact valC_built hF hl i (by omega)
theorem room_at {k s : Int} {l r : List V} (hf : Few (l ++ r)) (hl : ∀ v ∈ l ++ r, vOK k s v) (i : Nat) (hi : i < r.length) : Room (CS.app k (CS.of k l) (r.take i)) r[i] := by
  have h : l.length + i < (l ++ r).length := by rw [List.length_append]; omega
  have := of_room hf hl h
  rw [List.take_append, List.take_of_length_le (by omega), show l.length + i - l.length = i by omega, List.getElem_append_right (by omega)] at this
  rw [app_of]
  simpa using this
theorem small_of {k s : Int} {l : List V} (hf : Few l) : Small (CS.of k l) := by
  obtain ⟨h1, h2, h3, h4⟩ := of_sizes k l hf.2
  have := hf.1
  exact ⟨by omega, by omega, by omega, by omega, fun t ht => Nat.le_trans (of_words k l hf.2 t ht) (by decide)⟩
theorem few_app {k s : Int} {l r : List V} (h : Few (l ++ r) ∧ ∀ v ∈ l ++ r, vOK k s v) : (Few l ∧ ∀ v ∈ l, vOK k s v) ∧ (Few r ∧ ∀ v ∈ r, vOK k s v) := by
  obtain ⟨⟨h1, h2⟩, h3⟩ := h
  rw [List.length_append] at h1
  exact ⟨⟨⟨by omega, fun v hv => h2 v (List.mem_append_left _ hv)⟩, fun v hv => h3 v (List.mem_append_left _ hv)⟩, ⟨⟨by omega, fun v hv => h2 v (List.mem_append_right _ hv)⟩, fun v hv => h3 v (List.mem_append_right _ hv)⟩⟩
structure HasC (w : World) (base blk : Nat) (c : Col) (B D E X : SL) (vals : List Value) : Prop where
  box : w.heap[blk]? = some (.cells #[.int .i64 c.k, .int .i64 c.s, .int .i64 c.n, .int .i64 c.m, .slice B.a c.bits.length B.c, .slice D.a c.data.length D.c, .slice E.a c.ends.length E.c, .slice X.a c.words.length X.c] 63 (0, 0))
  own : OwnC w base c B D E X vals
theorem HasC.kept {w w' : World} {base blk : Nat} {c : Col} {B D E X : SL} {vals : List Value} {S : Nat → Prop} (h : HasC w base blk c B D E X vals) (hk : Kept S w w') (h1 : ¬ S blk) (h2 : ∀ b, base ≤ b → b < w.heap.size → ¬ S b) : HasC w' base blk c B D E X vals :=
  ⟨(hk.block _ (lt_of_blk h.box) h1).trans h.box, h.own.keptL hk h2⟩
theorem HasC.below {w w' : World} {base blk : Nat} {c : Col} {B D E X : SL} {vals : List Value} (h : HasC w base blk c B D E X vals) (hb : Below w.heap.size w w') : HasC w' base blk c B D E X vals :=
  ⟨(hb.block _ (lt_of_blk h.box)).trans h.box, h.own.below hb⟩
theorem join_of {k s : Int} (ho : okType k s = true) {l r : List V} (hf : Few (l ++ r) ∧ ∀ v ∈ l ++ r, vOK k s v) {b1 b2 : Nat} (B D E X B2 D2 E2 X2 : SL) (va vb : List Value) (w : World) (h : OwnC w b1 (colOf k s l) B D E X va) (h2 : OwnC w b2 (colOf k s r) B2 D2 E2 X2 vb) :
    Calls Tryz.prog 68 #[colV (colOf k s l) B D E X, colV (colOf k s r) B2 D2 E2 X2] w (ColEP (colOf k s (l ++ r)) w) := by
  obtain ⟨⟨f1, o1⟩, f2, o2⟩ := few_app hf
  have F1 := built_facts ho f1 o1
  have F2 := built_facts ho f2 o2
  have v1 := valsC_built F1 o1
  have v2 := valsC_built F2 o2
  have e1 : CS.app k CS.zero (valsC (colOf k s l) l.length) = CS.of k l := by rw [v1 _ (Nat.le_refl _), List.take_length]; rfl
  have e2 : CS.app k (CS.of k l) (valsC (colOf k s r) r.length) = CS.of k (l ++ r) := by rw [v2 _ (Nat.le_refl _), List.take_length, app_of]
  have := join_yes (colOf k s l) (colOf k s r) F1.cok F2.cok B D E X B2 D2 E2 X2 va vb F1.chk F2.chk rfl rfl (own_addr h.data) (own_addr h2.data) l.length r.length F1.n F2.n (fun i hi => by
      show Room (CS.app k CS.zero (valsC (colOf k s l) i)) (valC (colOf k s l) i)
      rw [v1 i (by omega), valC_built F1 o1 i hi]
      have := room_at (l := []) (r := l) (by simpa using f1) (by simpa using o1) i hi
      exact this) (fun i hi => by
      show Room (CS.app k (CS.app k CS.zero (valsC (colOf k s l) l.length)) (valsC (colOf k s r) i)) (valC (colOf k s r) i)
      rw [e1, v2 i (by omega), valC_built F2 o2 i hi]
      exact room_at hf.1 hf.2 i hi) (by
      show Small (CS.app k (CS.app k CS.zero (valsC (colOf k s l) l.length)) (valsC (colOf k s r) r.length))
      rw [e1, e2]; exact small_of (s := s) hf.1) w h.rd h2.rd
  have e3 : CS.app (colOf k s l).k (CS.app (colOf k s l).k CS.zero (valsC (colOf k s l) l.length)) (valsC (colOf k s r) r.length) = CS.of k (l ++ r) := by
    show CS.app k (CS.app k CS.zero (valsC (colOf k s l) l.length)) (valsC (colOf k s r) r.length) = _
    rw [e1, e2]
  rw [e3] at this
  exact this
structure B5 (w5 W : World) (bl : Nat) (k s : Int) (l : List V) : Prop where
  bs : BS W (fun b => w5.heap.size ≤ b) bl k s (CS.of k l)
  bel : Below w5.heap.size w5 W
theorem B5.below {w5 W W' : World} {bl : Nat} {k s : Int} {l : List V} (h : B5 w5 W bl k s l) (hb : Below W.heap.size W W') : B5 w5 W' bl k s l := ⟨h.bs.below hb, below_chain h.bel hb⟩
theorem B5.step {w5 W W' : World} {bl : Nat} {k s : Int} {l l' : List V} {r : Value} {e : Ending} (h : B5 w5 W bl k s l) (hs : StepP (fun b => w5.heap.size ≤ b) bl k s (CS.of k l') r W e W') : e = .returned r ∧ B5 w5 W' bl k s l' := by
  obtain ⟨rfl, hb, hk⟩ := hs
  exact ⟨rfl, hb.mono (fun b hb _ => hb.elim id (fun h' => Nat.le_trans h.bel.size h')), h.bel.trans (hk.to_below h.bel.size (fun _ h => h))⟩
end Go.Proofs.YtmhjjhaipcgbiaaGreat
