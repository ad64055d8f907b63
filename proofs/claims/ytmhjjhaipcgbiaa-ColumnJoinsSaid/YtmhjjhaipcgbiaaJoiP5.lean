/- Texts of this claim, one behind the other: J0, BackP, DictB, Sl, Back, Built, Twin, Fit, FitsL, Kind, Kind2, Joins, Args, ArgVs, JoinsRow. -/
import Derived.Test.YtmhjjhaipcgbiaaJoiP4
import Derived.Test.YtmhjjhaipcgbiaaJoiP2
import Derived.Test.YtmhjjhaipcgbiaaJoiP3
import Derived.Maps.Views
import Derived.BigQuiet
import Derived.Deep.QuietTactic
import Derived.Test.YtmhjjhaipcgbiaaJoiP1
import Derived.IntWalk
import Derived.Deep.DeepCutAuto
import Derived.ProofKit
import Derived.OpenShut
import Derived.ShutString
import Derived.ChangeOld
import Derived.Deep.Slices
import Derived.SizedLaws

/- Join, Cut, Append of columns that are built of values. -/
namespace Go.Proofs.Ytmhjjhaipcgbiaa
open Go.RowKit
set_option linter.unusedVariables false
set_option linter.unusedSimpArgs false
set_option maxRecDepth 100000
set_option maxHeartbeats 1000000

/-- The column of values. -/
abbrev colOf (k s : Int) (l : List V) : Col := (CS.of k l).col k s

theorem app_of (k : Int) (l r : List V) : CS.app k (CS.of k l) r = CS.of k (l ++ r) := by simp [CS.app, CS.of, List.foldl_append]
theorem app_zero (k : Int) (r : List V) : CS.app k CS.zero r = CS.of k r := rfl
theorem valC_built {k s : Int} {l : List V} {c : Col} (hF : BF k s l c) (hl : ∀ v ∈ l, vOK k s v) (i : Nat) (h : i < l.length) : valC c i = l[i] := by
  have hv := hl _ (List.getElem_mem h)
  unfold valC
  rw [hF.nul i h]
  cases hn : l[i].null with
  | true =>
    obtain ⟨h1, h2⟩ := hv.2.2.1 hn
    rw [if_pos rfl]
    cases hx : l[i] with
    | mk a b t => rw [hx] at hn h1 h2; simp at hn h1 h2; rw [hn, h1, h2]
  | false =>
    rw [if_neg (by simp), hF.val i h hn]
    cases hx : l[i] with
    | mk a b t => rw [hx] at hn; simp at hn; rw [hn]
theorem valsC_built {k s : Int} {l : List V} {c : Col} (hF : BF k s l c) (hl : ∀ v ∈ l, vOK k s v) (n : Nat) (h : n ≤ l.length) : valsC c n = l.take n := by
  refine List.ext_getElem (by rw [valsC_len, List.length_take]; omega) (fun i h1 h2 => ?_)
  rw [valsC_len] at h1
  simp only [valsC, List.getElem_map, List.getElem_range, List.getElem_take]
  exact valC_built hF hl i (by omega)

theorem room_at {k s : Int} {l r : List V} (hf : Few (l ++ r)) (hl : ∀ v ∈ l ++ r, vOK k s v) (i : Nat) (hi : i < r.length) : Room (CS.app k (CS.of k l) (r.take i)) r[i] := by
  have h : l.length + i < (l ++ r).length := by rw [List.length_append]; omega
  have := of_room hf hl h
  rw [List.take_append, List.take_of_length_le (by omega), show l.length + i - l.length = i by omega, List.getElem_append_right (by omega)] at this
  rw [app_of]
  simpa using this
theorem small_of {k s : Int} {l : List V} (hf : Few l) : Small (CS.of k l) := by
  obtain ⟨h1, h2, h3, h4⟩ := of_sizes k l hf.2
  have := hf.1
  exact ⟨by omega, by omega, by omega, by omega, fun t ht => Nat.le_trans (of_words k l hf.2 t ht) (by decide)⟩
theorem few_app {k s : Int} {l r : List V} (h : Few (l ++ r) ∧ ∀ v ∈ l ++ r, vOK k s v) : (Few l ∧ ∀ v ∈ l, vOK k s v) ∧ (Few r ∧ ∀ v ∈ r, vOK k s v) := by
  obtain ⟨⟨h1, h2⟩, h3⟩ := h
  rw [List.length_append] at h1
  exact ⟨⟨⟨by omega, fun v hv => h2 v (List.mem_append_left _ hv)⟩, fun v hv => h3 v (List.mem_append_left _ hv)⟩, ⟨⟨by omega, fun v hv => h2 v (List.mem_append_right _ hv)⟩, fun v hv => h3 v (List.mem_append_right _ hv)⟩⟩

/-- A column of values in a block, its rows in memory from base on. -/
structure HasC (w : World) (base blk : Nat) (c : Col) (B D E X : SL) (vals : List Value) : Prop where
  box : w.heap[blk]? = some (.cells #[.int .i64 c.k, .int .i64 c.s, .int .i64 c.n, .int .i64 c.m, .slice B.a c.bits.length B.c, .slice D.a c.data.length D.c, .slice E.a c.ends.length E.c, .slice X.a c.words.length X.c] 43 (0, 0))
  own : OwnC w base c B D E X vals
theorem HasC.kept {w w' : World} {base blk : Nat} {c : Col} {B D E X : SL} {vals : List Value} {S : Nat → Prop} (h : HasC w base blk c B D E X vals) (hk : Kept S w w') (h1 : ¬ S blk) (h2 : ∀ b, base ≤ b → b < w.heap.size → ¬ S b) : HasC w' base blk c B D E X vals :=
  ⟨(hk.block _ (lt_of_blk h.box) h1).trans h.box, h.own.keptL hk h2⟩
theorem HasC.below {w w' : World} {base blk : Nat} {c : Col} {B D E X : SL} {vals : List Value} (h : HasC w base blk c B D E X vals) (hb : Below w.heap.size w w') : HasC w' base blk c B D E X vals :=
  ⟨(hb.block _ (lt_of_blk h.box)).trans h.box, h.own.below hb⟩

theorem join_of {k s : Int} (ho : okType k s = true) {l r : List V} (hf : Few (l ++ r) ∧ ∀ v ∈ l ++ r, vOK k s v) {b1 b2 : Nat} (B D E X B2 D2 E2 X2 : SL) (va vb : List Value) (w : World) (h : OwnC w b1 (colOf k s l) B D E X va) (h2 : OwnC w b2 (colOf k s r) B2 D2 E2 X2 vb) :
    Calls Try.prog 23 #[colV (colOf k s l) B D E X, colV (colOf k s r) B2 D2 E2 X2] w (ColEP (colOf k s (l ++ r)) w) := by
  obtain ⟨⟨f1, o1⟩, f2, o2⟩ := few_app hf
  have F1 := built_facts ho f1 o1
  have F2 := built_facts ho f2 o2
  have v1 := valsC_built F1 o1
  have v2 := valsC_built F2 o2
  have e1 : CS.app k CS.zero (valsC (colOf k s l) l.length) = CS.of k l := by rw [v1 _ (Nat.le_refl _), List.take_length]; rfl
  have e2 : CS.app k (CS.of k l) (valsC (colOf k s r) r.length) = CS.of k (l ++ r) := by rw [v2 _ (Nat.le_refl _), List.take_length, app_of]
  have := join_yes (colOf k s l) (colOf k s r) F1.cok F2.cok B D E X B2 D2 E2 X2 va vb F1.chk F2.chk rfl rfl (own_addr h.data) (own_addr h2.data) l.length r.length F1.n F2.n (fun i hi => by
      show Room (CS.app k CS.zero (valsC (colOf k s l) i)) (valC (colOf k s l) i)
      rw [v1 i (by omega), valC_built F1 o1 i hi]
      have := room_at (l := []) (r := l) (by simpa using f1) (by simpa using o1) i hi
      exact this) (fun i hi => by
      show Room (CS.app k (CS.app k CS.zero (valsC (colOf k s l) l.length)) (valsC (colOf k s r) i)) (valC (colOf k s r) i)
      rw [e1, v2 i (by omega), valC_built F2 o2 i hi]
      exact room_at hf.1 hf.2 i hi) (by
      show Small (CS.app k (CS.app k CS.zero (valsC (colOf k s l) l.length)) (valsC (colOf k s r) r.length))
      rw [e1, e2]; exact small_of (s := s) hf.1) w h.rd h2.rd
  have e3 : CS.app (colOf k s l).k (CS.app (colOf k s l).k CS.zero (valsC (colOf k s l) l.length)) (valsC (colOf k s r) r.length) = CS.of k (l ++ r) := by
    show CS.app k (CS.app k CS.zero (valsC (colOf k s l) l.length)) (valsC (colOf k s r) r.length) = _
    rw [e1, e2]
  rw [e3] at this
  exact this

theorem append_of {k s : Int} (ho : okType k s = true) (S : Nat → Prop) (bl : Nat) {l r : List V} {c : Col} (ec : c = colOf k s r) (hf : Few (l ++ r) ∧ ∀ v ∈ l ++ r, vOK k s v) (B D E X : SL) (va : List Value) (hD : D.a = none ∨ ∃ g off, D.a = some ⟨g, off, none⟩) (w : World) (hb : BS w S bl k s (CS.of k l)) (hcol : ∀ w', Kept S w w' → RdC w' c B D E X va) :
    Calls Try.prog 26 #[.pointer (some ⟨bl, 0, none⟩), colV c B D E X] w (StepP S bl k s (CS.of k (l ++ r)) (.int .i64 0) w) := by
  subst ec
  obtain ⟨⟨f1, o1⟩, f2, o2⟩ := few_app hf
  have F2 := built_facts ho f2 o2
  have v2 := valsC_built F2 o2
  have e2 : CS.app k (CS.of k l) (valsC (colOf k s r) r.length) = CS.of k (l ++ r) := by rw [v2 _ (Nat.le_refl _), List.take_length, app_of]
  have := append_BS S bl (colOf k s r) F2.cok B D E X va F2.chk hD r.length F2.n (CS.of k l) (fun i hi => by
      show Room (CS.app k (CS.of k l) (valsC (colOf k s r) i)) (valC (colOf k s r) i)
      rw [v2 i (by omega), valC_built F2 o2 i hi]
      exact room_at hf.1 hf.2 i hi) w hb hcol
  have e3 : CS.app (colOf k s r).k (CS.of k l) (valsC (colOf k s r) r.length) = CS.of k (l ++ r) := e2
  rw [e3] at this
  exact this

theorem cut_of {k s : Int} (ho : okType k s = true) {l : List V} (hf : Few l ∧ ∀ v ∈ l, vOK k s v) {b1 : Nat} (B D E X : SL) (va : List Value) (f t : Nat) (hft : f ≤ t) (ht : t ≤ l.length) (w : World) (h : OwnC w b1 (colOf k s l) B D E X va) :
    Calls Try.prog 28 #[colV (colOf k s l) B D E X, .int .i64 (f : Int), .int .i64 (t : Int)] w (ColEP (colOf k s ((l.take t).drop f)) w) := by
  obtain ⟨hf, hl⟩ := hf
  have F := built_facts ho hf hl
  have v := valsC_built F hl
  have hp : ∀ i, i ≤ l.length → pieceC (colOf k s l) f i = (l.take i).drop f := fun i hi => by unfold pieceC; rw [v i hi]
  have hm : ∀ x ∈ (l.take t).drop f, x ∈ l := fun x hx => List.mem_of_mem_take (List.mem_of_mem_drop hx)
  have hf' : Few ((l.take t).drop f) := ⟨by have := hf.1; simp only [List.length_drop, List.length_take]; omega, fun x hx => hf.2 x (hm x hx)⟩
  have := cut_yes (colOf k s l) F.cok B D E X va F.chk (own_addr h.data) l.length F.n f t hft ht (fun i h1 h2 => by
      show Room (CS.app k CS.zero (pieceC (colOf k s l) f i)) (valC (colOf k s l) i)
      rw [hp i (by omega), valC_built F hl i (by omega)]
      have h3 : i - f < (l.drop f).length := by rw [List.length_drop]; omega
      have := room_at (k := k) (s := s) (l := []) (r := l.drop f) ⟨by have := hf.1; simp only [List.nil_append, List.length_drop]; omega, fun x hx => hf.2 x (List.mem_of_mem_drop (by simpa using hx))⟩ (fun x hx => hl x (List.mem_of_mem_drop (by simpa using hx))) (i - f) h3
      rw [List.getElem_drop, show CS.of k [] = CS.zero from rfl] at this
      rw [List.drop_take]
      simpa [show f + (i - f) = i by omega] using this) (by
      show Small (CS.app k CS.zero (pieceC (colOf k s l) f t))
      rw [hp t ht]; exact small_of (s := s) hf') w h.rd
  have e3 : CS.app (colOf k s l).k CS.zero (pieceC (colOf k s l) f t) = CS.of k ((l.take t).drop f) := by rw [hp t ht]; rfl
  rw [e3] at this
  exact this

/-! ### the same, of columns in boxes -/
theorem join_eq {k s : Int} (ho : okType k s = true) {l r : List V} {a b c : Col} (ea : a = colOf k s l) (eb : b = colOf k s r) (ec : c = colOf k s (l ++ r)) (hf : Few (l ++ r) ∧ ∀ v ∈ l ++ r, vOK k s v) {base x y : Nat} {B D E X B2 D2 E2 X2 : SL} {va vb : List Value} {w : World} (h : HasC w base x a B D E X va) (h2 : HasC w base y b B2 D2 E2 X2 vb) :
    Calls Try.prog 23 #[colV a B D E X, colV b B2 D2 E2 X2] w (ColEP c w) := by
  subst ea; subst eb; subst ec
  exact join_of ho hf B D E X B2 D2 E2 X2 va vb w h.own h2.own
theorem cut_eq {k s : Int} (ho : okType k s = true) {l : List V} {a c : Col} {f t : Nat} (ea : a = colOf k s l) (ec : c = colOf k s ((l.take t).drop f)) (hf : Few l ∧ ∀ v ∈ l, vOK k s v) (hft : f ≤ t) (ht : t ≤ l.length) {base x : Nat} {B D E X : SL} {va : List Value} {w : World} (h : HasC w base x a B D E X va) :
    Calls Try.prog 28 #[colV a B D E X, .int .i64 (f : Int), .int .i64 (t : Int)] w (ColEP c w) := by
  subst ea; subst ec
  exact cut_of ho hf B D E X va f t hft ht w h.own
theorem equal_eq {k s : Int} (ho : okType k s = true) {l : List V} {a b : Col} (ea : a = colOf k s l) (eb : b = colOf k s l) (hf : Few l ∧ ∀ v ∈ l, vOK k s v) {B D E X B2 D2 E2 X2 : SL} {va vb : List Value} {w : World} (h : RdC w a B D E X va) (h2 : RdC w b B2 D2 E2 X2 vb) :
    Calls Try.prog 24 #[colV a B D E X, colV b B2 D2 E2 X2] w (BoolP true w) := by
  subst ea; subst eb
  have F := built_facts ho hf.1 hf.2
  have := equal_col _ _ F.cok F.cok B D E X B2 D2 E2 X2 va vb w h h2
  rwa [equalC_refl] at this
theorem check_eq {k s : Int} (ho : okType k s = true) {l : List V} {a : Col} (ea : a = colOf k s l) (hf : Few l ∧ ∀ v ∈ l, vOK k s v) {B D E X : SL} {va : List Value} {w : World} (h : RdC w a B D E X va) :
    Calls Try.prog 30 #[colV a B D E X] w (IntP 0 w) := by
  subst ea
  have F := built_facts ho hf.1 hf.2
  have := check_any _ F.cok B D E X va w h
  rwa [F.chk] at this
/-- A builder whose blocks lie behind those of w5. -/
structure B5 (w5 W : World) (bl : Nat) (k s : Int) (l : List V) : Prop where
  bs : BS W (fun b => w5.heap.size ≤ b) bl k s (CS.of k l)
  bel : Below w5.heap.size w5 W
theorem B5.below {w5 W W' : World} {bl : Nat} {k s : Int} {l : List V} (h : B5 w5 W bl k s l) (hb : Below W.heap.size W W') : B5 w5 W' bl k s l := ⟨h.bs.below hb, below_chain h.bel hb⟩
theorem B5.step {w5 W W' : World} {bl : Nat} {k s : Int} {l l' : List V} {r : Value} {e : Ending} (h : B5 w5 W bl k s l) (hs : StepP (fun b => w5.heap.size ≤ b) bl k s (CS.of k l') r W e W') : e = .returned r ∧ B5 w5 W' bl k s l' := by
  obtain ⟨rfl, hb, hk⟩ := hs
  exact ⟨rfl, hb.mono (fun b hb _ => hb.elim id (fun h' => Nat.le_trans h.bel.size h')), h.bel.trans (hk.to_below h.bel.size (fun _ h => h))⟩
theorem append5 {k s : Int} (ho : okType k s = true) {bl : Nat} {l r : List V} {c : Col} (ec : c = colOf k s r) (hf : Few (l ++ r) ∧ ∀ v ∈ l ++ r, vOK k s v) {base x : Nat} {B D E X : SL} {va : List Value} {w5 W : World} (h : HasC w5 base x c B D E X va) (hB : B5 w5 W bl k s l) :
    Calls Try.prog 26 #[.pointer (some ⟨bl, 0, none⟩), colV c B D E X] W fun e w' => e = .returned (.int .i64 0) ∧ B5 w5 w' bl k s (l ++ r) :=
  (append_of ho _ bl ec hf B D E X va (own_addr h.own.data) W hB.bs (fun w' hk => (h.own.below (hB.bel.trans (hk.to_below hB.bel.size (fun _ h => h)))).rd)).mono (fun e w' hs => hB.step hs)
theorem few_sub {k s : Int} {v l : List V} (h : Few v ∧ ∀ x ∈ v, vOK k s x) (hl : l.length ≤ v.length) (hm : ∀ x ∈ l, x ∈ v) : Few l ∧ ∀ x ∈ l, vOK k s x :=
  ⟨⟨by have := h.1.1; omega, fun x hx => h.1.2 x (hm x hx)⟩, fun x hx => h.2 x (hm x hx)⟩
theorem column_of {k s : Int} {l : List V} (hf : Few l) (S : Nat → Prop) (bl : Nat) {c : Col} (ec : c = colOf k s l) (w : World) (h : BS w S bl k s (CS.of k l)) : Calls Try.prog 27 #[.pointer (some ⟨bl, 0, none⟩)] w (ColBP c w) := by
  subst ec
  obtain ⟨h1, h2, h3, h4, h5⟩ := small_of (k := k) (s := s) hf
  exact column_BS S bl k s (CS.of k l) h1 h2 h3 h4 h5 w h
end Go.Proofs.Ytmhjjhaipcgbiaa


/- A builder's first values. Plain. -/
namespace Go.Proofs.Ytmhjjhaipcgbiaa
open Go.RowKit
set_option linter.unusedVariables false
set_option linter.unusedSimpArgs false
set_option maxRecDepth 100000
set_option maxHeartbeats 1000000

theorem fold_pre (k : Int) : ∀ (r : List V) (c : CS), ∃ nu da en wo, r.foldl (CS.add k) c = ⟨c.nulls ++ nu, c.data ++ da, c.ends ++ en, c.words ++ wo⟩
  | [], c => ⟨[], [], [], [], by simp⟩
  | v :: r, c => by
    have h1 : ∃ nu da en wo, c.add k v = ⟨c.nulls ++ nu, c.data ++ da, c.ends ++ en, c.words ++ wo⟩ := by
      unfold CS.add
      split
      · exact ⟨[v.null], v.text, [((c.data ++ v.text).length : Int)], [], by simp⟩
      split
      · split
        · exact ⟨[v.null], lows 0 4, [], [], by simp⟩
        · obtain ⟨wo, hw⟩ := addWord_pre c.words v.text
          exact ⟨[v.null], lows (codeOf c.words v.text) 4, [], wo, by rw [hw]; simp⟩
      · exact ⟨[v.null], lows v.bits (widthOf k).toNat, [], [], by simp⟩
    obtain ⟨nu, da, en, wo, h1⟩ := h1
    obtain ⟨nu2, da2, en2, wo2, h2⟩ := fold_pre k r (c.add k v)
    rw [List.foldl_cons, h2, h1]
    exact ⟨nu ++ nu2, da ++ da2, en ++ en2, wo ++ wo2, by simp [List.append_assoc]⟩
theorem of_front (k : Int) (l : List V) (n : Nat) : (CS.of k (l.take n)).nulls = (CS.of k l).nulls.take (CS.of k (l.take n)).nulls.length ∧ (CS.of k (l.take n)).data = (CS.of k l).data.take (CS.of k (l.take n)).data.length ∧
    (CS.of k (l.take n)).ends = (CS.of k l).ends.take (CS.of k (l.take n)).ends.length ∧ (CS.of k (l.take n)).words = (CS.of k l).words.take (CS.of k (l.take n)).words.length := by
  have h : CS.of k l = (l.drop n).foldl (CS.add k) (CS.of k (l.take n)) := by
    unfold CS.of
    rw [← List.foldl_append, List.take_append_drop]
  obtain ⟨nu, da, en, wo, h2⟩ := fold_pre k (l.drop n) (CS.of k (l.take n))
  rw [h, h2]
  exact ⟨by simp, by simp, by simp, by simp⟩
theorem nulls_len (k : Int) (l : List V) : (CS.of k l).nulls.length = l.length := by rw [nulls_of]; simp
theorem fixed_len {k : Int} (h1 : k ≠ 15) (h2 : k ≠ 16) {W : Nat} (hw : widthOf k = (W : Int)) (l : List V) : (CS.of k l).data.length = l.length * W ∧ (CS.of k l).ends = [] ∧ (CS.of k l).words = [] := by
  rw [fixed_of h1 h2]
  refine ⟨?_, rfl, rfl⟩
  show ((l.map (·.bits)).flatMap fun x => lows x (widthOf k).toNat).length = _
  rw [hw, Int.toNat_natCast, flatMap_len _ W (fun x => lows_len x W)]
  simp
theorem coded_len (l : List V) : (CS.of 16 l).data.length = l.length * 4 ∧ (CS.of 16 l).ends = [] ∧ (CS.of 16 l).words = wordsOf [] l := by
  rw [coded_of]
  refine ⟨?_, rfl, rfl⟩
  show ((codesOf [] l).flatMap fun x => lows x 4).length = _
  rw [flatMap_len _ 4 (fun x => lows_len x 4), codes_len]
theorem running_len (l : List V) (n : Nat) (h : n ≤ l.length) : (CS.of 15 (l.take n)).ends.length = n ∧ aheadI (CS.of 15 (l.take n)).ends n = ((CS.of 15 (l.take n)).data.length : Int) ∧ (CS.of 15 (l.take n)).words = [] ∧ (CS.of 15 l).words = [] := by
  have hl : (l.take n).length = n := by rw [List.length_take]; omega
  refine ⟨by rw [(running_ends _).1, hl], ?_, (running_data _).2, (running_data _).2⟩
  rw [running_ahead (l.take n) n (by omega), (running_data _).1, List.take_of_length_le (by omega)]

/-- How many words the first values need: the loop's step. -/
theorem need_step (l : List V) (i : Nat) (h : i < l.length) : (wordsOf [] (l.take (i + 1))).length = if l[i].null then (wordsOf [] (l.take i)).length else max (wordsOf [] (l.take i)).length (codeOf (wordsOf [] (l.take i)) l[i].text + 1) := by
  rw [words_step l [] i h]
  split
  · rfl
  · cases hc : (wordsOf [] (l.take i)).contains l[i].text with
    | true =>
      have := (List.getElem?_eq_some_iff.1 (codeOf_get hc)).1
      rw [addWord_old hc]; omega
    | false => rw [addWord_new hc, codeOf_new hc]; simp
/-- A code lies among the first bytes. -/
theorem need_word (l : List V) (n i : Nat) (hm : l.length ≤ 100000000) (h : i < n) (hn : n ≤ l.length) : wordAt ((CS.of 16 l).data.take (n * 4)) (i * 4) 4 = if (l[i]'(by omega)).null then 0 else codeOf (wordsOf [] (l.take i)) (l[i]'(by omega)).text := by
  have hf := (of_front 16 l n).2.1
  have hl : (l.take n).length = n := by rw [List.length_take]; omega
  rw [(coded_len _).1, hl] at hf
  rw [← hf]
  have := coded_word 0 (l.take n) (by omega) i (by omega)
  rw [List.getElem_take, List.take_take, Nat.min_eq_left (by omega)] at this
  exact this
end Go.Proofs.Ytmhjjhaipcgbiaa


/- (*dict.List).Back: the first words stay. -/
namespace Go.Proofs.Ytmhjjhaipcgbiaa
open Go.RowKit Go.Maps
set_option linter.unusedVariables false
set_option linter.unusedSimpArgs false
set_option maxRecDepth 100000
set_option maxHeartbeats 1000000

/-- The codes while words are struck, from the n-th on: j are gone. -/
def CX (D : DataW Unit) (ws : List (List Int)) (n j : Nat) : Prop :=
  (∀ t, IsBytes t → Maps.has D (wordKey t) = (ws.take n ++ ws.drop (n + j)).contains t) ∧ ∀ (i : Nat) t, i < n → ws[i]? = some t → D.atKey (wordKey t) (.lit (.int .i64 0)) = .lit (.int .i64 (i : Int))
theorem CX.start {D : DataW Unit} {ws : List (List Int)} (h : codesOK D ws) (n : Nat) : CX D ws n 0 := by
  refine ⟨fun t ht => ?_, fun i t _ hi => h.2 i t hi⟩
  rw [Nat.add_zero, List.take_append_drop]; exact h.1 t ht
theorem CX.done {D : DataW Unit} {ws : List (List Int)} {n j : Nat} (h : CX D ws n j) (hj : ws.length ≤ n + j) : codesOK D (ws.take n) := by
  refine ⟨fun t ht => ?_, fun i t hi => ?_⟩
  · have := h.1 t ht
    rwa [List.drop_eq_nil_of_le hj, List.append_nil] at this
  · rw [List.getElem?_take] at hi
    split at hi
    · exact h.2 i t (by omega) hi
    · cases hi
theorem CX.step {D : DataW Unit} {ws : List (List Int)} {n j : Nat} (h : CX D ws n j) (hn : ws.Nodup) (hb : ∀ t ∈ ws, IsBytes t) (hj : n + j < ws.length) : CX (D.del (wordKey ws[n + j])) ws n (j + 1) ∧ Maps.has D (wordKey ws[n + j]) = true := by
  have hd : ws.drop (n + j) = ws[n + j] :: ws.drop (n + (j + 1)) := by rw [List.drop_eq_getElem_cons hj]; rfl
  have hbt := hb _ (List.getElem_mem hj)
  have hu : (ws.take n ++ ws[n + j] :: ws.drop (n + (j + 1))).Nodup := by
    have h1 : (ws.take n ++ ws.drop (n + j)).Sublist ws := by
      have : ws.take n ++ ws.drop (n + j) = ws.take n ++ (ws.drop n).drop j := by rw [List.drop_drop]
      rw [this]
      conv => rhs; rw [← List.take_append_drop n ws]
      exact List.Sublist.append (List.Sublist.refl _) (List.drop_sublist _ _)
    rw [hd] at h1
    exact h1.nodup hn
  refine ⟨⟨fun t ht => ?_, fun i t hi he => ?_⟩, ?_⟩
  · by_cases e : t = ws[n + j]
    · subst e
      rw [has_del_same]
      rw [List.nodup_append] at hu
      obtain ⟨_, h2, h3⟩ := hu
      rw [List.nodup_cons] at h2
      symm
      rw [Bool.eq_false_iff]
      intro hc
      rw [List.contains_iff_mem] at hc
      rcases List.mem_append.1 hc with h4 | h4
      · exact h3 _ h4 _ (List.mem_cons_self ..) rfl
      · exact h2.1 h4
    · rw [has_del_other (fun e' => e (wordKey_inj ht hbt e')), h.1 t ht, hd]
      rw [Bool.eq_iff_iff, List.contains_iff_mem, List.contains_iff_mem, List.mem_append, List.mem_append, List.mem_cons]
      simp [e]
  · have hne : t ≠ ws[n + j] := by
      rintro rfl
      have h1 := List.getElem?_eq_some_iff.1 he
      obtain ⟨h3, h4⟩ := h1
      have := (List.getElem_inj hn).1 h4
      omega
    rw [atKey_del_other (fun e' => hne (wordKey_inj (hb t (List.mem_of_getElem? he)) hbt e'))]
    exact h.2 i t hi he
  · rw [h.1 _ hbt, hd]
    simp

theorem size_own {w : World} {b n : Nat} {D : DataW Unit} (h : w.ownsMap Try.prog 9 (plainElem Try.prog 3) b n D) : w.ownsMap Try.prog 9 (plainElem Try.prog 3) b (Maps.size D) D ∧ Maps.size D ≤ n := by
  obtain ⟨es, clock, hb, F, hs, rfl⟩ := h
  have e : Maps.size (DataW.map ((es.toList.map (Go.WideElems.rg Try.prog 9 (plainElem (H := Unit) Try.prog 3))).foldr DataW.insert [])) = es.size := by
    rw [size_eq, length_sorted]; simp
  exact ⟨⟨es, clock, hb, F, Nat.le_of_eq e.symm, rfl⟩, by rw [e]; exact hs⟩

/-- What the loop holds. -/
structure DBI (ws : List (List Int)) (mb n j : Nat) (w wr : World) : Prop where
  map : ∃ D : DataW Unit, wr.ownsMap Try.prog 9 (plainElem Try.prog 3) mb (Maps.size D) D ∧ CX D ws n j ∧ Maps.size D + j ≤ ws.length
  kept : Kept (fun b => b = mb) w wr
theorem DBI.step {ws : List (List Int)} {mb n j : Nat} {w wr : World} (h : DBI ws mb n j w wr) (hn : ws.Nodup) (hb : ∀ t ∈ ws, IsBytes t) (hj : n + j < ws.length) (hl : ws[n + j].length ≤ 100000000) :
    ∃ w1, (∀ ty, (Builtin.delete_ #[174, 9] ty #[.map (some mb), .string (strOfNums ws[n + j])]).run Try.prog wr.drew = .ok (.tuple #[]) w1) ∧ DBI ws mb n (j + 1) w w1 := by
  obtain ⟨⟨D, h1, h2, h3⟩, hk⟩ := h
  have hk1 := wordKey_key ws[n + j] (by unfold maxLen; omega)
  obtain ⟨h4, h5⟩ := h2.step hn hb hj
  have hT := h1.tidy string_law
  have hsz := size_del (k := wordKey ws[n + j]) hT
  rw [h5, if_pos rfl] at hsz
  obtain ⟨w1, hr, ho, ht⟩ := h1.drew.drop string_law Try.underlying174 hk1 0
  refine ⟨w1, fun ty => ?_, ⟨⟨_, (size_own ho).1, h4, by omega⟩, ?_⟩⟩
  · exact hr
  · exact (hk.trans (Kept.of_below (S := fun b => b = mb) (below_drewN _ _ 1)) (fun _ e _ => e)).trans ((Kept.of_grown ht.grown).mono (fun b e _ => by simpa using e)) (fun _ e _ => e)

def DBackP (T : Nat → Prop) (lw : Nat) (ws : List (List Int)) (w : World) (e : Ending) (w' : World) : Prop := e = .returned (.int .i64 0) ∧ WL w' T lw ws ∧ Kept T w w'

theorem own_len (a : Option Addr) (n m c : Nat) : (Value.slice a n c).ownBlock = (Value.slice a m c).ownBlock := by cases a <;> rfl
/-- The first elements of a row. -/
theorem Own.front {w : World} {base : Nat} {E : TypeId} {sz n c : Nat} {a : Option Addr} {xs : List Value} (h : Own w base E sz (.slice a n c) n xs) {m : Nat} (hm : m ≤ n) : Own w base E sz (.slice a m c) m (xs.take (m * sz)) := by
  rcases h.2 with ⟨e, rfl⟩ | ⟨g, off, cap, cur, e, _⟩
  · cases e
    obtain rfl : m = 0 := by omega
    have : xs = [] := List.eq_nil_of_length_eq_zero (by simpa using h.1)
    subst this
    simpa using Own.nil w base E sz
  · cases e
    have := h.cut (i := 0) (j := m) (Nat.zero_le _) hm
    simpa using this

theorem dback_done {T : Nat → Prop} {lw n mb wc : Nat} {ws : List (List Int)} {wa : Option Addr} {vals : List Value} {D : DataW Unit} {w wr : World} (hn : n ≤ ws.length) (H : WLx w T lw ws (.slice wa ws.length wc) mb vals D) (hI : DBI ws mb n (ws.length - n) w wr) :
    WL (wr.setCell ⟨lw, 0, none⟩ (.slice wa n wc)) T lw (ws.take n) ∧ Kept T w (wr.setCell ⟨lw, 0, none⟩ (.slice wa n wc)) := by
  obtain ⟨⟨D', m1, m2, m3⟩, hk⟩ := hI
  obtain ⟨n0, hm0, _⟩ := H.map
  obtain ⟨es, clk, hmb, _⟩ := hm0
  have hne : mb ≠ lw := map_ne_cells hmb H.blk
  have hb := (hk.block lw (lt_of_blk H.blk) (fun e => hne e.symm)).trans H.blk
  have K2 : Kept (fun b => b = mb ∨ b = lw) w (wr.setCell ⟨lw, 0, none⟩ (.slice wa n wc)) := (hk.mono (fun b e _ => .inl e)).trans (Kept.setCell _ _ _) (fun b e _ => .inr e)
  have hrow : Own wr 0 37 1 (.slice wa ws.length wc) ws.length vals := H.row.kept hk (fun b e h => by
    subst h
    obtain ⟨cur, hg⟩ := own_blk H.row e
    exact map_ne_cells hmb hg rfl)
  have hlen : (ws.take n).length = n := by rw [List.length_take]; omega
  have hvl : vals.length = ws.length := H.words.1
  refine ⟨⟨.slice wa n wc, mb, vals.take n, D', ⟨?_, ⟨Maps.size D', ?_, by rw [hlen]; omega⟩, m2.done (by omega), ?_, ⟨by rw [List.length_take, List.length_take, hvl], ?_⟩, H.tl, H.tm, fun b e => H.tw b (own_len wa n ws.length wc ▸ e), ?_, fun t ht => H.bytes t (List.mem_of_mem_take ht)⟩⟩, K2.mono (fun b e _ => e.elim (fun e => e ▸ H.tm) (fun e => e ▸ H.tl))⟩
  · have := heap_setCell_at (k := 0) hb (.slice wa n wc)
    simpa using this
  · obtain ⟨es', clk', hb', r⟩ := m1
    exact ⟨es', clk', (Below.heap_setCell wr _ _ _ hne).trans hb', r⟩
  · rw [hlen]
    have h1 := hrow.front hn
    rw [Nat.mul_one] at h1
    exact h1.set_other (h1.blk_ne hb (by decide)) _
  · intro i t hi
    rw [List.getElem?_take] at hi
    split at hi
    · obtain ⟨v, h1, h2, h3⟩ := H.words.2 i t hi
      refine ⟨v, by rw [List.getElem?_take, if_pos (by assumption)]; exact h1, h2.kept K2 (fun b e h => ?_), h3⟩
      obtain ⟨cur, hg⟩ := own_blk h2 e
      rcases h with h | h
      · exact map_ne_cells hmb hg h.symm
      · exact blk_ne H.blk hg (by decide) h.symm
    · cases hi
  · exact (List.take_sublist _ _).nodup H.nodup

theorem dback_some (T : Nat → Prop) (lw : Nat) (ws : List (List Int)) (n : Nat) (hn : n ≤ ws.length) (hw : ws.length ≤ 100000000) (hl : ∀ t ∈ ws, t.length ≤ 100000000) (g off wc mb : Nat) (vals : List Value) (D : DataW Unit) (w : World) (h : WLx w T lw ws (.slice (some ⟨g, off, none⟩) ws.length wc) mb vals D) :
    Calls Try.prog 71 #[.pointer (some ⟨lw, 0, none⟩), .int .i64 (n : Int)] w (DBackP T lw (ws.take n) w) := by
  have hc0 := cell_blk (k := 0) h.blk
  have hc1 := cell_blk (k := 1) h.blk
  simp at hc0 hc1
  have hcap : ws.length ≤ wc := by
    rcases h.row.2 with ⟨e, _⟩ | ⟨g', off', cap, cur, e, _, _, h5, _⟩
    · cases e
    · cases e; exact h5
  have hmax : wc ≤ 9223372036854775807 := by
    rcases h.row.2 with ⟨e, _⟩ | ⟨g', off', cap, cur, e, _, _, _, h5, _⟩
    · cases e
    · cases e; unfold maxLen at h5; omega
  obtain ⟨n0, hm0, hn0⟩ := h.map
  obtain ⟨hm1, hm2⟩ := size_own hm0
  have HS := Aside.mk (show DBI ws mb n 0 w w from ⟨⟨D, hm1, CX.start h.codes n, by omega⟩, Kept.refl _ _⟩)
  have HNE := Aside.mk (show mb ≠ lw by obtain ⟨es, clk, hmb, _⟩ := hm0; exact map_ne_cells hmb h.blk)
  have HGM := Aside.mk (show g ≠ mb by
    obtain ⟨es, clk, hmb, _⟩ := hm0
    obtain ⟨cur, hg⟩ := own_blk h.row (b := g) rfl
    exact fun e => map_ne_cells hmb hg e.symm)
  have H := Aside.mk h
  have HL := Aside.mk hl
  clear h hm0 hm1 hm2 hl
  by_cases hnc : n < wc
  · go_enter Try.func71, Try.ntmps71
    go_wp2_with fail
    go_loopw [25] (fun iv wr => ∃ j : Nat, j ≤ ws.length - n ∧ iv = .int .i64 (j : Int) ∧ Aside (DBI ws mb n j w wr)) (fun iv _ => (ws.length - n) - (intOf iv).toNat)
    case atStart => exact ⟨0, by omega, rfl, HS⟩
    case round =>
      obtain ⟨j, hj, rfl, hp⟩ := hrel
      have d0 := hp.out.kept.cell hc0 (fun e => HNE.out e.symm)
      have d1 := hp.out.kept.cell hc1 (fun e => HNE.out e.symm)
      have hf0 := frozen_blk (k := 0) ((hp.out.kept.block lw (lt_of_blk H.out.blk) (fun e => HNE.out e.symm)).trans H.out.blk)
      clear hc0 hc1
      by_cases hlt : j < ws.length - n
      · obtain ⟨v, v1, v2, v3⟩ := H.out.words.2 (n + j) _ (List.getElem?_eq_getElem (by omega))
        obtain ⟨ta, tc, rfl⟩ := v2.form
        obtain ⟨g', o', k', e1, _, _, _, _, hcc, _⟩ := H.out.row.some_ (by omega)
        simp only [Value.slice.injEq, Option.some.injEq, Addr.mk.injEq, and_true, true_and] at e1
        obtain ⟨⟨rfl, rfl⟩, rfl⟩ := e1
        have hx := hp.out.kept.cell (hcc (n + j) _ v1) HGM.out
        rw [← Nat.add_assoc] at hx
        have hxd : wr.cell? ⟨g, off + n + j, none⟩ = some (.slice ta (ws[n + j]'(by omega)).length tc) := hx
        obtain ⟨es, clk, hmb, _⟩ := H.out.map.choose_spec.1
        have hconv := conv_any ta _ tc (ws[n + j]'(by omega)) rfl wr.drew (((v2.rd).kept hp.out.kept (fun b e h => by
          obtain ⟨cur, hg⟩ := own_blk v2 e
          exact map_ne_cells hmb hg h.symm)).below (below_drewN _ _ 1))
        obtain ⟨w1, hdel, hI1⟩ := hp.out.step H.out.nodup H.out.bytes (by omega) (HL.out _ (List.getElem_mem _))
        have HI1 := Aside.mk hI1
        clear hmb hI1 hx hcc v1 v2 v3
        generalize ws[n + j]'(by omega) = tx at *
        generalize strOfNums tx = sx at *
        go_wp2_with fail
        go_region
        go_wp2_with fail
        exact ⟨⟨j + 1, by omega, by simp, HI1⟩, by simp [intOf]; omega⟩
      · obtain rfl : j = ws.length - n := by omega
        obtain ⟨r1, r2⟩ := dback_done hn H.out hp.out
        have HR := Aside.mk (And.intro r1 r2)
        clear r1 r2
        go_wp2_with fail
        go_ret
        exact ⟨rfl, HR.out.1, HR.out.2⟩
  · have hnl : ws.length = n := by omega
    have HNL := Aside.mk hnl
    have HWC := Aside.mk (show n = wc by omega)
    obtain ⟨r1, r2⟩ := dback_done hn H.out (show DBI ws mb n (ws.length - n) w w by rw [hnl, Nat.sub_self]; exact HS.out)
    have HR := Aside.mk (And.intro r1 r2)
    have hf0 := frozen_blk (k := 0) H.out.blk
    clear r1 r2
    have hz : (ws.length : Int) - (n : Int) = 0 := by omega
    obtain rfl : n = wc := by omega
    rw [hnl] at hc0
    have HN2 := hnl
    clear hnl hz HNL
    go_enter Try.func71, Try.ntmps71
    go_wp2_with fail
    go_loopw [25] (fun iv wr => iv = .int .i64 0 ∧ wr = w) (fun iv _ => 0)
    case atStart => exact ⟨rfl, rfl⟩
    case round =>
      obtain ⟨rfl, rfl⟩ := hrel
      go_wp2_with fail
      go_ret
      exact ⟨rfl, HR.out.1, HR.out.2⟩

theorem dback_any (T : Nat → Prop) (lw : Nat) (ws : List (List Int)) (n : Nat) (hn : n ≤ ws.length) (hw : ws.length ≤ 100000000) (hl : ∀ t ∈ ws, t.length ≤ 100000000) (w : World) (h : WL w T lw ws) :
    Calls Try.prog 71 #[.pointer (some ⟨lw, 0, none⟩), .int .i64 (n : Int)] w (DBackP T lw (ws.take n) w) := by
  obtain ⟨wv, mb, vals, D, h⟩ := h
  obtain ⟨a, c, rfl⟩ := h.row.form
  rcases h.row.2 with ⟨e, hz⟩ | ⟨g, off, cap, cur, e, _⟩
  · simp only [Value.slice.injEq] at e
    obtain ⟨rfl, _, rfl⟩ := e
    have hws : ws = [] := List.eq_nil_of_length_eq_zero hz
    subst hws
    obtain rfl : n = 0 := by simpa using hn
    have hc0 := cell_blk (k := 0) h.blk
    have hc1 := cell_blk (k := 1) h.blk
    have hf0 := frozen_blk (k := 0) h.blk
    simp at hc0 hc1
    obtain ⟨n0, hm0, hn0⟩ := h.map
    obtain ⟨hm1, hm2⟩ := size_own hm0
    obtain ⟨r1, r2⟩ := dback_done (n := 0) (Nat.zero_le _) h (wr := w) ⟨⟨D, hm1, CX.start h.codes 0, by simp at hn0 ⊢; omega⟩, Kept.refl _ _⟩
    have HR := Aside.mk (And.intro r1 r2)
    clear r1 r2 h hm0 hm1 hm2 hn0
    go_enter Try.func71, Try.ntmps71
    go_wp2_with fail
    go_loopw [25] (fun iv wr => iv = .int .i64 0 ∧ wr = w) (fun iv _ => 0)
    case atStart => exact ⟨rfl, rfl⟩
    case round =>
      obtain ⟨rfl, rfl⟩ := hrel
      go_wp2_with fail
      go_ret
      exact ⟨rfl, HR.out.1, HR.out.2⟩
  · cases e
    exact dback_some T lw ws n hn hw hl g off c mb vals D w h
end Go.Proofs.Ytmhjjhaipcgbiaa


/- Slicing a slice: its run, whatever the room; what the piece reads. Over any program. -/
namespace Go.Proofs.Ytmhjjhaipcgbiaa
open Go.RowKit
set_option linter.unusedSimpArgs false

/-- Where the piece from i on begins. -/
def cutA (a : Option Addr) (c i sz : Nat) : Option Addr := if c = i then a else a.map (·.add (i * sz))
section
variable {P : Program} {T e : TypeId} {sz : Nat}
theorem run_slice_mid (hT : P.underlying T = some (.slice e)) (hs : (P.info? e).map (·.size) = some sz) (a : Option Addr) (n c i j : Nat) (hij : i ≤ j) (hjc : j ≤ c) (w : World) :
    (Instr.slice T (.slice a n c) (some (.int .i64 (i : Int))) (some (.int .i64 (j : Int))) none).run P w = .ok (.slice (cutA a c i sz) (j - i) (c - i)) w := by
  obtain ⟨inf, hi, hz⟩ := Option.map_eq_some_iff.1 hs
  simp [Instr.slice, Instr.sliceBounds, Instr.sliceBound, run_underlying hT, sizeOf, typeInfo, hi, hz, asIntOf, go_sem, hij, hjc, cutA]
theorem run_slice_to (hT : P.underlying T = some (.slice e)) (hs : (P.info? e).map (·.size) = some sz) (a : Option Addr) (n c j : Nat) (hjc : j ≤ c) (w : World) :
    (Instr.slice T (.slice a n c) none (some (.int .i64 (j : Int))) none).run P w = .ok (.slice (cutA a c 0 sz) (j - 0) (c - 0)) w := by
  obtain ⟨inf, hi, hz⟩ := Option.map_eq_some_iff.1 hs
  simp [Instr.slice, Instr.sliceBounds, Instr.sliceBound, run_underlying hT, sizeOf, typeInfo, hi, hz, asIntOf, go_sem, hjc, cutA]
theorem run_slice_from (hT : P.underlying T = some (.slice e)) (hs : (P.info? e).map (·.size) = some sz) (a : Option Addr) (n c i : Nat) (hin : i ≤ n) (w : World) :
    (Instr.slice T (.slice a n c) (some (.int .i64 (i : Int))) none none).run P w = .ok (.slice (cutA a c i sz) (n - i) (c - i)) w := by
  obtain ⟨inf, hi, hz⟩ := Option.map_eq_some_iff.1 hs
  simp [Instr.slice, Instr.sliceBounds, Instr.sliceBound, run_underlying hT, sizeOf, typeInfo, hi, hz, asIntOf, go_sem, hin, cutA]
end

theorem Rd.mid {w : World} {sz n c : Nat} {a : Option Addr} {xs : List Value} (h : Rd w sz (.slice a n c) n xs) {i j : Nat} (hij : i ≤ j) (hjn : j ≤ n) : Rd w sz (.slice (cutA a c i sz) (j - i) (c - i)) (j - i) ((xs.drop (i * sz)).take ((j - i) * sz)) := by
  obtain ⟨hl, a', cap, e, h1, h2, h3, h4⟩ := h
  simp only [Value.slice.injEq, true_and] at e
  obtain ⟨rfl, rfl⟩ := e
  have hi2 : i * sz + (j - i) * sz = j * sz := by rw [← Nat.add_mul]; congr 1; omega
  have hj2 : j * sz ≤ n * sz := Nat.mul_le_mul_right _ hjn
  refine ⟨by rw [List.length_take, List.length_drop, hl]; omega, _, _, rfl, by omega, by omega, fun ea => ?_, fun k u hu => ?_⟩
  · unfold cutA at ea
    split at ea
    · have := h3 ea; omega
    · have := h3 (by simpa using ea); omega
  · have hk := (List.getElem?_eq_some_iff.1 hu).1
    rw [List.length_take, List.length_drop] at hk
    rw [List.getElem?_take, if_pos (by omega), List.getElem?_drop] at hu
    obtain ⟨b, off, rfl, hc⟩ := h4 _ u hu
    have hci : c ≠ i := by
      intro e
      have : j - i = 0 := by omega
      rw [this] at hk; omega
    refine ⟨b, off + i * sz, ?_, by rw [Nat.add_assoc]; exact hc⟩
    rw [cutA, if_neg hci]
    simp [addr_add]
theorem Own.mid {w : World} {base : Nat} {E : TypeId} {sz n c : Nat} {a : Option Addr} {xs : List Value} (h : Own w base E sz (.slice a n c) n xs) {i j : Nat} (hij : i ≤ j) (hjn : j ≤ n) : Own w base E sz (.slice (cutA a c i sz) (j - i) (c - i)) (j - i) ((xs.drop (i * sz)).take ((j - i) * sz)) ∨ (j - i = 0 ∧ c = i) := by
  rcases h.2 with ⟨e, hn⟩ | ⟨g, off, cap, cur, e, _⟩
  · simp only [Value.slice.injEq] at e
    exact .inr ⟨by omega, by omega⟩
  · simp only [Value.slice.injEq, true_and] at e
    obtain ⟨rfl, rfl⟩ := e
    by_cases hci : c = i
    · have hnc : n ≤ c := by
        rcases h.2 with ⟨e, _⟩ | ⟨_, _, _, _, e, _, _, h5, _⟩
        · cases e
        · cases e; exact h5
      exact .inr ⟨by omega, hci⟩
    · refine .inl ?_
      have := h.cut hij hjn
      rw [cutA, if_neg hci]
      simpa [addr_add] using this
end Go.Proofs.Ytmhjjhaipcgbiaa


/- (*column.Builder).Back: the first values stay. -/
namespace Go.Proofs.Ytmhjjhaipcgbiaa
open Go.RowKit
set_option linter.unusedVariables false
set_option linter.unusedSimpArgs false
set_option maxRecDepth 100000
set_option maxHeartbeats 1000000

theorem assert_fixed3 (v : Value) (w : World) : (Instr.typeAssert (.iface 130 v) 104 128 true).run Try.prog w = .ok (.tuple #[.agg #[.int .i64 0], .bool false]) w := by kernel_rfl

theorem own_cap {w : World} {base : Nat} {E : TypeId} {sz n c : Nat} {a : Option Addr} {xs : List Value} (h : Own w base E sz (.slice a n c) n xs) : n ≤ c := by
  rcases h.2 with ⟨e, hn⟩ | ⟨g, off, cap, cur, e, _, _, h5, _⟩
  · cases e; omega
  · cases e; exact h5
theorem own_slice_to {w : World} {base : Nat} {E : TypeId} {sz n c : Nat} {a : Option Addr} {xs : List Value} (h : Own w base E sz (.slice a n c) n xs) {P : Program} {T e : TypeId} (hT : P.underlying T = some (.slice e)) {q : Nat} (hs : (P.info? e).map (·.size) = some q) {m : Nat} (hm : m ≤ n) (W : World) :
    (Instr.slice T (.slice a n c) none (some (.int .i64 (m : Int))) none).run P W = .ok (.slice a m c) W := by
  have := run_slice_to (n := n) hT hs a c m (Nat.le_trans hm (own_cap h)) W
  rw [this]
  have : cutA a c 0 q = a := by
    unfold cutA
    split
    · rfl
    · rcases own_addr h with rfl | ⟨g, off, rfl⟩ <;> simp [addr_add]
  rw [this]; rfl

theorem box6 {w : World} {b : Nat} {x0 x1 x2 x3 x4 x5 : Value} {T : TypeId} (h : w.heap[b]? = some (.cells #[x0, x1, x2, x3, x4, x5] T (0, 0))) : w.cell? ⟨b, 0, none⟩ = some x0 ∧ w.cell? ⟨b, 1, none⟩ = some x1 ∧ w.cell? ⟨b, 2, none⟩ = some x2 ∧ w.cell? ⟨b, 3, none⟩ = some x3 ∧ w.cell? ⟨b, 4, none⟩ = some x4 ∧ w.cell? ⟨b, 5, none⟩ = some x5 := by
  refine ⟨?_, ?_, ?_, ?_, ?_, ?_⟩ <;> (rw [cell_blk h]; rfl)

/-- A row of the builder is laid anew into its cell. -/
theorem IsB.turn_nulls {w : World} {bl lw base : Nat} {k s : Int} {nulls nulls' : List Bool} {data ends : List Int} {nv nv' dv ev : Value} (h : IsB w bl lw base k s nulls data ends nv dv ev) (hown : Own w base 4 1 nv' nulls'.length (nulls'.map .bool)) :
    IsB (w.setCell ⟨bl, 2, none⟩ nv') bl lw base k s nulls' data ends nv' dv ev ∧ Kept (fun b => b = bl) w (w.setCell ⟨bl, 2, none⟩ nv') := by
  obtain ⟨mv, hl⟩ := h.lst
  have hne : bl ≠ lw := blk_ne h.blk hl (by decide)
  refine ⟨⟨by simpa using heap_setCell_at (k := 2) h.blk nv', ⟨mv, by rw [Below.heap_setCell _ _ _ _ (fun e => hne e.symm)]; exact hl⟩, h.bbl, h.blw, hown.set_other (hown.blk_ne h.blk (by decide)) _, h.data.set_other (h.data.blk_ne h.blk (by decide)) _, h.ends.set_other (h.ends.blk_ne h.blk (by decide)) _⟩, Kept.setCell w ⟨bl, 2, none⟩ nv'⟩
theorem IsB.turn_data {w : World} {bl lw base : Nat} {k s : Int} {nulls : List Bool} {data data' ends : List Int} {nv dv dv' ev : Value} (h : IsB w bl lw base k s nulls data ends nv dv ev) (hown : Own w base 5 1 dv' data'.length (data'.map (.int .u8))) :
    IsB (w.setCell ⟨bl, 3, none⟩ dv') bl lw base k s nulls data' ends nv dv' ev ∧ Kept (fun b => b = bl) w (w.setCell ⟨bl, 3, none⟩ dv') := by
  obtain ⟨mv, hl⟩ := h.lst
  have hne : bl ≠ lw := blk_ne h.blk hl (by decide)
  refine ⟨⟨by simpa using heap_setCell_at (k := 3) h.blk dv', ⟨mv, by rw [Below.heap_setCell _ _ _ _ (fun e => hne e.symm)]; exact hl⟩, h.bbl, h.blw, h.nulls.set_other (h.nulls.blk_ne h.blk (by decide)) _, hown.set_other (hown.blk_ne h.blk (by decide)) _, h.ends.set_other (h.ends.blk_ne h.blk (by decide)) _⟩, Kept.setCell w ⟨bl, 3, none⟩ dv'⟩
theorem IsB.turn_ends {w : World} {bl lw base : Nat} {k s : Int} {nulls : List Bool} {data ends ends' : List Int} {nv dv ev ev' : Value} (h : IsB w bl lw base k s nulls data ends nv dv ev) (hown : Own w base 3 1 ev' ends'.length (ends'.map (.int .i64))) :
    IsB (w.setCell ⟨bl, 4, none⟩ ev') bl lw base k s nulls data ends' nv dv ev' ∧ Kept (fun b => b = bl) w (w.setCell ⟨bl, 4, none⟩ ev') := by
  obtain ⟨mv, hl⟩ := h.lst
  have hne : bl ≠ lw := blk_ne h.blk hl (by decide)
  refine ⟨⟨by simpa using heap_setCell_at (k := 4) h.blk ev', ⟨mv, by rw [Below.heap_setCell _ _ _ _ (fun e => hne e.symm)]; exact hl⟩, h.bbl, h.blw, h.nulls.set_other (h.nulls.blk_ne h.blk (by decide)) _, h.data.set_other (h.data.blk_ne h.blk (by decide)) _, hown.set_other (hown.blk_ne h.blk (by decide)) _⟩, Kept.setCell w ⟨bl, 4, none⟩ ev'⟩

theorem own_front {w : World} {base : Nat} {E : TypeId} {n c : Nat} {a : Option Addr} {α : Type} {l : List α} {f : α → Value} (h : Own w base E 1 (.slice a n c) n (l.map f)) {m : Nat} (hm : m ≤ n) : Own w base E 1 (.slice a m c) (l.take m).length ((l.take m).map f) := by
  have hl : l.length = n := by have := h.1; simpa using this
  have := h.front hm
  rw [Nat.mul_one] at this
  rw [List.length_take, Nat.min_eq_left (by omega), List.map_take]
  exact this

/-- What Back leaves of a builder's rows. -/
def BackP (bl lw : Nat) (k s : Int) (nulls : List Bool) (data ends : List Int) (nv dv ev : Value) (w : World) (e : Ending) (w' : World) : Prop :=
  e = .returned (.int .i64 0) ∧ IsB w' bl lw 0 k s nulls data ends nv dv ev ∧ Kept (fun b => b = bl) w w'

theorem back_fixed (bl lw : Nat) (k s : Int) (h1 : (k == 15) = false) (h2 : (k == 16) = false) (W : Nat) (hW : widthOf k = (W : Int)) (hW8 : W ≤ 8) (nulls : List Bool) (data ends : List Int) (na da ea : Option Addr) (nn nc dn dc en ec : Nat) (hnn : nulls.length = nn) (hdn : data.length = dn) (n : Nat) (hn : n ≤ nn) (hd : n * W ≤ dn) (hl : dn ≤ 100000000) (hl2 : nn ≤ 100000000) (w : World)
    (h : IsB w bl lw 0 k s nulls data ends (.slice na nn nc) (.slice da dn dc) (.slice ea en ec)) :
    Calls Try.prog 29 #[.pointer (some ⟨bl, 0, none⟩), .int .i64 (n : Int)] w (BackP bl lw k s (nulls.take n) (data.take (n * W)) ends (.slice na n nc) (.slice da (n * W) dc) (.slice ea en ec) w) := by
  subst hnn
  subst hdn
  have hs1 := fun W' => own_slice_to h.nulls Try.underlying113 (q := 1) (by kernel_rfl) hn W'
  have hs2 := fun W' => own_slice_to h.data Try.underlying37 (q := 1) (by kernel_rfl) hd W'
  obtain ⟨T1, T2⟩ := h.turn_nulls (own_front h.nulls hn)
  obtain ⟨a0, a1, a2, a3, a4, a5⟩ := box6 h.blk
  have hbl := lt_of_blk h.blk
  have hf0 := fun k => frozen_blk (k := k) h.blk
  have H0 := Aside.mk h
  have H1 := Aside.mk T1
  have K1 := Aside.mk T2
  clear h T1 T2
  have ta1 := assert_running
  have ta2 := assert_fixed
  generalize hnn : nulls.length = nn at *
  generalize hdn : data.length = dn at *
  have HNN := Aside.mk hnn
  have HDN := Aside.mk hdn
  clear hnn hdn
  have hmul : IntKind.i64.wrap ((n : Int) * (W : Int)) = ((n * W : Nat) : Int) := by
    have e : (n : Int) * (W : Int) = ((n * W : Nat) : Int) := by simp
    rw [e]
    exact IntWalk.i64_in _ (by omega)
  generalize n * W = m at *
  go_enter Try.func29, Try.ntmps29
  go_wp2_with (first | (go_at_call 57; refine (of_fixed k s h1 h2 _).mono ?_; rintro e w1 ⟨rfl, rfl⟩; rw [hW]))
  have B3 := Aside.mk (show Below (w.setCell ⟨bl, 2, none⟩ (.slice na n nc)).heap.size (w.setCell ⟨bl, 2, none⟩ (.slice na n nc)) (((w.setCell ⟨bl, 2, none⟩ (.slice na n nc)).alloc (.cells #[.int .i64 k, .int .i64 s] 23)).alloc (.cells #[.int .i64 (W : Int)] 128)) from ((Below.refl _ _).alloc (Nat.le_refl _) _).alloc (by simp) _)
  have hx3 := Aside.mk (show (((w.setCell ⟨bl, 2, none⟩ (.slice na n nc)).alloc (.cells #[.int .i64 k, .int .i64 s] 23)).alloc (.cells #[.int .i64 (W : Int)] 128)).heap[w.heap.size + 1]? = some (.cells #[.int .i64 (W : Int)] 128 (0, 0)) from by
    simpa using heap_alloc_new ((w.setCell ⟨bl, 2, none⟩ (.slice na n nc)).alloc (.cells #[.int .i64 k, .int .i64 s] 23)) (.cells #[.int .i64 (W : Int)] 128))
  generalize (((w.setCell ⟨bl, 2, none⟩ (.slice na n nc)).alloc (.cells #[.int .i64 k, .int .i64 s] 23)).alloc (.cells #[.int .i64 (W : Int)] 128)) = w3 at *
  have H3 := Aside.mk (H1.out.below B3.out)
  have K3 := Aside.mk (K1.out.trans (Kept.of_below (S := fun b => b = bl) B3.out) (fun _ e _ => e))
  have hf3 := fun k => frozen_blk (k := k) H3.out.blk
  clear a0 a1 a2 a3 a4 a5 hf0
  obtain ⟨a0, a1, a2, a3, a4, a5⟩ := box6 H3.out.blk
  have hx := cell_blk (k := 0) hx3.out
  simp at hx
  have HF := Aside.mk (H3.out.turn_data (dv' := .slice da m dc) (data' := data.take m) (own_front (n := dn) (by have := H3.out.data; rw [HDN.out] at this; exact this) hd))
  go_region
  go_wp2
  go_ret
  refine ⟨rfl, (HF.out.1).drewN 1, ?_⟩
  exact K3.out.trans (HF.out.2.trans (Kept.of_below (S := fun b => b = bl) (below_drewN _ _ 1)) (fun _ e _ => e)) (fun _ e _ => e)

theorem back_running (bl lw : Nat) (s : Int) (nulls : List Bool) (data ends : List Int) (na da ea : Option Addr) (nn nc dn dc en ec : Nat) (hnn : nulls.length = nn) (hdn : data.length = dn) (hen : ends.length = en) (n m : Nat) (hn : n ≤ nn) (hne : n ≤ en) (hd : m ≤ dn) (ha : aheadI (ends.take n) n = (m : Int)) (hl : dn ≤ 100000000) (hl2 : nn ≤ 100000000) (hl3 : en ≤ 100000000) (w : World)
    (h : IsB w bl lw 0 15 s nulls data ends (.slice na nn nc) (.slice da dn dc) (.slice ea en ec)) :
    Calls Try.prog 29 #[.pointer (some ⟨bl, 0, none⟩), .int .i64 (n : Int)] w (BackP bl lw 15 s (nulls.take n) (data.take m) (ends.take n) (.slice na n nc) (.slice da m dc) (.slice ea n ec) w) := by
  subst hnn
  subst hdn
  subst hen
  have hs1 := fun W' => own_slice_to h.nulls Try.underlying113 (q := 1) (by kernel_rfl) hn W'
  have hs2 := fun W' => own_slice_to h.data Try.underlying37 (q := 1) (by kernel_rfl) hd W'
  have hs3 := fun W' => own_slice_to h.ends Try.underlying40 (q := 1) (by kernel_rfl) hne W'
  obtain ⟨T1, T2⟩ := h.turn_nulls (own_front h.nulls hn)
  obtain ⟨a0, a1, a2, a3, a4, a5⟩ := box6 h.blk
  have hf0 := fun k => frozen_blk (k := k) h.blk
  have H1 := Aside.mk T1
  have K1 := Aside.mk T2
  clear h T1 T2
  have ta1 := assert_running2
  generalize hnn : nulls.length = nn at *
  generalize hdn : data.length = dn at *
  generalize hen : ends.length = en at *
  have HNN := Aside.mk hnn
  have HDN := Aside.mk hdn
  have HEN := Aside.mk hen
  have HA := Aside.mk ha
  clear hnn hdn hen ha
  go_enter Try.func29, Try.ntmps29
  go_wp2_with (go_at_call 57; refine (of_running s _).mono ?_; rintro e w1 ⟨rfl, rfl⟩; clear hf0 a0 a1 a2 a3 a4 a5; have B3 := Aside.mk (below_new (w.setCell ⟨bl, 2, none⟩ (.slice na n nc)) (.cells #[.int .i64 15, .int .i64 s] 23)); generalize ((w.setCell ⟨bl, 2, none⟩ (.slice na n nc)).alloc (.cells #[.int .i64 15, .int .i64 s] 23)) = w3 at *; have H3 := Aside.mk (H1.out.below B3.out); have K3 := Aside.mk (K1.out.trans (Kept.of_below (S := fun b => b = bl) B3.out) (fun _ e _ => e)); have hf3 := fun k => frozen_blk (k := k) H3.out.blk; have hbl3 := lt_of_blk H3.out.blk; obtain ⟨a0, a1, a2, a3, a4, a5⟩ := box6 H3.out.blk)
  obtain ⟨T3, T4⟩ := H3.out.turn_ends (ev' := .slice ea n ec) (ends' := ends.take n) (own_front (n := en) (by have := H3.out.ends; rw [HEN.out] at this; exact this) hne)
  have B4 := Aside.mk (below_new (w3.setCell ⟨bl, 4, none⟩ (.slice ea n ec)) (.cells #[] 125))
  have K4 := Aside.mk (K3.out.trans T4 (fun _ e _ => e))
  have H4 := Aside.mk (T3.below B4.out)
  clear T3 T4 a0 a1 a2 a3 a4 a5 hbl3
  generalize ((w3.setCell ⟨bl, 4, none⟩ (.slice ea n ec)).alloc (.cells #[] 125)) = w4 at *
  replace K4 := Aside.mk (K4.out.trans (Kept.of_below (S := fun b => b = bl) B4.out) (fun _ e _ => e))
  obtain ⟨a0, a1, a2, a3, a4, a5⟩ := box6 H4.out.blk
  have hlt : (ends.take n).length = n := by have := HEN.out; rw [List.length_take]; omega
  have HC := Aside.mk (show Calls Try.prog 69 #[.agg #[.int .i64 0, .int .i64 0, .int .i64 0, .int .i64 0, .slice none 0 0, .slice none 0 0, .slice ea n ec, .slice none 0 0], .int .i64 (n : Int)] w4.drew (IntP (m : Int) w4.drew) from by
    have := cahead_any ⟨0, 0, 0, 0, [], [], ends.take n, []⟩ ⟨none, 0⟩ ⟨none, 0⟩ ⟨ea, ec⟩ ⟨none, 0⟩ n (by show n ≤ (ends.take n).length; omega) (by show (ends.take n).length ≤ _; omega) w4.drew (by
      have := (H4.out.ends.rd).below (below_drewN w4 _ 1)
      rw [hlt] at this
      show Rd w4.drew 1 (.slice ea (ends.take n).length ec) (ends.take n).length _
      rw [hlt]; exact this)
    dsimp only [colV] at this
    rw [hlt, HA.out] at this
    exact this)
  clear hlt
  go_region_law ((refine step_call (P := Try.prog) w4.drew (by rfl) 69 [.tmp 57, .tmp 58] _ (by rfl) [.agg #[.int .i64 0, .int .i64 0, .int .i64 0, .int .i64 0, .slice none 0 0, .slice none 0 0, .slice ea n ec, .slice none 0 0], .int .i64 (n : Int)] (by rfl) (fun _ _ => rfl) HC.out ?_; rintro e wc ⟨rfl, hbc⟩; have HBC := Aside.mk (show Below w4.heap.size w4 wc from (below_drewN w4 _ 1).trans hbc); have HX := Aside.mk (H4.out.below HBC.out); obtain ⟨d0, d1, d2, d3, d4, d5⟩ := box6 HX.out.blk; have hf5 := fun k => frozen_blk (k := k) HX.out.blk; clear hbc; refine ⟨_, rfl, ?_⟩))
  all_goals
    obtain ⟨T5, T6⟩ := HX.out.turn_data (dv' := .slice da m dc) (data' := data.take m) (own_front (n := dn) (by have := HX.out.data; rw [HDN.out] at this; exact this) hd)
    have HF := Aside.mk (And.intro T5 T6)
    clear T5 T6
    go_wp2
    go_ret
    refine ⟨rfl, HF.out.1, ?_⟩
    exact (K4.out.trans (Kept.of_below (S := fun b => b = bl) HBC.out) (fun _ e _ => e)).trans HF.out.2 (fun _ e _ => e)

/-- .. and of its words. -/
def BackCP (T : Nat → Prop) (bl lw : Nat) (s : Int) (nulls : List Bool) (data ends : List Int) (ws : List (List Int)) (nv dv ev : Value) (w : World) (e : Ending) (w' : World) : Prop :=
  e = .returned (.int .i64 0) ∧ IsB w' bl lw 0 16 s nulls data ends nv dv ev ∧ WL w' T lw ws ∧ Kept (fun b => b = bl ∨ T b) w w'

theorem back_coded (T : Nat → Prop) (ws : List (List Int)) (q : Nat → Nat) (bl lw : Nat) (s : Int) (nulls : List Bool) (data ends : List Int) (na da ea : Option Addr) (nn nc dn dc en ec : Nat) (hnn : nulls.length = nn) (hdn : data.length = dn) (n : Nat) (hn : n ≤ nn) (hd : n * 4 ≤ dn) (hl : dn ≤ 100000000) (hl2 : nn ≤ 100000000) (hb : IsBytes data) (hq0 : q 0 = 0) (hq1 : ∀ i, i < n → nulls[i]? = some true → q (i + 1) = q i) (hq2 : ∀ i, i < n → nulls[i]? = some false → q (i + 1) = max (q i) (wordAt (data.take (n * 4)) (i * 4) 4 + 1) ∧ wordAt (data.take (n * 4)) (i * 4) 4 ≤ 100000000) (hq3 : ∀ i, i ≤ n → q i ≤ ws.length) (hws : ws.length ≤ 100000000) (hwl : ∀ t ∈ ws, t.length ≤ 100000000) (w : World)
    (h : IsB w bl lw 0 16 s nulls data ends (.slice na nn nc) (.slice da dn dc) (.slice ea en ec)) (hL : WL w T lw ws) (hT : ∀ b, T b → b ≠ bl ∧ (Value.slice na 0 0).ownBlock ≠ some b ∧ (Value.slice da 0 0).ownBlock ≠ some b ∧ (Value.slice ea 0 0).ownBlock ≠ some b) :
    Calls Try.prog 29 #[.pointer (some ⟨bl, 0, none⟩), .int .i64 (n : Int)] w (BackCP T bl lw s (nulls.take n) (data.take (n * 4)) ends (ws.take (q n)) (.slice na n nc) (.slice da (n * 4) dc) (.slice ea en ec) w) := by
  subst hnn
  subst hdn
  have hs1 := fun W' => own_slice_to h.nulls Try.underlying113 (q := 1) (by kernel_rfl) hn W'
  have hs2 := fun W' => own_slice_to h.data Try.underlying37 (q := 1) (by kernel_rfl) hd W'
  obtain ⟨T1, T2⟩ := h.turn_nulls (own_front h.nulls hn)
  obtain ⟨a0, a1, a2, a3, a4, a5⟩ := box6 h.blk
  have hbl := lt_of_blk h.blk
  have hf0 := fun k => frozen_blk (k := k) h.blk
  have H0 := Aside.mk h
  have H1 := Aside.mk T1
  have K1 := Aside.mk T2
  clear h T1 T2
  have HQ1 := Aside.mk hq1
  have HQ2 := Aside.mk hq2
  have HQ3 := Aside.mk hq3
  have HL := Aside.mk hL
  have HT := Aside.mk hT
  have HB := Aside.mk hb
  have HWL := Aside.mk hwl
  clear hq1 hq2 hq3 hL hT hb hwl
  have ta1 := assert_running3
  have ta2 := assert_fixed3
  have ta3 := assert_coded3
  generalize hnn : nulls.length = nn at *
  generalize hdn : data.length = dn at *
  have HNN := Aside.mk hnn
  have HDN := Aside.mk hdn
  clear hnn hdn
  have hmul : IntKind.i64.wrap ((n : Int) * 4) = ((n * 4 : Nat) : Int) := by
    have e : (n : Int) * 4 = ((n * 4 : Nat) : Int) := by simp
    rw [e]
    exact IntWalk.i64_in _ (by omega)
  have hmul0 : (n : Int) * 4 = ((n * 4 : Nat) : Int) := by simp
  generalize hm4 : n * 4 = m at *
  have HM := Aside.mk hm4
  clear hm4
  go_enter Try.func29, Try.ntmps29
  go_wp2_with (first | (go_at_call 57; refine (of_coded s _).mono ?_; rintro e w1 ⟨rfl, rfl⟩))
  have B3 := Aside.mk (show Below (w.setCell ⟨bl, 2, none⟩ (.slice na n nc)).heap.size (w.setCell ⟨bl, 2, none⟩ (.slice na n nc)) (((w.setCell ⟨bl, 2, none⟩ (.slice na n nc)).alloc (.cells #[  .int .i64 16, .int .i64 s] 23)).alloc (.cells #[.int .i64 4] 130)) from ((Below.refl _ _).alloc (Nat.le_refl _) _).alloc (by simp) _)
  have hx3 := Aside.mk (show (((w.setCell ⟨bl, 2, none⟩ (.slice na n nc)).alloc (.cells #[  .int .i64 16, .int .i64 s] 23)).alloc (.cells #[.int .i64 4] 130)).heap[w.heap.size + 1]? = some (.cells #[.int .i64 4] 130 (0, 0)) from by
    simpa using heap_alloc_new ((w.setCell ⟨bl, 2, none⟩ (.slice na n nc)).alloc (.cells #[  .int .i64 16, .int .i64 s] 23)) (.cells #[.int .i64 4] 130))
  generalize (((w.setCell ⟨bl, 2, none⟩ (.slice na n nc)).alloc (.cells #[  .int .i64 16, .int .i64 s] 23)).alloc (.cells #[.int .i64 4] 130)) = w3 at *
  have H3 := Aside.mk (H1.out.below B3.out)
  have K3 := Aside.mk (K1.out.trans (Kept.of_below (S := fun b => b = bl) B3.out) (fun _ e _ => e))
  have hf3 := fun k => frozen_blk (k := k) H3.out.blk
  clear a0 a1 a2 a3 a4 a5 hf0
  obtain ⟨a0, a1, a2, a3, a4, a5⟩ := box6 H3.out.blk
  have hx := cell_blk (k := 0) hx3.out
  simp at hx
  have HF := Aside.mk (H3.out.turn_data (dv' := .slice da m dc) (data' := data.take m) (own_front (n := dn) (by have := H3.out.data; rw [HDN.out] at this; exact this) hd))
  go_region
  have H5 := Aside.mk ((HF.out.1).drewN 1)
  have K5 := Aside.mk (K3.out.trans (HF.out.2.trans (Kept.of_below (S := fun b => b = bl) (below_drewN _ _ 1)) (fun _ e _ => e)) (fun _ e _ => e))
  have hx5 := Aside.mk (show ((w3.setCell ⟨bl, 3, none⟩ (.slice da m dc)).drew).heap[w.heap.size + 1]? = some (.cells #[.int .i64 4] 130 (0, 0)) from by
    show (w3.setCell ⟨bl, 3, none⟩ (.slice da m dc)).heap[w.heap.size + 1]? = _
    rw [Below.heap_setCell _ _ _ _ (by simp; omega)]
    exact hx3.out)
  have e1 : ∀ W : World, W.drewN 1 = W.drew := fun _ => rfl
  rw [e1] at H5 K5
  clear HF H3 K3 hx3 B3 hf3 a0 a1 a2 a3 a4 a5 hx e1
  generalize (w3.setCell ⟨bl, 3, none⟩ (.slice da m dc)).drew = w5 at *
  obtain ⟨a0, a1, a2, a3, a4, a5⟩ := box6 H5.out.blk
  go_wp2_with fail
  have hm8 : m ≤ 100000000 := by omega
  clear a0 a1 a2 a3 a4 a5 hs1 hs2 ta1 ta2 ta3 hmul hmul0
  go_loopw [8, 99] (fun qv iv wr => ∃ i : Nat, i ≤ n ∧ iv = .int .i64 (i : Int) ∧ qv = .int .i64 (q i : Int) ∧ Aside (Below w5.heap.size w5 wr)) (fun _ iv _ => n - (intOf iv).toNat)
  case atStart => exact ⟨0, by omega, rfl, by rw [hq0]; rfl, ⟨Below.refl _ _⟩⟩
  case round =>
    obtain ⟨i, hi, rfl, rfl, hp⟩ := hrel
    have HR := Aside.mk (H5.out.below hp.out)
    obtain ⟨a0, a1, a2, a3, a4, a5⟩ := box6 HR.out.blk
    by_cases hlt : i < n
    · have hnl : (nulls.take n).length = n := by have := HNN.out; rw [List.length_take]; omega
      have hrn := HR.out.nulls.rd
      rw [hnl] at hrn
      obtain ⟨g, off, cap, e, hl1, hl2', hcc⟩ := hrn.some_ (by rw [List.length_map]; omega)
      simp only [Value.slice.injEq, true_and] at e
      obtain ⟨e1, e2⟩ := e
      subst e1 e2
      have hil : i < nulls.length := by have := HNN.out; omega
      have hci : wr.cell? ⟨g, off + i, none⟩ = some (.bool nulls[i]) := hcc i _ (by rw [List.getElem?_map, List.getElem?_take, if_pos hlt, List.getElem?_eq_getElem hil]; rfl)
      have hgi : nulls[i]? = some nulls[i] := List.getElem?_eq_getElem hil
      clear hcc hrn
      generalize nulls[i] = bv at *
      cases bv with
      | true =>
        have HE := Aside.mk (HQ1.out i hlt hgi)
        clear hgi
        go_wp2_with fail
        exact ⟨⟨i + 1, by omega, by simp, by rw [HE.out], hp⟩, by simp [intOf]; omega⟩
      | false =>
        obtain ⟨he1, he2⟩ := HQ2.out i hlt hgi
        have HE := Aside.mk he1
        have hxb := (hp.out.block _ (lt_of_blk hx5.out)).trans hx5.out
        have hx0 := cell_blk (k := 0) hxb
        simp at hx0
        have hdl : (data.take m).length = m := by have := HDN.out; rw [List.length_take]; omega
        have HC := Aside.mk (show Calls Try.prog 70 #[.agg #[.int .i64 4], .agg #[.int .i64 0, .int .i64 0, .int .i64 0, .int .i64 0, .slice none 0 0, .slice da m dc, .slice none 0 0, .slice none 0 0], .int .i64 (i : Int)] wr.drew (U64P (wordAt (data.take m) (i * 4) 4) wr.drew) from by
          have := fword_any 4 (.inr (.inr (.inl rfl))) ⟨0, 0, 0, 0, [], data.take m, [], []⟩ ⟨none, 0⟩ ⟨da, dc⟩ ⟨none, 0⟩ ⟨none, 0⟩ i (by show i * 4 + 4 ≤ (data.take m).length; have := HM.out; omega) (fun x hx => HB.out x (List.mem_of_mem_take hx)) (by show (data.take m).length ≤ _; omega) wr.drew (by
            have := (HR.out.data.rd).below (below_drewN wr _ 1)
            rw [hdl] at this
            show Rd wr.drew 1 (.slice da (data.take m).length dc) (data.take m).length _
            rw [hdl]; exact this)
          dsimp only [colV] at this
          rw [hdl] at this
          exact this)
        generalize wordAt (data.take m) (i * 4) 4 = y at *
        have hwr : IntKind.i64.wrap (y : Int) = (y : Int) := IntWalk.i64_in _ (by omega)
        have hws2 : IntKind.i64.wrap ((y : Int) + 1) = (y : Int) + 1 := IntWalk.i64_in _ (by omega)
        have hq8 := HQ3.out i hi
        clear he1 hgi hdl hnl
        go_wp2_with fail
        go_region_law ((refine step_call (P := Try.prog) wr.drew (by rfl) 70 [.tmp 108, .tmp 113, .tmp 114] _ (by rfl) [.agg #[.int .i64 4], .agg #[.int .i64 0, .int .i64 0, .int .i64 0, .int .i64 0, .slice none 0 0, .slice da m dc, .slice none 0 0, .slice none 0 0], .int .i64 (i : Int)] (by rfl) (fun _ _ => rfl) HC.out ?_; rintro e wc ⟨rfl, hbc⟩; have HBC := Aside.mk (show Below w5.heap.size w5 wc from below_chain (hp.out.trans (below_drewN wr _ 1)) hbc); clear hbc; refine ⟨_, rfl, ?_⟩))
        all_goals
          go_wp2_with fail
          refine ⟨⟨i + 1, by omega, by simp, ?_, HBC⟩, by simp [intOf]; omega⟩
          rw [HE.out]
          congr 1
          split <;> omega
    · have hin : n = i := by omega
      subst hin
      have HDB := Aside.mk (dback_any T lw ws (q n) (HQ3.out n (Nat.le_refl _)) hws HWL.out wr ((HL.out.kept K5.out (fun b hb _ => (HT.out b hb).1)).below hp.out))
      go_wp2_with (go_at_call 71; refine HDB.out.mono ?_; rintro e w7 ⟨rfl, hl7, hk7⟩; have H7 := Aside.mk (And.intro hl7 hk7); clear hl7 hk7)
      go_ret
      have ho : ∀ (a : Option Addr) (x y : Nat), (Value.slice a x y).ownBlock = (Value.slice a 0 0).ownBlock := fun a _ _ => by cases a <;> rfl
      refine ⟨rfl, HR.out.kept H7.out.2 (fun h => (HT.out _ h).1 rfl) (fun b hb h => ?_) H7.out.1.lst, H7.out.1, ?_⟩
      · obtain ⟨_, h2, h3, h4⟩ := HT.out _ h
        rw [ho na, ho da, ho ea] at hb
        rcases hb with e | e | e
        · exact h2 e
        · exact h3 e
        · exact h4 e
      · exact ((K5.out.trans (Kept.of_below (S := fun b => b = bl) hp.out) (fun _ e _ => e)).mono (fun b e _ => .inl e)).trans H7.out.2 (fun b e _ => .inr e)

theorem own_len0 (a : Option Addr) (x y : Nat) : (Value.slice a x y).ownBlock = (Value.slice a 0 0).ownBlock := by cases a <;> rfl
theorem back_BS (S : Nat → Prop) (bl : Nat) (k s : Int) (l : List V) (ho : okType k s = true) (hf : Few l) (hl : ∀ v ∈ l, vOK k s v) (n : Nat) (hn : n ≤ l.length) (w : World) (h : BS w S bl k s (CS.of k l)) :
    Calls Try.prog 29 #[.pointer (some ⟨bl, 0, none⟩), .int .i64 (n : Int)] w (StepP S bl k s (CS.of k (l.take n)) (.int .i64 0) w) := by
  obtain ⟨lw, nv, dv, ev, T, h⟩ := h
  obtain ⟨na, nc, rfl⟩ := h.b.nulls.form
  obtain ⟨da, dc, rfl⟩ := h.b.data.form
  obtain ⟨ea, ec, rfl⟩ := h.b.ends.form
  obtain ⟨s1, s2, s3, s4⟩ := of_sizes k l hf.2
  have hwl := of_words k l hf.2
  obtain ⟨f1, f2, f3, f4⟩ := of_front k l n
  have hll : (l.take n).length = n := by rw [List.length_take]; omega
  have h20 := hf.1
  rw [nulls_len, hll] at f1
  have fin : ∀ (m q : Nat) (e : Ending) (w' : World), (CS.of k l).data.take m = (CS.of k (l.take n)).data → e = .returned (.int .i64 0) → (∃ x, IsB w' bl lw 0 k s ((CS.of k l).nulls.take n) ((CS.of k l).data.take m) (CS.of k (l.take n)).ends (.slice na n nc) (.slice da m dc) (.slice ea x ec)) → WL w' T lw (CS.of k (l.take n)).words → Kept (fun b => b = bl ∨ T b) w w' → StepP S bl k s (CS.of k (l.take n)) (.int .i64 0) w e w' := by
    rintro m q e w' hd rfl ⟨x, hb⟩ hL hk
    rw [hd, ← f1] at hb
    refine ⟨rfl, ⟨lw, _, _, _, T, hb, hL, fun y hy => ?_, .inl h.sb, fun y hy => .inl (h.sn y ?_)⟩, hk.mono (fun b e _ => e.elim (fun e => e ▸ h.sb) (fun e => (h.ts b e).1))⟩
    · obtain ⟨a0, a1, a2, a3, a4, a5⟩ := h.ts y hy
      rw [own_len0] at a3 a4 a5
      exact ⟨.inl a0, Nat.lt_of_lt_of_le a1 hk.size, a2, by rw [own_len0]; exact a3, by rw [own_len0]; exact a4, by rw [own_len0]; exact a5⟩
    · rw [own_len0 na, own_len0 da, own_len0 ea] at hy ⊢
      exact hy
  by_cases h15 : k = 15
  · subst h15
    obtain ⟨r1, r2, r3, r4⟩ := running_len l n hn
    have e1 : (CS.of 15 l).ends.length = l.length := (running_ends l).1
    rw [r1] at f3
    refine (back_running bl lw s (CS.of 15 l).nulls (CS.of 15 l).data (CS.of 15 l).ends na da ea _ nc _ dc _ ec rfl rfl rfl n (CS.of 15 (l.take n)).data.length (by omega) (by omega) (by rw [f2, List.length_take]; omega) (by rw [← f3]; exact r2) (by omega) (by omega) (by omega) w h.b).mono ?_
    rintro e w' ⟨rfl, hb, hk⟩
    refine fin _ 0 _ w' f2.symm rfl ⟨n, by rw [f3]; exact hb⟩ ?_ (hk.mono (fun b e _ => .inl e))
    rw [r3, ← r4]
    exact h.l.kept hk (fun b hb _ e => (h.ts b hb).2.2.1 e)
  by_cases h16 : k = 16
  · subst h16
    obtain ⟨r1, r2, r3⟩ := coded_len (l.take n)
    obtain ⟨t1, t2, t3⟩ := coded_len l
    rw [hll] at r1
    rw [r1] at f2
    refine (back_coded T (CS.of 16 l).words (fun i => (wordsOf [] (l.take i)).length) bl lw s (CS.of 16 l).nulls (CS.of 16 l).data (CS.of 16 l).ends na da ea _ nc _ dc _ ec rfl rfl n (by omega) (by omega) (by omega) (by omega) ?_ rfl ?_ ?_ ?_ (by omega) (fun t ht => Nat.le_trans (hwl t ht) (by decide)) w h.b h.l ?_).mono ?_
    · rw [coded_of]; intro x hx
      obtain ⟨y, _, hx⟩ := List.mem_flatMap.1 hx
      exact lows_bytes _ _ x hx
    · intro i hi hb
      rw [nulls_of, List.getElem?_map, List.getElem?_eq_getElem (by omega)] at hb
      rw [need_step l i (by omega), if_pos (by simpa using hb)]
    · intro i hi hb
      rw [nulls_of, List.getElem?_map, List.getElem?_eq_getElem (by omega)] at hb
      have hb : l[i].null = false := by simpa using hb
      rw [need_step l i (by omega), need_word l n i (by omega) hi hn, hb]
      refine ⟨rfl, ?_⟩
      have := codeOf_le (wordsOf [] (l.take i)) l[i].text
      have h2 := words_len (l.take i) []
      rw [List.length_take] at h2
      simp at h2 ⊢
      omega
    · intro i hi
      rw [t3]
      have := words_pre (l.drop i) (wordsOf [] (l.take i))
      rw [← words_app, List.take_append_drop] at this
      exact this.length_le
    · intro b hb
      obtain ⟨a0, a1, a2, a3, a4, a5⟩ := h.ts b hb
      rw [own_len0] at a3 a4 a5
      exact ⟨a2, a3, a4, a5⟩
    · rintro e w' ⟨rfl, hb, hL, hk⟩
      refine fin _ 0 _ w' f2.symm rfl ⟨_, by rw [r2, ← t2]; exact hb⟩ ?_ hk
      rw [f4, r3]; exact hL
  · obtain ⟨W, hW, _, hW8⟩ := width_pos ho h15
    obtain ⟨r1, r2, r3⟩ := fixed_len h15 h16 hW (l.take n)
    obtain ⟨t1, t2, t3⟩ := fixed_len h15 h16 hW l
    rw [hll] at r1
    rw [r1] at f2
    refine (back_fixed bl lw k s (by simpa using h15) (by simpa using h16) W hW hW8 (CS.of k l).nulls (CS.of k l).data (CS.of k l).ends na da ea _ nc _ dc _ ec rfl rfl n (by omega) (by rw [t1]; exact Nat.mul_le_mul_right _ hn) (by omega) (by omega) w h.b).mono ?_
    rintro e w' ⟨rfl, hb, hk⟩
    refine fin _ 0 _ w' f2.symm rfl ⟨_, by rw [r2, ← t2]; exact hb⟩ ?_ (hk.mono (fun b e _ => .inl e))
    rw [r3, ← t3]
    exact h.l.kept hk (fun b hb _ e => (h.ts b hb).2.2.1 e)
end Go.Proofs.Ytmhjjhaipcgbiaa


/- built: a column value by value. -/
namespace Go.Proofs.Ytmhjjhaipcgbiaa
open Go.RowKit
set_option linter.unusedVariables false
set_option linter.unusedSimpArgs false
set_option maxRecDepth 100000
set_option maxHeartbeats 2000000

def BuiltP (k s : Int) (l : List V) (w : World) (e : Ending) (w' : World) : Prop :=
  ∃ B D E W vals, e = .returned (.tuple #[colV ((CS.of k l).col k s) B D E W, .bool true]) ∧ OwnC w' w.heap.size ((CS.of k l).col k s) B D E W vals ∧ Below w.heap.size w w'
def BuiltIn (k s : Int) (l : List V) (bl i : Nat) (w wr : World) : Prop :=
  BS wr (fun b => w.heap.size + 2 ≤ b) bl k s (CS.of k (l.take i)) ∧ Below w.heap.size w wr ∧ wr.heap[w.heap.size]? = some (.cells #[.int .i64 k, .int .i64 s] 23 (0, 0)) ∧
  wr.heap[w.heap.size + 1]? = some (.cells #[.int .i64 0, .int .i64 0, .int .i64 0, .int .i64 0, .slice none 0 0, .slice none 0 0, .slice none 0 0, .slice none 0 0] 43 (0, 0))

theorem built_next {k s : Int} {l : List V} {bl i : Nat} {w wr w3 : World} {v : V} (hn : CS.of k (l.take (i + 1)) = (CS.of k (l.take i)).add k v) (h : BuiltIn k s l bl i w wr) (hb : BS w3 (fun b => w.heap.size + 2 ≤ b ∨ wr.heap.size ≤ b) bl k s ((CS.of k (l.take i)).add k v)) (hk : Kept (fun b => w.heap.size + 2 ≤ b) wr w3) : BuiltIn k s l bl (i + 1) w w3 := by
  obtain ⟨h1, h2, h3, h4⟩ := h
  have hsz := lt_of_blk h4
  refine ⟨?_, h2.trans (hk.to_below h2.size (fun k h => by omega)), (hk.block _ (lt_of_blk h3) (by omega)).trans h3, (hk.block _ hsz (by omega)).trans h4⟩
  rw [hn]
  exact hb.mono (fun b h _ => by omega)

theorem built_any (k s : Int) (l : List V) (ho : okType k s = true) (hf : Few l) (hl : ∀ v ∈ l, vOK k s v) (A : SL) (w : World) (h : RdVs w A l) :
    Calls Try.prog 18 #[.agg #[.int .i64 k, .int .i64 s], .slice A.a l.length A.c] w (BuiltP k s l w) := by
  obtain ⟨aa, ac⟩ := A
  have HR := Aside.mk h
  have HF := Aside.mk hf
  have HL := Aside.mk hl
  have HO := Aside.mk ho
  have hfl := hf.1
  clear h hf hl ho
  dsimp only
  go_enter Try.func18, Try.ntmps18
  go_wp2_with fail
  have hb1 : Below w.heap.size w ((w.alloc (.cells #[.int .i64 k, .int .i64 s] 23)).alloc (.cells #[.int .i64 0, .int .i64 0, .int .i64 0, .int .i64 0, .slice none 0 0, .slice none 0 0, .slice none 0 0, .slice none 0 0] 43)) := ((Below.refl _ _).alloc (Nat.le_refl _) _).alloc (by simp) _
  have ht1 : ((w.alloc (.cells #[.int .i64 k, .int .i64 s] 23)).alloc (.cells #[.int .i64 0, .int .i64 0, .int .i64 0, .int .i64 0, .slice none 0 0, .slice none 0 0, .slice none 0 0, .slice none 0 0] 43)).heap[w.heap.size]? = some (.cells #[.int .i64 k, .int .i64 s] 23 (0, 0)) := by
    rw [Below.heap_alloc _ _ _ (by simp)]; exact heap_alloc_new w _
  have hr1 : ((w.alloc (.cells #[.int .i64 k, .int .i64 s] 23)).alloc (.cells #[.int .i64 0, .int .i64 0, .int .i64 0, .int .i64 0, .slice none 0 0, .slice none 0 0, .slice none 0 0, .slice none 0 0] 43)).heap[w.heap.size + 1]? = some (.cells #[.int .i64 0, .int .i64 0, .int .i64 0, .int .i64 0, .slice none 0 0, .slice none 0 0, .slice none 0 0, .slice none 0 0] 43 (0, 0)) := by
    simpa using heap_alloc_new (w.alloc (.cells #[.int .i64 k, .int .i64 s] 23)) (.cells #[.int .i64 0, .int .i64 0, .int .i64 0, .int .i64 0, .slice none 0 0, .slice none 0 0, .slice none 0 0, .slice none 0 0] 43)
  have hs1 : ((w.alloc (.cells #[.int .i64 k, .int .i64 s] 23)).alloc (.cells #[.int .i64 0, .int .i64 0, .int .i64 0, .int .i64 0, .slice none 0 0, .slice none 0 0, .slice none 0 0, .slice none 0 0] 43)).heap.size = w.heap.size + 2 := by simp
  generalize ((w.alloc (.cells #[.int .i64 k, .int .i64 s] 23)).alloc (.cells #[.int .i64 0, .int .i64 0, .int .i64 0, .int .i64 0, .slice none 0 0, .slice none 0 0, .slice none 0 0, .slice none 0 0] 43)) = w1 at *
  refine (new_BS k s w1 HO.out).mono ?_
  rintro e w2 ⟨bl, rfl, hbs, hb2⟩
  have HI := Aside.mk (show BuiltIn k s l bl 0 w w2 from ⟨hbs.mono (fun b h _ => by omega), hb1.trans (hb2.mono hb1.size), (hb2.block _ (lt_of_blk ht1)).trans ht1, (hb2.block _ (lt_of_blk hr1)).trans hr1⟩)
  clear hbs hb2 hb1 ht1 hr1 hs1
  go_wp2_with (go_at_call 9; refine (num_any _ _).mono ?_; rintro e wn ⟨rfl, rfl⟩)
  go_loopw [8] (fun iv wr => ∃ i : Nat, i ≤ l.length ∧ iv = .int .i64 (i : Int) ∧ Aside (BuiltIn k s l bl i w wr)) (fun iv _ => l.length - (intOf iv).toNat)
  case atStart => exact ⟨0, by omega, rfl, HI⟩
  case round =>
    clear HI
    obtain ⟨i, hi, rfl, hp⟩ := hrel
    have hc0 := cell_blk (k := 0) hp.out.2.2.1
    have hc1 := cell_blk (k := 1) hp.out.2.2.1
    simp at hc0 hc1
    by_cases hlt : i < l.length
    · obtain ⟨g, off, cap, ta, tc, e1, e2, q1, q2, v0, v1, v2, hrt⟩ := (HR.out.below hp.out.2.1).at hlt
      simp only at e1 e2
      subst e1 e2
      have HRT := Aside.mk hrt
      have HROOM := Aside.mk (of_room HF.out HL.out hlt)
      have HNX := Aside.mk (of_next k l hlt)
      have HV := Aside.mk (HL.out _ (List.getElem_mem hlt))
      clear hrt
      generalize l[i] = v at *
      obtain ⟨vn, vb, vt⟩ := v
      dsimp only at v0 v1 v2 HRT
      cases vn with
      | true =>
        obtain ⟨rfl, rfl⟩ := HV.out.2.2.1 rfl
        have HC := Aside.mk (null_BS _ bl k s _ HROOM.out wr hp.out.1)
        go_wp2_with (first | (go_at_call 53; refine HC.out.mono ?_; rintro e w3 ⟨rfl, hb3, hk3⟩; have HP := Aside.mk (And.intro hb3 hk3); clear hb3 hk3) | (go_at_call 9; refine (num_any _ _).mono ?_; rintro e wn ⟨rfl, rfl⟩))
        exact ⟨⟨i + 1, by omega, by simp, ⟨built_next HNX.out hp.out HP.out.1 HP.out.2⟩⟩, by simp [intOf]; omega⟩
      | false =>
        have hv4 := HV.out.2.2.2 rfl
        cases hwd : wordedB k with
        | true =>
          rw [hwd, if_pos rfl] at hv4
          dsimp only at hv4
          subst hv4
          have HC := Aside.mk (fun (w2 : World) (hb : Below wr.heap.size wr w2) => text_BS _ bl k s _ vt ta tc hwd HROOM.out w2 (hp.out.1.below hb) (HRT.out.below hb))
          have HWD := Aside.mk hwd
          clear hwd
          go_wp2_with (first | (go_at_call 45; refine (worded_any k s _).mono ?_; rintro e wq ⟨rfl, hbq⟩; rw [HWD.out]; have v1q := (hbq.cell (p := ⟨g, off + i * 3 + 1, none⟩) (World.block_lt_of_cell? _ _ v1)).trans v1; have v2q := (hbq.cell (p := ⟨g, off + i * 3 + 2, none⟩) (World.block_lt_of_cell? _ _ v2)).trans v2; have HQ := Aside.mk hbq; clear hbq) | (go_at_call 55; refine (HC.out _ HQ.out).mono ?_; rintro e w3 ⟨rfl, hb3, hk3⟩; have HP := Aside.mk (And.intro hb3 hk3); clear hb3 hk3) | (go_at_call 9; refine (num_any _ _).mono ?_; rintro e wn ⟨rfl, rfl⟩))
          exact ⟨⟨i + 1, by omega, by simp, ⟨built_next HNX.out hp.out (HP.out.1.mono (fun b h _ => h.elim .inl (fun h => .inr (Nat.le_trans HQ.out.size h)))) ((Kept.of_below HQ.out).trans HP.out.2 (fun _ e _ => e))⟩⟩, by simp [intOf]; omega⟩
        | false =>
          rw [hwd, if_neg (by decide)] at hv4
          obtain ⟨hfit, hvt⟩ := hv4
          dsimp only at hfit hvt
          subst hvt
          have HC := Aside.mk (fun (w2 : World) (hb : Below wr.heap.size wr w2) => put_BS _ bl k s _ vb hwd hfit HROOM.out w2 (hp.out.1.below hb))
          have HWD := Aside.mk hwd
          clear hwd hfit
          go_wp2_with (first | (go_at_call 45; refine (worded_any k s _).mono ?_; rintro e wq ⟨rfl, hbq⟩; rw [HWD.out]; have v1q := (hbq.cell (p := ⟨g, off + i * 3 + 1, none⟩) (World.block_lt_of_cell? _ _ v1)).trans v1; have v2q := (hbq.cell (p := ⟨g, off + i * 3 + 2, none⟩) (World.block_lt_of_cell? _ _ v2)).trans v2; have HQ := Aside.mk hbq; clear hbq) | (go_at_call 52; refine (HC.out _ HQ.out).mono ?_; rintro e w3 ⟨rfl, hb3, hk3⟩; have HP := Aside.mk (And.intro hb3 hk3); clear hb3 hk3) | (go_at_call 9; refine (num_any _ _).mono ?_; rintro e wn ⟨rfl, rfl⟩))
          exact ⟨⟨i + 1, by omega, by simp, ⟨built_next HNX.out hp.out (HP.out.1.mono (fun b h _ => h.elim .inl (fun h => .inr (Nat.le_trans HQ.out.size h)))) ((Kept.of_below HQ.out).trans HP.out.2 (fun _ e _ => e))⟩⟩, by simp [intOf]; omega⟩
    · obtain rfl : i = l.length := by omega
      have hp2 := hp.out
      unfold BuiltIn at hp2
      rw [List.take_length] at hp2
      have HP2 := Aside.mk hp2
      obtain ⟨z1, z2, z3, z4⟩ := of_sizes k l HF.out.2
      have HCOL := Aside.mk (column_BS _ bl k s (CS.of k l) (by omega) (by omega) (by omega) (by omega) (fun t ht => Nat.le_trans (of_words k l HF.out.2 t ht) (by decide)) wr hp2.1)
      clear hp2 hc0 hc1 z1 z2 z3 z4
      go_wp2_with (go_at_call 27; refine HCOL.out.mono ?_; rintro e w4 ⟨B, D, E, X, vals, rfl, hoc, hb4⟩; have HOC := Aside.mk hoc; have HB4 := Aside.mk hb4; have hr4 := (hb4.block _ (lt_of_blk HP2.out.2.2.2)).trans HP2.out.2.2.2; obtain ⟨r0, r1, r2, r3, r4, r5, r6, r7⟩ := box8 hr4; have f0 := frozen_blk (k := 0) hr4; have f1 := frozen_blk (k := 1) hr4; have f2 := frozen_blk (k := 2) hr4; have f3 := frozen_blk (k := 3) hr4; have f4 := frozen_blk (k := 4) hr4; have f5 := frozen_blk (k := 5) hr4; have f6 := frozen_blk (k := 6) hr4; have f7 := frozen_blk (k := 7) hr4; have HR4 := Aside.mk hr4; clear hoc hb4 hr4; dsimp only [colV, CS.col])
      refine bodyPost_ret (v := .tuple #[.agg #[.int .i64 k, .int .i64 s, .int .i64 ((CS.of k l).nulls.length : Int), .int .i64 ((CS.of k l).nulls.length : Int), .slice B.a (mof (CS.of k l).nulls).length B.c, .slice D.a (CS.of k l).data.length D.c, .slice E.a (CS.of k l).ends.length E.c, .slice X.a (CS.of k l).words.length X.c], .bool true]) (by simp [results, Try.results18, go_sem, r0, r1, r2, r3, r4, r5, r6, r7]) rfl ?_
      have hsz : w.heap.size + 2 ≤ wr.heap.size := lt_of_blk HP2.out.2.2.2
      have K8 : Kept (fun b => b = w.heap.size + 1) w4 _ := kept8 w4 (w.heap.size + 1) (.int .i64 k) (.int .i64 s) (.int .i64 ((CS.of k l).nulls.length : Int)) (.int .i64 ((CS.of k l).nulls.length : Int)) (.slice B.a (mof (CS.of k l).nulls).length B.c) (.slice D.a (CS.of k l).data.length D.c) (.slice E.a (CS.of k l).ends.length E.c) (.slice X.a (CS.of k l).words.length X.c)
      refine ⟨B, D, E, X, vals, rfl, (HOC.out.kept K8 (fun b h => by omega)).mono (by omega), ?_⟩
      have BF := HP2.out.2.1.trans (HB4.out.mono HP2.out.2.1.size)
      exact BF.trans (K8.to_below BF.size (fun b e => by omega))
end Go.Proofs.Ytmhjjhaipcgbiaa


/- mintagekeep.Twin, mintagekeep.Cut of bytes; noughts fit. -/
namespace Go.Proofs.Ytmhjjhaipcgbiaa
open Go.RowKit
set_option linter.unusedVariables false
set_option linter.unusedSimpArgs false
set_option maxRecDepth 100000
set_option maxHeartbeats 1000000

theorem twin_bytes (xs : List Int) (A : SL) (hl : xs.length ≤ 100000000) (w : World) (h : Rd w 1 (.slice A.a xs.length A.c) xs.length (xs.map (.int .u8))) :
    Calls Try.prog 102 #[.slice A.a xs.length A.c] w fun e w' => ∃ a c, e = .returned (.slice a xs.length c) ∧ Own w' w.heap.size 5 1 (.slice a xs.length c) xs.length (xs.map (.int .u8)) ∧ Below w.heap.size w w' := by
  have HS := Aside.mk (h.src (tx := 37) (P := Try.prog) Try.underlying37 (one_map (fun x : Int => Value.int .u8 x) (fun _ => rfl) xs))
  clear h
  go_enter Try.func102, Try.ntmps102
  go_wp2_with (at_builtin; refine wpList_app _ rfl _ _ 37 37 rfl w.heap.size 5 (.int .u8 0) 1 1 Try.underlying37 u8info rfl _ _ _ rfl (Own.nil w w.heap.size 5 1) _ xs.length (xs.map (.int .u8)) rfl HS.out (by unfold maxLen; omega) (by omega) (Nat.le_refl _) ?_)
  intro v' w5 hown' hgrow _ hat
  obtain ⟨a5, c5, rfl⟩ := hown'.form
  have HO := Aside.mk hown'
  have HB := Aside.mk (below_of_grown hgrow (Nat.le_refl _) (fun k e => by cases e))
  clear hown' hgrow hat
  go_wp2
  go_ret
  refine ⟨a5, c5, ?_, ?_, HB.out⟩
  · simp
  · simpa using HO.out

theorem cut_bytes (xs : List Int) (A : SL) (hl : xs.length ≤ 9223372036854775807) (w : World) (h : Rd w 1 (.slice A.a xs.length A.c) xs.length (xs.map (.int .u8))) :
    Calls Try.prog 103 #[.slice A.a xs.length A.c, .int .i64 40] w fun e w' => ∃ a c, e = .returned (.slice a (xs.take 40).length c) ∧ Rd w 1 (.slice a (xs.take 40).length c) (xs.take 40).length ((xs.take 40).map (.int .u8)) ∧ w = w' := by
  by_cases h40 : 40 < xs.length
  · obtain ⟨g, off, cap, e, h1, h2, hc⟩ := h.some_ (by rw [List.length_map]; omega)
    obtain ⟨aa, ac⟩ := A
    simp only [Value.slice.injEq, true_and] at e
    obtain ⟨rfl, rfl⟩ := e
    have HT := Aside.mk (rd_cut (i := 0) (j := 40) h (by omega) (by omega))
    have hlen : (xs.take 40).length = 40 := by rw [List.length_take]; omega
    rw [hlen]
    clear h hc hlen
    generalize hn : xs.length = n at *
    have HN := Aside.mk hn
    clear hn
    go_enter Try.func103, Try.ntmps103
    go_wp2
    go_ret
    refine ⟨_, _, rfl, ?_, rfl⟩
    have := HT.out
    simpa [List.map_take] using this
  · have e : xs.take 40 = xs := List.take_of_length_le (by omega)
    have HR := Aside.mk h
    rw [e]
    clear h e
    generalize hn : xs.length = n at *
    clear hn
    go_enter Try.func103, Try.ntmps103
    go_wp2
    go_ret
    exact ⟨_, _, rfl, HR.out, rfl⟩

/-- Noughts fit wherever there are bits. -/
theorem fits_zero {k s : Int} (h : okType k s = true) (hw : wordedB k = false) : fitsB k s 0 = true := by
  unfold fitsB
  rw [h]
  unfold okType at h
  simp only [decide_eq_true_eq] at h
  unfold wordedB at hw
  simp only [Bool.or_eq_false_iff, beq_eq_false_iff_ne] at hw
  have hk : k = 1 ∨ k = 2 ∨ k = 3 ∨ k = 4 ∨ k = 5 ∨ k = 6 ∨ k = 7 ∨ k = 8 ∨ k = 9 ∨ k = 10 ∨ k = 11 ∨ k = 12 ∨ k = 13 ∨ k = 14 := by omega
  rcases hk with rfl | rfl | rfl | rfl | rfl | rfl | rfl | rfl | rfl | rfl | rfl | rfl | rfl | rfl
  all_goals first | decide | (have hz : asInt 0 = 0 := by kernel_rfl
                              simp [bitsOK, decOK, dayOK, momOK, hz])
end Go.Proofs.Ytmhjjhaipcgbiaa


/- Fit: a value of a type, out of any. -/
namespace Go.Proofs.Ytmhjjhaipcgbiaa
open Go.RowKit
set_option linter.unusedVariables false
set_option linter.unusedSimpArgs false
set_option maxRecDepth 100000
set_option maxHeartbeats 2000000

/-- A value of the type, its text in new memory. -/
def FitV (k s : Int) (w : World) (e : Ending) (w' : World) : Prop :=
  ∃ (v : V) (a : Option Addr) (c : Nat), e = .returned (.agg #[.bool v.null, .int .u64 (v.bits : Int), .slice a v.text.length c]) ∧ vOK k s v ∧ v.text.length ≤ 40 ∧ Own w' w.heap.size 5 1 (.slice a v.text.length c) v.text.length (v.text.map (.int .u8)) ∧ Below w.heap.size w w'

theorem fit_four (w : World) (x1 x2 x3 x4 : Array Value) (t1 t2 t3 t4 : TypeId) :
    Below w.heap.size w ((((w.alloc (.cells x1 t1)).alloc (.cells x2 t2)).alloc (.cells x3 t3)).alloc (.cells x4 t4)) ∧
    ((((w.alloc (.cells x1 t1)).alloc (.cells x2 t2)).alloc (.cells x3 t3)).alloc (.cells x4 t4)).heap[w.heap.size]? = some (.cells x1 t1 (0, 0)) ∧
    ((((w.alloc (.cells x1 t1)).alloc (.cells x2 t2)).alloc (.cells x3 t3)).alloc (.cells x4 t4)).heap[w.heap.size + 1]? = some (.cells x2 t2 (0, 0)) ∧
    ((((w.alloc (.cells x1 t1)).alloc (.cells x2 t2)).alloc (.cells x3 t3)).alloc (.cells x4 t4)).heap[w.heap.size + 1 + 1]? = some (.cells x3 t3 (0, 0)) ∧
    ((((w.alloc (.cells x1 t1)).alloc (.cells x2 t2)).alloc (.cells x3 t3)).alloc (.cells x4 t4)).heap[w.heap.size + 1 + 1 + 1]? = some (.cells x4 t4 (0, 0)) := by
  obtain ⟨b3, h1, h2, h3, hs⟩ := three_new w x1 x2 x3 t1 t2 t3
  refine ⟨b3.alloc (by omega) _, ?_, ?_, ?_, ?_⟩
  · rw [Below.heap_alloc _ _ _ (by omega)]; exact h1
  · rw [Below.heap_alloc _ _ _ (by omega)]; exact h2
  · rw [Below.heap_alloc _ _ _ (by omega)]; exact h3
  · have := heap_alloc_new (((w.alloc (.cells x1 t1)).alloc (.cells x2 t2)).alloc (.cells x3 t3)) (.cells x4 t4)
    rw [hs] at this
    exact this

/-- The four blocks of Fit, x's as it is now. -/
def FitIn (k s : Int) (xs : List Int) (A : SL) (b0 b : Nat) (tv : Value) (w wr : World) : Prop :=
  Below w.heap.size w wr ∧ wr.heap[w.heap.size]? = some (.cells #[.int .i64 k, .int .i64 s] 23 (0, 0)) ∧ wr.heap[w.heap.size + 1]? = some (.cells #[.bool false, .int .u64 (b0 : Int), .slice A.a xs.length A.c] 98 (0, 0)) ∧
  wr.heap[w.heap.size + 1 + 1]? = some (.cells #[.bool false, .int .u64 0, .slice none 0 0] 49 (0, 0)) ∧ wr.heap[w.heap.size + 1 + 1 + 1]? = some (.cells #[.bool false, .int .u64 (b : Int), tv] 49 (0, 0))
theorem FitIn.below {k s : Int} {xs : List Int} {A : SL} {b0 b : Nat} {tv : Value} {w wr w2 : World} (h : FitIn k s xs A b0 b tv w wr) (hb : Below wr.heap.size wr w2) : FitIn k s xs A b0 b tv w w2 := by
  obtain ⟨h1, h2, h3, h4, h5⟩ := h
  exact ⟨h1.trans (hb.mono h1.size), (hb.block _ (lt_of_blk h2)).trans h2, (hb.block _ (lt_of_blk h3)).trans h3, (hb.block _ (lt_of_blk h4)).trans h4, (hb.block _ (lt_of_blk h5)).trans h5⟩
theorem FitIn.setBits {k s : Int} {xs : List Int} {A : SL} {b0 b b2 : Nat} {tv : Value} {w wr : World} (h : FitIn k s xs A b0 b tv w wr) : FitIn k s xs A b0 b2 tv w (wr.setCell ⟨w.heap.size + 1 + 1 + 1, 1, none⟩ (.int .u64 (b2 : Int))) := by
  obtain ⟨h1, h2, h3, h4, h5⟩ := h
  refine ⟨h1.setCell (by simp; omega) _, ?_, ?_, ?_, ?_⟩
  · rw [Below.heap_setCell _ _ _ _ (by simp; omega)]; exact h2
  · rw [Below.heap_setCell _ _ _ _ (by simp)]; exact h3
  · rw [Below.heap_setCell _ _ _ _ (by simp)]; exact h4
  · have := heap_setCell_at (k := 1) h5 (.int .u64 (b2 : Int))
    simpa using this
theorem fit_cells {k s : Int} {xs : List Int} {A : SL} {b0 b : Nat} {tv : Value} {w wr : World} (h : FitIn k s xs A b0 b tv w wr) :
    wr.cell? ⟨w.heap.size, 0, none⟩ = some (.int .i64 k) ∧ wr.cell? ⟨w.heap.size, 1, none⟩ = some (.int .i64 s) ∧ wr.cell? ⟨w.heap.size + 1, 1, none⟩ = some (.int .u64 (b0 : Int)) ∧ wr.cell? ⟨w.heap.size + 1, 2, none⟩ = some (.slice A.a xs.length A.c) ∧
    wr.cell? ⟨w.heap.size + 1 + 1, 0, none⟩ = some (.bool false) ∧ wr.cell? ⟨w.heap.size + 1 + 1, 1, none⟩ = some (.int .u64 0) ∧ wr.cell? ⟨w.heap.size + 1 + 1, 2, none⟩ = some (.slice none 0 0) ∧
    wr.cell? ⟨w.heap.size + 1 + 1 + 1, 0, none⟩ = some (.bool false) ∧ wr.cell? ⟨w.heap.size + 1 + 1 + 1, 1, none⟩ = some (.int .u64 (b : Int)) ∧ wr.cell? ⟨w.heap.size + 1 + 1 + 1, 2, none⟩ = some tv ∧
    (∀ n, wr.frozen? ⟨w.heap.size + 1 + 1, n, none⟩ = false) ∧ (∀ n, wr.frozen? ⟨w.heap.size + 1 + 1 + 1, n, none⟩ = false) := by
  obtain ⟨h1, h2, h3, h4, h5⟩ := h
  refine ⟨?_, ?_, ?_, ?_, ?_, ?_, ?_, ?_, ?_, ?_, fun n => frozen_blk h4, fun n => frozen_blk h5⟩
  · rw [cell_blk h2]; rfl
  · rw [cell_blk h2]; rfl
  · rw [cell_blk h3]; rfl
  · rw [cell_blk h3]; rfl
  · rw [cell_blk h4]; rfl
  · rw [cell_blk h4]; rfl
  · rw [cell_blk h4]; rfl
  · rw [cell_blk h5]; rfl
  · rw [cell_blk h5]; rfl
  · rw [cell_blk h5]; rfl

theorem fit_any (k s : Int) (ho : okType k s = true) (nl : Bool) (b : Nat) (hb : b < 18446744073709551616) (xs : List Int) (hx : IsBytes xs) (A : SL) (hl : xs.length ≤ 9223372036854775807) (w : World) (h : Rd w 1 (.slice A.a xs.length A.c) xs.length (xs.map (.int .u8))) :
    Calls Try.prog 54 #[.agg #[.int .i64 k, .int .i64 s], .agg #[.bool nl, .int .u64 (b : Int), .slice A.a xs.length A.c]] w (FitV k s w) := by
  have HR := Aside.mk h
  have HO := Aside.mk ho
  have HX := Aside.mk hx
  clear h ho hx
  cases nl with
  | true =>
    go_enter Try.func54, Try.ntmps54
    go_wp2
    refine bodyPost_ret (v := .agg #[.bool true, .int .u64 0, .slice none 0 0]) (by simp [results, Try.results54, go_sem]) rfl ?_
    exact ⟨⟨true, 0, []⟩, none, 0, rfl, ⟨isBytes_nil, (show (0 : Nat) < 18446744073709551616 by decide), (fun _ => ⟨rfl, rfl⟩), (fun h => by cases h)⟩, by simp, Own.nil _ _ _ _, (fit_four w _ _ _ _ _ _ _ _).1⟩
  | false =>
    go_enter Try.func54, Try.ntmps54
    go_wp2_with fail
    have HI := Aside.mk (show FitIn k s xs A b 0 (.slice none 0 0) w ((((w.alloc (.cells #[.int .i64 k, .int .i64 s] 23)).alloc (.cells #[.bool false, .int .u64 (b : Int), .slice A.a xs.length A.c] 98)).alloc (.cells #[.bool false, .int .u64 0, .slice none 0 0] 49)).alloc (.cells #[.bool false, .int .u64 0, .slice none 0 0] 49)) from fit_four w _ _ _ _ _ _ _ _)
    generalize ((((w.alloc (.cells #[.int .i64 k, .int .i64 s] 23)).alloc (.cells #[.bool false, .int .u64 (b : Int), .slice A.a xs.length A.c] 98)).alloc (.cells #[.bool false, .int .u64 0, .slice none 0 0] 49)).alloc (.cells #[.bool false, .int .u64 0, .slice none 0 0] 49)) = w4 at *
    cases hwd : wordedB k with
    | true =>
      have HWD := Aside.mk hwd
      have HTW := Aside.mk (fun (w2 : World) a c h => twin_bytes (xs.take 40) ⟨a, c⟩ (by rw [List.length_take]; omega) w2 h)
      have HCT := Aside.mk (fun (w2 : World) h => cut_bytes xs A hl w2 h)
      have HYB := Aside.mk (show IsBytes (xs.take 40) from fun x hx => HX.out x (List.mem_of_mem_take hx))
      have HYL := Aside.mk (show (xs.take 40).length ≤ 40 by rw [List.length_take]; omega)
      generalize xs.take 40 = ys at *
      clear hwd
      go_wp2_with (first | (go_at_call 45; refine (worded_any k s _).mono ?_; rintro e w5 ⟨rfl, hb5⟩; rw [HWD.out]; replace HI := Aside.mk (HI.out.below hb5); obtain ⟨p0, p1, p2, p3, p4, p5, p6, p7, p8, p9, f1, f2⟩ := fit_cells HI.out; clear hb5) | (go_at_call 103; refine (HCT.out _ (HR.out.below HI.out.1)).mono ?_; rintro e w6 ⟨ca, cc, rfl, hrc, rfl⟩; have HRC := Aside.mk hrc; clear hrc) | (go_at_call 102; refine (HTW.out _ _ _ HRC.out).mono ?_; rintro e w7 ⟨ta, tc, rfl, hot, hb7⟩; have HOT := Aside.mk (hot.mono (base' := w.heap.size + 4) (lt_of_blk HI.out.2.2.2.2)); replace HI := Aside.mk (HI.out.below hb7); clear hot hb7 p0 p1 p2 p3 p4 p5 p6 p7 p8 p9 f1 f2; obtain ⟨p0, p1, p2, p3, p4, p5, p6, p7, p8, p9, f1, f2⟩ := fit_cells HI.out))
      refine bodyPost_ret (v := .agg #[.bool false, .int .u64 0, .slice ta ys.length tc]) (by simp [results, Try.results54, go_sem, p4, p5, p6]) rfl ?_
      have hne : ∀ a, a = w.heap.size + 1 + 1 + 1 ∨ a = w.heap.size + 1 + 1 → Value.ownBlock (.slice ta ys.length tc) ≠ some a := fun a ha e => by have := (HOT.out.lt _ e).1; omega
      refine ⟨⟨false, 0, ys⟩, ta, tc, rfl, ⟨HYB.out, (show (0 : Nat) < 18446744073709551616 by decide), (fun h => by cases h), (fun _ => by rw [HWD.out, if_pos rfl])⟩, HYL.out, ?_, ?_⟩
      · exact ((((HOT.out.set_other (a := ⟨w.heap.size + 1 + 1 + 1, 2, none⟩) (hne _ (.inl rfl)) _).set_other (a := ⟨w.heap.size + 1 + 1, 0, none⟩) (hne _ (.inr rfl)) _).set_other (a := ⟨w.heap.size + 1 + 1, 1, none⟩) (hne _ (.inr rfl)) _).set_other (a := ⟨w.heap.size + 1 + 1, 2, none⟩) (hne _ (.inr rfl)) _).mono (by omega)
      · exact (((HI.out.1.setCell (by simp; omega) _).setCell (by simp; omega) _).setCell (by simp; omega) _).setCell (by simp; omega) _
    | false =>
      have HWD := Aside.mk hwd
      clear hwd
      go_wp2_with (go_at_call 45; refine (worded_any k s _).mono ?_; rintro e w5 ⟨rfl, hb5⟩; rw [HWD.out]; replace HI := Aside.mk (HI.out.below hb5); obtain ⟨p0, p1, p2, p3, p4, p5, p6, p7, p8, p9, f1, f2⟩ := fit_cells HI.out; clear hb5)
      have HI2 := Aside.mk (show FitIn k s xs A b (b / 2 ^ 0) (.slice none 0 0) w (w5.setCell ⟨w.heap.size + 1 + 1 + 1, 1, none⟩ (.int .u64 (b : Int))) from by
        have := HI.out.setBits (b2 := b)
        simpa using this)
      clear HI p0 p1 p2 p3 p4 p5 p6 p7 p8 p9 f1 f2
      go_loopw [6] (fun iv wr => ∃ i : Nat, i ≤ 64 ∧ iv = .int .i64 (i : Int) ∧ Aside (FitIn k s xs A b (b / 2 ^ i) (.slice none 0 0) w wr)) (fun iv _ => 64 - (intOf iv).toNat)
      case atStart => exact ⟨0, by omega, rfl, HI2⟩
      case round =>
        clear HI2
        obtain ⟨i, hi, rfl, HI⟩ := hrel
        obtain ⟨p0, p1, p2, p3, p4, p5, p6, p7, p8, p9, f1, f2⟩ := fit_cells HI.out
        have hlt64 : b / 2 ^ i < 18446744073709551616 := Nat.lt_of_le_of_lt (Nat.div_le_self _ _) hb
        have hnext : b / 2 ^ i / 2 = b / 2 ^ (i + 1) := by rw [Nat.div_div_eq_div_mul, Nat.pow_succ]
        have hzero : i = 64 → b / 2 ^ i = 0 := fun h => by rw [h]; exact Nat.div_eq_of_lt hb
        have HN := Aside.mk hnext
        have HZ := Aside.mk hzero
        clear hnext hzero
        have done_ : fitsB k s ((b / 2 ^ i : Nat) : Int) = true → vOK k s ⟨false, b / 2 ^ i, []⟩ := fun h => ⟨isBytes_nil, hlt64, (fun h => by cases h), fun _ => by rw [HWD.out, if_neg (by decide)]; exact ⟨h, rfl⟩⟩
        have HDN := Aside.mk done_
        clear done_
        generalize hx : b / 2 ^ i = x at *
        clear hx
        by_cases h64 : i < 64
        · cases hfit : fitsB k s (x : Int) with
          | true =>
            have HFT := Aside.mk hfit
            clear hfit
            go_wp2_with (go_at_call 15; refine (r18fits_any k s x (by omega) (by omega) _).mono ?_; rintro e w6 ⟨rfl, hb6⟩; rw [HFT.out]; replace HI := Aside.mk (HI.out.below hb6); clear hb6 p0 p1 p2 p3 p4 p5 p6 p7 p8 p9 f1 f2; obtain ⟨p0, p1, p2, p3, p4, p5, p6, p7, p8, p9, f1, f2⟩ := fit_cells HI.out)
            refine bodyPost_ret (v := .agg #[.bool false, .int .u64 (x : Int), .slice none 0 0]) (by simp [results, Try.results54, go_sem, p4, p5, p6]) rfl ?_
            exact ⟨⟨false, x, []⟩, none, 0, rfl, HDN.out HFT.out, by simp, Own.nil _ _ _ _, ((HI.out.1.setCell (by simp; omega) _).setCell (by simp; omega) _).setCell (by simp; omega) _⟩
          | false =>
            have HFT := Aside.mk hfit
            clear hfit
            go_wp2_with (go_at_call 15; refine (r18fits_any k s x (by omega) (by omega) _).mono ?_; rintro e w6 ⟨rfl, hb6⟩; rw [HFT.out]; replace HI := Aside.mk (HI.out.below hb6); clear hb6 p0 p1 p2 p3 p4 p5 p6 p7 p8 p9 f1 f2; obtain ⟨p0, p1, p2, p3, p4, p5, p6, p7, p8, p9, f1, f2⟩ := fit_cells HI.out)
            have hnx := HI.out.setBits (b2 := b / 2 ^ (i + 1))
            rw [← HN.out] at hnx
            refine ⟨⟨i + 1, by omega, by simp, ⟨?_⟩⟩, by simp [intOf]; omega⟩
            rw [← HN.out]
            simpa using hnx
        · obtain rfl : i = 64 := by omega
          have hx0 := HZ.out rfl
          subst hx0
          have HFT := Aside.mk (fits_zero HO.out HWD.out)
          go_wp2
          refine bodyPost_ret (v := .agg #[.bool false, .int .u64 0, .slice none 0 0]) (by simp [results, Try.results54, go_sem, p4, p5, p6]) rfl ?_
          exact ⟨⟨false, 0, []⟩, none, 0, rfl, HDN.out HFT.out, by simp, Own.nil _ _ _ _, ((HI.out.1.setCell (by simp; omega) _).setCell (by simp; omega) _).setCell (by simp; omega) _⟩
end Go.Proofs.Ytmhjjhaipcgbiaa


/- Fits: values of a type, out of any. -/
namespace Go.Proofs.Ytmhjjhaipcgbiaa
open Go.RowKit
set_option linter.unusedVariables false
set_option linter.unusedSimpArgs false
set_option maxRecDepth 100000
set_option maxHeartbeats 2000000

theorem valinfo : (Try.prog.info? 49).map (fun i => (i.zero, i.size, i.bytes)) = some (some (.agg #[.bool false, .int .u64 0, .slice none 0 0]), 3, 40) := by kernel_rfl

/-- Values in a row of their own, each text in a row of its own. -/
structure OwnVs (w : World) (base : Nat) (A : SL) (l : List V) (xs : List Value) : Prop where
  row : Own w base 49 3 (.slice A.a l.length A.c) l.length xs
  each : ∀ (i : Nat) v, l[i]? = some v → ∃ ta tc, xs[i * 3]? = some (.bool v.null) ∧ xs[i * 3 + 1]? = some (.int .u64 (v.bits : Int)) ∧ xs[i * 3 + 2]? = some (.slice ta v.text.length tc) ∧ Own w base 5 1 (.slice ta v.text.length tc) v.text.length (v.text.map (.int .u8))
theorem OwnVs.rd {w : World} {base : Nat} {A : SL} {l : List V} {xs : List Value} (h : OwnVs w base A l xs) : RdVs w A l :=
  ⟨xs, h.row.rd, fun i v hi => by obtain ⟨ta, tc, a, b, c, d⟩ := h.each i v hi; exact ⟨ta, tc, a, b, c, d.rd⟩⟩
theorem OwnVs.kept {w w' : World} {base : Nat} {A : SL} {l : List V} {xs : List Value} {S : Nat → Prop} (h : OwnVs w base A l xs) (hk : Kept S w w') (hS : ∀ b, base ≤ b → b < w.heap.size → ¬ S b) : OwnVs w' base A l xs :=
  ⟨h.row.kept hk (fun b e => hS b (h.row.lt b e).1 (h.row.lt b e).2), fun i v hi => by obtain ⟨ta, tc, a, b, c, d⟩ := h.each i v hi; exact ⟨ta, tc, a, b, c, d.kept hk (fun x e => hS x (d.lt x e).1 (d.lt x e).2)⟩⟩
theorem OwnVs.below {w w' : World} {base : Nat} {A : SL} {l : List V} {xs : List Value} (h : OwnVs w base A l xs) (hb : Below w.heap.size w w') : OwnVs w' base A l xs :=
  h.kept (Kept.of_below (S := fun _ => False) hb) (fun _ _ _ e => e)

def FitsIn (k s : Int) (a : Option Addr) (c i : Nat) (w wr : World) : Prop :=
  ∃ (l : List V) (xs : List Value), l.length = i ∧ (∀ v ∈ l, vOK k s v ∧ v.text.length ≤ 40) ∧ OwnVs wr (w.heap.size + 1) ⟨a, c⟩ l xs ∧ Below w.heap.size w wr ∧ wr.heap[w.heap.size]? = some (.cells #[.int .i64 k, .int .i64 s] 23 (0, 0))
def FitsLP (k s : Int) (w : World) (e : Ending) (w' : World) : Prop :=
  ∃ (l : List V) (A : SL) (xs : List Value), e = .returned (.slice A.a l.length A.c) ∧ l.length ≤ 120 ∧ (∀ v ∈ l, vOK k s v ∧ v.text.length ≤ 40) ∧ OwnVs w' w.heap.size A l xs ∧ Below w.heap.size w w'

theorem get3 (x0 x1 x2 : Value) : ∀ (j : Nat) (u : Value), [x0, x1, x2][j]? = some u → j = 0 ∧ u = x0 ∨ j = 1 ∧ u = x1 ∨ j = 2 ∧ u = x2
  | 0, u, h => by simp at h; exact .inl ⟨rfl, h.symm⟩
  | 1, u, h => by simp at h; exact .inr (.inl ⟨rfl, h.symm⟩)
  | 2, u, h => by simp at h; exact .inr (.inr ⟨rfl, h.symm⟩)
  | n + 3, u, h => by simp at h

theorem src_val (w : World) (x0 x1 x2 : Value) (h0 : x0.oneCell' = true) (h1 : x1.oneCell' = true) (h2 : x2.oneCell' = true) : Src Try.prog 3 35 (.slice (some ⟨w.heap.size, 0, none⟩) 1 1) 1 [x0, x1, x2] (w.alloc (.cells #[x0, x1, x2] 49)) := by
  refine Src.ofSlice _ Try.underlying35 _ 1 1 [x0, x1, x2] rfl (fun j u hu => ?_) (by simp [h0, h1, h2])
  rw [addr_add, cell_blk (heap_alloc_new w _)]
  rcases get3 x0 x1 x2 j u hu with ⟨rfl, rfl⟩ | ⟨rfl, rfl⟩ | ⟨rfl, rfl⟩ <;> rfl

theorem fits_step {k s : Int} {a a5 : Option Addr} {c c5 i : Nat} {w wr w3 w5 : World} {v : V} {va : Option Addr} {vc : Nat} {xs : List Value} {l : List V} {o : Obj} (hl : l.length = i) (hv : ∀ v ∈ l, vOK k s v ∧ v.text.length ≤ 40) (ho : OwnVs wr (w.heap.size + 1) ⟨a, c⟩ l xs) (hb : Below w.heap.size w wr) (ht : wr.heap[w.heap.size]? = some (.cells #[.int .i64 k, .int .i64 s] 23 (0, 0)))
    (hok : vOK k s v) (h40 : v.text.length ≤ 40) (hb3 : Below wr.heap.size wr w3) (hov : Own w3 wr.heap.size 5 1 (.slice va v.text.length vc) v.text.length (v.text.map (.int .u8)))
    (hg : (w3.alloc o).grownBy w5 (Value.ownBlock (.slice a i c))) (hown : Own w5 (w.heap.size + 1) 49 3 (.slice a5 (i + 1) c5) (i + 1) (xs ++ [.bool v.null, .int .u64 (v.bits : Int), .slice va v.text.length vc])) : FitsIn k s a5 c5 (i + 1) w w5 := by
  have hxl : xs.length = i * 3 := by have := ho.row.1; rw [hl] at this; exact this
  have hsw := lt_of_blk ht
  have hrow : Value.ownBlock (.slice a i c) = Value.ownBlock (.slice a l.length c) := by cases a <;> rfl
  have K : Kept (fun b => Value.ownBlock (.slice a i c) = some b) wr w5 := ((Kept.of_below (S := fun b => Value.ownBlock (.slice a i c) = some b) hb3).trans (Kept.of_below (S := fun b => Value.ownBlock (.slice a i c) = some b) (below_new w3 o)) (fun _ e _ => e)).trans (Kept.of_grown hg) (fun _ e _ => e.symm)
  have K3 : Kept (fun b => Value.ownBlock (.slice a i c) = some b) w3 w5 := (Kept.of_below (S := fun b => Value.ownBlock (.slice a i c) = some b) (below_new w3 o)).trans (Kept.of_grown hg) (fun _ e _ => e.symm)
  have hlt : ∀ b, Value.ownBlock (.slice a i c) = some b → w.heap.size + 1 ≤ b ∧ b < wr.heap.size := fun b e => ho.row.lt b (hrow ▸ e)
  refine ⟨l ++ [v], _, by simp [hl], ?_, ⟨by simpa [hl] using hown, ?_⟩, hb.trans (K.to_below hb.size (fun b e => by have := hlt b e; omega)), (K.block _ hsw (fun e => by have := (hlt _ e).1; omega)).trans ht⟩
  · intro u hu
    rcases List.mem_append.1 hu with h | h
    · exact hv u h
    · simp at h; subst h; exact ⟨hok, h40⟩
  · intro j u hj
    rcases Nat.lt_or_ge j l.length with hlt2 | hge
    · rw [List.getElem?_append_left hlt2] at hj
      obtain ⟨ta, tc, q0, q1, q2, q3⟩ := ho.each j u hj
      refine ⟨ta, tc, ?_, ?_, ?_, q3.kept K (fun b e h => ?_)⟩
      · rw [List.getElem?_append_left (by omega)]; exact q0
      · rw [List.getElem?_append_left (by omega)]; exact q1
      · rw [List.getElem?_append_left (by omega)]; exact q2
      · obtain ⟨cur, hc⟩ := own_blk q3 e
        exact ho.row.blk_ne hc (by decide) (hrow ▸ h)
    · rw [List.getElem?_append_right hge] at hj
      have h0 : j - l.length = 0 := by
        have := (List.getElem?_eq_some_iff.1 hj).1
        simp at this
        omega
      rw [h0] at hj
      simp at hj
      subst hj
      have hj3 : j * 3 = xs.length := by omega
      refine ⟨va, vc, ?_, ?_, ?_, (hov.kept K3 (fun b e h => ?_)).mono (by omega)⟩
      · rw [hj3, List.getElem?_append_right (Nat.le_refl _)]; simp
      · rw [hj3, List.getElem?_append_right (by omega)]; simp
      · rw [hj3, List.getElem?_append_right (by omega)]; simp
      · have := (hov.lt b e).1; have := (hlt b h).2; omega

theorem fits_end {k s : Int} {a : Option Addr} {c i : Nat} {w wr : World} (h : FitsIn k s a c i w wr) (hi : i ≤ 120) : FitsLP k s w (.returned (.slice a i c)) wr := by
  obtain ⟨l, xs, hl, hv, ho, hb, _⟩ := h
  refine ⟨l, ⟨a, c⟩, xs, by rw [hl], by omega, hv, ⟨ho.row.mono (by omega), fun j u hj => ?_⟩, hb⟩
  obtain ⟨ta, tc, q0, q1, q2, q3⟩ := ho.each j u hj
  exact ⟨ta, tc, q0, q1, q2, q3.mono (by omega)⟩

theorem fitsL_any (k s : Int) (ho : okType k s = true) (l : List V) (hl : l.length ≤ 9223372036854775807) (hv : ∀ v ∈ l, IsBytes v.text ∧ v.bits < 18446744073709551616 ∧ v.text.length ≤ 9223372036854775807) (A : SL) (w : World) (h : RdVs w A l) :
    Calls Try.prog 17 #[.agg #[.int .i64 k, .int .i64 s], .slice A.a l.length A.c] w (FitsLP k s w) := by
  obtain ⟨aa, ac⟩ := A
  have HR := Aside.mk h
  have HV := Aside.mk hv
  have HO := Aside.mk ho
  clear h hv ho
  dsimp only
  go_enter Try.func17, Try.ntmps17
  go_wp2
  go_loopw [5, 6] (fun ov iv wr => ∃ (i : Nat) (a : Option Addr) (c : Nat), i ≤ l.length ∧ i ≤ 120 ∧ ov = .slice a i c ∧ iv = .int .i64 (i : Int) ∧ Aside (FitsIn k s a c i w wr)) (fun ov iv _ => l.length - (intOf iv).toNat)
  case atStart => exact ⟨0, none, 0, by omega, by omega, rfl, rfl, ⟨[], [], rfl, fun v hv => (by cases hv), ⟨Own.nil _ _ _ _, fun i v h => by simp at h⟩, below_new w _, heap_alloc_new w _⟩⟩
  case round =>
    obtain ⟨i, a, c, hi, hi2, rfl, rfl, hp⟩ := hrel
    by_cases hlt : i < l.length
    · by_cases h120 : i < 120
      · obtain ⟨lv, xs, hll, hlv, hov, hbl, htb⟩ := hp.out
        obtain ⟨g, off, cap, ta, tc, e1, e2, q1, q2, v0, v1, v2, hrt⟩ := (HR.out.below hbl).at hlt
        simp only at e1 e2
        subst e1 e2
        have hc0 := cell_blk (k := 0) htb
        have hc1 := cell_blk (k := 1) htb
        simp at hc0 hc1
        have hvv := HV.out _ (List.getElem_mem hlt)
        generalize l[i] = v at *
        obtain ⟨vn, vb, vt⟩ := v
        dsimp only at v0 v1 v2 hrt hvv
        have HFIT := Aside.mk (fit_any k s HO.out vn vb hvv.2.1 vt hvv.1 ⟨ta, tc⟩ hvv.2.2 wr.drew (hrt.below (below_drewN _ _ 1)))
        have HP1 := Aside.mk (And.intro hll (And.intro hlv (And.intro hov (And.intro hbl htb))))
        clear hrt hvv hll hlv hov hbl htb
        have HROW := Aside.mk (show Own wr (w.heap.size + 1) 49 3 (.slice a i c) i xs by
          have := HP1.out.2.2.1.row
          rw [HP1.out.1] at this
          exact this)
        have hsz1 : w.heap.size + 1 ≤ wr.heap.size := lt_of_blk HP1.out.2.2.2.2
        go_wp2_with fail
        go_region_law (first
          | (refine step_call (P := Try.prog) wr.drew (by rfl) 54 [.tmp 18, .tmp 22] _ (by rfl) [.agg #[.int .i64 k, .int .i64 s], .agg #[.bool vn, .int .u64 (vb : Int), .slice ta vt.length tc]] (by rfl) (fun _ _ => rfl) HFIT.out ?_; rintro e w3 ⟨v', va, vc, rfl, hok, h40, hov, hb3⟩; replace hb3 := undrew hb3; have HF3 := Aside.mk (And.intro hok (And.intro h40 (And.intro hov hb3))); have hsz3 := Nat.le_trans hsz1 hb3.size; clear hok h40 hov hb3; refine ⟨_, rfl, ?_⟩)
          | (refine step_app (P := Try.prog) (w3.alloc (.cells #[.bool v'.null, .int .u64 (v'.bits : Int), .slice va v'.text.length vc] 49)) (by rfl) (.tmp 17) (.tmp 24) 35 35 (by rfl) (w.heap.size + 1) 49 (.agg #[.bool false, .int .u64 0, .slice none 0 0]) 3 40 Try.underlying35 valinfo (by rfl) (.slice a i c) i xs (by rfl) ((HROW.out.below HF3.out.2.2.2).alloc _) (.slice (some ⟨w3.heap.size, 0, none⟩) 1 1) 1 [.bool v'.null, .int .u64 (v'.bits : Int), .slice va v'.text.length vc] (by rfl) (src_val w3 _ _ _ rfl rfl rfl) (by unfold maxLen; omega) (by omega) (by simp; omega) ?_; intro v5 w5 hown' hgrow _ hat; obtain ⟨a5, c5, rfl⟩ := hown'.form; have HST := Aside.mk (fits_step HP1.out.1 HP1.out.2.1 HP1.out.2.2.1 HP1.out.2.2.2.1 HP1.out.2.2.2.2 HF3.out.1 HF3.out.2.1 HF3.out.2.2.2 HF3.out.2.2.1 hgrow hown'); clear hown' hgrow hat))
        all_goals
          go_wp2
          exact ⟨⟨i + 1, a5, c5, by omega, by omega, rfl, by simp, HST⟩, by simp [intOf]; omega⟩
      · obtain rfl : i = 120 := by omega
        go_wp2
        go_ret
        exact fits_end hp.out (by omega)
    · obtain rfl : i = l.length := by omega
      go_wp2
      go_ret
      exact fits_end hp.out (by omega)
end Go.Proofs.Ytmhjjhaipcgbiaa


/- Within, Kind. -/
namespace Go.Proofs.Ytmhjjhaipcgbiaa
open Go.RowKit
set_option linter.unusedVariables false
set_option linter.unusedSimpArgs false
set_option maxRecDepth 100000
set_option maxHeartbeats 1000000

theorem tm_neg (n m : Int) (hm : 0 < m) (h : n.tmod m < 0) : n % m = n.tmod m + m ∧ -m < n.tmod m := by
  rw [Int.tmod_eq_emod] at *
  have := Int.emod_nonneg n (show m ≠ 0 by omega)
  have := Int.emod_lt_of_pos n hm
  split at h
  · omega
  · rename_i h2
    rw [if_neg h2]
    have : ((m.natAbs : Nat) : Int) = m := Int.natAbs_of_nonneg (by omega)
    have h3 : n % m ≠ 0 := fun e => h2 (.inr (Int.dvd_of_emod_eq_zero e))
    omega
theorem tm_pos (n m : Int) (hm : 0 < m) (h : ¬ n.tmod m < 0) : n % m = n.tmod m ∧ n.tmod m < m := by
  rw [Int.tmod_eq_emod] at *
  have := Int.emod_nonneg n (show m ≠ 0 by omega)
  have := Int.emod_lt_of_pos n hm
  split at h
  · rename_i h2
    rw [if_pos h2]
    omega
  · rename_i h2
    have : ((m.natAbs : Nat) : Int) = m := Int.natAbs_of_nonneg (by omega)
    omega

/-- A number within bounds, out of any. -/
def withinI (n lo hi : Int) : Int := lo + n % (hi - lo + 1)
theorem within_any (n lo hi : Int) (h0 : 0 ≤ lo) (h1 : lo ≤ hi) (h2 : hi ≤ 1000000) (w : World) : Calls Try.prog 21 #[.int .i64 n, .int .i64 lo, .int .i64 hi] w fun e w' => e = .returned (.int .i64 (withinI n lo hi)) ∧ w = w' := by
  have hm1' : 0 < hi - lo + 1 := by omega
  by_cases ht : n.tmod (hi - lo + 1) < 0
  · have hb := tm_neg n _ hm1' ht
    have hb1 : -1000001 < n.tmod (hi - lo + 1) := by omega
    have hb := Aside.mk hb
    go_enter Try.func21, Try.ntmps21
    go_wp2
    go_ret
    refine ⟨ret_int ?_, rfl⟩
    have := hb.out
    unfold withinI
    omega
  · have hb := tm_pos n _ hm1' ht
    have hb1 : n.tmod (hi - lo + 1) < 1000001 := by omega
    have hb := Aside.mk hb
    go_enter Try.func21, Try.ntmps21
    go_wp2
    go_ret
    refine ⟨ret_int ?_, rfl⟩
    have := hb.out
    unfold withinI
    omega

end Go.Proofs.Ytmhjjhaipcgbiaa


/- Kind: the type that a number leads to. -/
namespace Go.Proofs.Ytmhjjhaipcgbiaa
open Go.RowKit
set_option linter.unusedVariables false
set_option linter.unusedSimpArgs false
set_option maxRecDepth 100000
set_option maxHeartbeats 200000

theorem within_1 (n : Int) (w : World) : Calls Try.prog 21 #[.int .i64 n, .int .i64 1, .int .i64 16] w fun e w' => e = .returned (.int .i64 (withinI n 1 16)) ∧ w = w' := within_any n 1 16 (by omega) (by omega) (by omega) w
theorem within_0 (n : Int) (w : World) : Calls Try.prog 21 #[.int .i64 n, .int .i64 0, .int .i64 18] w fun e w' => e = .returned (.int .i64 (withinI n 0 18)) ∧ w = w' := within_any n 0 18 (by omega) (by omega) (by omega) w
/-- The type that a number leads to. -/
def kindI (n : Int) : Int := withinI n 1 16
def scaleI (n : Int) : Int := if kindI n = 12 then withinI (n / 16) 0 18 else 0
theorem kind_any (n : Int) (w : World) : Calls Try.prog 8 #[.int .i64 n] w fun e w' => e = .returned (.agg #[.int .i64 (kindI n), .int .i64 (scaleI n)]) ∧ Below w.heap.size w w' := by
  by_cases h : kindI n = 12
  · have hk : withinI n 1 16 = 12 := h
    have hs : Aside (scaleI n = withinI (n / 16) 0 18) := ⟨by unfold scaleI; rw [if_pos h]⟩
    have hk := Aside.mk hk
    clear h
    go_enter Try.func8, Try.ntmps8
    go_wp2_with (fail)
    refine (within_1 _ _).mono ?_
    rintro e w1 ⟨rfl, rfl⟩
    rw [hk.out]
    go_wp2_with (fail)
    refine (within_0 _ _).mono ?_
    rintro e w1 ⟨rfl, rfl⟩
    go_wp2_with (fail)
    refine bodyPost_ret (v := .agg #[.int .i64 12, .int .i64 (withinI (n / 16) 0 18)]) (by simp [results, Try.results8, go_sem]) rfl ⟨?_, (by repeat (first | exact Below.refl _ _ | assumption | (refine Below.drew ?_) | (refine Below.trans ?_ (below_drewN _ _ _)) | (refine Below.alloc ?_ (by first | omega | (simp; done) | (simp; omega)) _) | (refine Below.setCell ?_ (by first | omega | (simp; done) | (simp; omega)) _)))⟩
    rw [hs.out, kindI, hk.out]
  · have hk : (withinI n 1 16 == 12) = false := by simpa [kindI] using h
    have hs : Aside (scaleI n = 0) := ⟨by unfold scaleI; rw [if_neg h]⟩
    have hu : Aside (kindI n = withinI n 1 16) := ⟨rfl⟩
    clear h
    go_enter Try.func8, Try.ntmps8
    go_wp2_with (fail)
    refine (within_1 _ _).mono ?_
    rintro e w1 ⟨rfl, rfl⟩
    go_wp2_with (fail)
    refine bodyPost_ret (v := .agg #[.int .i64 (withinI n 1 16), .int .i64 0]) (by simp [results, Try.results8, go_sem]) rfl ⟨?_, (by repeat (first | exact Below.refl _ _ | assumption | (refine Below.drew ?_) | (refine Below.trans ?_ (below_drewN _ _ _)) | (refine Below.alloc ?_ (by first | omega | (simp; done) | (simp; omega)) _) | (refine Below.setCell ?_ (by first | omega | (simp; done) | (simp; omega)) _)))⟩
    rw [hs.out, hu.out]
theorem kind_ok (n : Int) : okType (kindI n) (scaleI n) = true := by
  unfold okType scaleI kindI withinI
  simp only [decide_eq_true_eq]
  split <;> omega
end Go.Proofs.Ytmhjjhaipcgbiaa


/- ColumnJoins: the walk. -/
namespace Go.Proofs.Ytmhjjhaipcgbiaa
open Go.RowKit
set_option linter.unusedVariables false
set_option linter.unusedSimpArgs false
set_option maxRecDepth 100000
set_option maxHeartbeats 4000000

theorem few_of2 {k s : Int} {v : List V} (h1 : v.length ≤ 120) (h2 : ∀ x ∈ v, vOK k s x ∧ x.text.length ≤ 40) : Few v ∧ ∀ x ∈ v, vOK k s x :=
  ⟨⟨by omega, fun x hx => Nat.le_trans (h2 x hx).2 (by decide)⟩, fun x hx => (h2 x hx).1⟩
theorem few_mid {k s : Int} {v : List V} (h : Few v ∧ ∀ x ∈ v, vOK k s x) (i j : Nat) : Few ((v.drop i).take (j - i)) ∧ ∀ x ∈ (v.drop i).take (j - i), vOK k s x := by
  have hm : ∀ x ∈ (v.drop i).take (j - i), x ∈ v := fun x hx => List.mem_of_mem_drop (List.mem_of_mem_take hx)
  refine ⟨⟨?_, fun x hx => h.1.2 x (hm x hx)⟩, fun x hx => h.2 x (hm x hx)⟩
  have := h.1.1
  rw [List.length_take, List.length_drop]; omega

/-- A piece of a row of values. -/
theorem OwnVs.mid {w : World} {base : Nat} {a : Option Addr} {c : Nat} {l : List V} {xs : List Value} (h : OwnVs w base ⟨a, c⟩ l xs) {i j : Nat} (hij : i ≤ j) (hj : j ≤ l.length) : RdVs w ⟨cutA a c i 3, c - i⟩ ((l.drop i).take (j - i)) := by
  have hlen : ((l.drop i).take (j - i)).length = j - i := by rw [List.length_take, List.length_drop]; omega
  refine ⟨_, by rw [hlen]; exact h.row.rd.mid hij hj, fun m v hm => ?_⟩
  have hm2 : m < j - i := by have := (List.getElem?_eq_some_iff.1 hm).1; omega
  rw [List.getElem?_take, if_pos hm2, List.getElem?_drop] at hm
  obtain ⟨ta, tc, q0, q1, q2, q3⟩ := h.each (i + m) v hm
  refine ⟨ta, tc, ?_, ?_, ?_, q3.rd⟩
  · rw [List.getElem?_take, if_pos (by omega), List.getElem?_drop, ← q0]; congr 1; omega
  · rw [List.getElem?_take, if_pos (by omega), List.getElem?_drop, ← q1]; congr 1; omega
  · rw [List.getElem?_take, if_pos (by omega), List.getElem?_drop, ← q2]; congr 1; omega

theorem valsz : (Try.prog.info? 49).map (·.size) = some 3 := by kernel_rfl
/-- A piece: its slice, and what it reads. -/
theorem piece_to {w : World} {base : Nat} {a : Option Addr} {c : Nat} {l : List V} {xs : List Value} (h : OwnVs w base ⟨a, c⟩ l xs) {j : Nat} (hj : j ≤ l.length) :
    ∃ A : SL, (∀ W, (Instr.slice 35 (.slice a l.length c) none (some (.int .i64 (j : Int))) none).run Try.prog W = .ok (.slice A.a j A.c) W) ∧ RdVs w A (l.take j) :=
  ⟨⟨cutA a c 0 3, c - 0⟩, fun W => run_slice_to Try.underlying35 valsz a l.length c j (Nat.le_trans hj (own_cap h.row)) W, by simpa using h.mid (Nat.zero_le j) hj⟩
theorem piece_mid {w : World} {base : Nat} {a : Option Addr} {c : Nat} {l : List V} {xs : List Value} (h : OwnVs w base ⟨a, c⟩ l xs) {i j : Nat} (hij : i ≤ j) (hj : j ≤ l.length) :
    ∃ A : SL, (∀ W, (Instr.slice 35 (.slice a l.length c) (some (.int .i64 (i : Int))) (some (.int .i64 (j : Int))) none).run Try.prog W = .ok (.slice A.a (j - i) A.c) W) ∧ RdVs w A ((l.drop i).take (j - i)) :=
  ⟨⟨cutA a c i 3, c - i⟩, fun W => run_slice_mid Try.underlying35 valsz a l.length c i j hij (Nat.le_trans hj (own_cap h.row)) W, h.mid hij hj⟩
theorem piece_from {w : World} {base : Nat} {a : Option Addr} {c : Nat} {l : List V} {xs : List Value} (h : OwnVs w base ⟨a, c⟩ l xs) {i : Nat} (hi : i ≤ l.length) :
    ∃ A : SL, (∀ W, (Instr.slice 35 (.slice a l.length c) (some (.int .i64 (i : Int))) none none).run Try.prog W = .ok (.slice A.a (l.length - i) A.c) W) ∧ RdVs w A (l.drop i) :=
  ⟨⟨cutA a c i 3, c - i⟩, fun W => run_slice_from Try.underlying35 valsz a l.length c i hi W, by
    have := h.mid hi (Nat.le_refl _)
    rwa [List.take_of_length_le (by rw [List.length_drop]; omega)] at this⟩
theorem built_piece (k s : Int) (l : List V) (ho : okType k s = true) (h : Few l ∧ ∀ v ∈ l, vOK k s v) (A : SL) (n : Nat) (hn : l.length = n) (w : World) (hr : RdVs w A l) : Calls Try.prog 18 #[.agg #[.int .i64 k, .int .i64 s], .slice A.a n A.c] w (BuiltP k s l w) := by
  rw [← hn]; exact built_any k s l ho h.1 h.2 A w hr

/-- What stays: the type's box, the values. -/
structure JI (k s : Int) (v : List V) (VA : SL) (xs : List Value) (tb : Nat) (w wr : World) : Prop where
  sb : Below w.heap.size w wr
  st : wr.heap[tb]? = some (.cells #[.int .i64 k, .int .i64 s] 23 (0, 0))
  sv : OwnVs wr w.heap.size VA v xs
theorem JI.below {k s : Int} {v : List V} {VA : SL} {xs : List Value} {tb : Nat} {w wr w2 : World} (h : JI k s v VA xs tb w wr) (hb : Below wr.heap.size wr w2) : JI k s v VA xs tb w w2 :=
  ⟨below_chain h.sb hb, (hb.block _ (lt_of_blk h.st)).trans h.st, h.sv.below hb⟩
theorem JI.type {k s : Int} {v : List V} {VA : SL} {xs : List Value} {tb : Nat} {w wr : World} (h : JI k s v VA xs tb w wr) : wr.cell? ⟨tb, 0, none⟩ = some (.int .i64 k) ∧ wr.cell? ⟨tb, 1, none⟩ = some (.int .i64 s) := by
  constructor <;> (rw [cell_blk h.st]; rfl)
/-- A column's new box. -/
theorem hasC_new {w w4 : World} {c : Col} {B D E X : SL} {vals : List Value} {b0 : Nat} (h : OwnC w4 b0 c B D E X vals) (hb : w.heap.size ≤ b0) :
    HasC (w4.alloc (.cells #[.int .i64 c.k, .int .i64 c.s, .int .i64 c.n, .int .i64 c.m, .slice B.a c.bits.length B.c, .slice D.a c.data.length D.c, .slice E.a c.ends.length E.c, .slice X.a c.words.length X.c] 43)) w.heap.size w4.heap.size c B D E X vals :=
  ⟨heap_alloc_new w4 _, (h.mono hb).below (below_new w4 _)⟩

/-- A box with a new column. -/
def BoxP (k s : Int) (l : List V) (w w5 : World) (s13 s14 : Value) (wx : World) : Prop :=
  ∃ bb B D E X vals, s13 = .pointer (some ⟨bb, 0, none⟩) ∧ s14 = .bool true ∧ Below w5.heap.size w5 wx ∧ HasC wx w.heap.size bb (colOf k s l) B D E X vals
theorem boxP_after {k s : Int} {l : List V} {w w5 w6 : World} {B D E X : SL} {vals : List Value} (hw : w.heap.size ≤ w5.heap.size) (h : OwnC w6 w5.drew.heap.size (colOf k s l) B D E X vals) (hb : Below w5.drew.heap.size w5.drew w6) :
    BoxP k s l w w5 (.pointer (some ⟨w6.heap.size, 0, none⟩)) (.bool true) (w6.alloc (.cells #[.int .i64 (colOf k s l).k, .int .i64 (colOf k s l).s, .int .i64 (colOf k s l).n, .int .i64 (colOf k s l).m, .slice B.a (colOf k s l).bits.length B.c, .slice D.a (colOf k s l).data.length D.c, .slice E.a (colOf k s l).ends.length E.c, .slice X.a (colOf k s l).words.length X.c] 43)) :=
  ⟨_, B, D, E, X, vals, rfl, rfl, ((below_drewN w5 _ 1).trans hb).alloc hb.size _, hasC_new h hw⟩
theorem boxP_ahead {k s : Int} {l : List V} {w w5 w6 : World} {B D E X : SL} {vals : List Value} (hw : w.heap.size ≤ w5.heap.size) (h : OwnC w6 (w5.alloc (.cells #[.int .i64 0, .int .i64 0, .int .i64 0, .int .i64 0, .slice none 0 0, .slice none 0 0, .slice none 0 0, .slice none 0 0] 43)).drew.heap.size (colOf k s l) B D E X vals) (hb : Below (w5.alloc (.cells #[.int .i64 0, .int .i64 0, .int .i64 0, .int .i64 0, .slice none 0 0, .slice none 0 0, .slice none 0 0, .slice none 0 0] 43)).drew.heap.size (w5.alloc (.cells #[.int .i64 0, .int .i64 0, .int .i64 0, .int .i64 0, .slice none 0 0, .slice none 0 0, .slice none 0 0, .slice none 0 0] 43)).drew w6) (h0 : w6.heap[w5.heap.size]? = some (.cells #[.int .i64 0, .int .i64 0, .int .i64 0, .int .i64 0, .slice none 0 0, .slice none 0 0, .slice none 0 0, .slice none 0 0] 43 (0, 0))) :
    BoxP k s l w w5 (.pointer (some ⟨w5.heap.size, 0, none⟩)) (.bool true) ((((((((w6.setCell ⟨w5.heap.size, 0, none⟩ (.int .i64 (colOf k s l).k)).setCell ⟨w5.heap.size, 1, none⟩ (.int .i64 (colOf k s l).s)).setCell ⟨w5.heap.size, 2, none⟩ (.int .i64 (colOf k s l).n)).setCell ⟨w5.heap.size, 3, none⟩ (.int .i64 (colOf k s l).m)).setCell ⟨w5.heap.size, 4, none⟩ (.slice B.a (colOf k s l).bits.length B.c)).setCell ⟨w5.heap.size, 5, none⟩ (.slice D.a (colOf k s l).data.length D.c)).setCell ⟨w5.heap.size, 6, none⟩ (.slice E.a (colOf k s l).ends.length E.c)).setCell ⟨w5.heap.size, 7, none⟩ (.slice X.a (colOf k s l).words.length X.c)) := by
  have K8 := kept8 w6 w5.heap.size (.int .i64 (colOf k s l).k) (.int .i64 (colOf k s l).s) (.int .i64 (colOf k s l).n) (.int .i64 (colOf k s l).m) (.slice B.a (colOf k s l).bits.length B.c) (.slice D.a (colOf k s l).data.length D.c) (.slice E.a (colOf k s l).ends.length E.c) (.slice X.a (colOf k s l).words.length X.c)
  have hz : (w5.alloc (.cells #[.int .i64 0, .int .i64 0, .int .i64 0, .int .i64 0, .slice none 0 0, .slice none 0 0, .slice none 0 0, .slice none 0 0] 43)).drew.heap.size = w5.heap.size + 1 := by show (w5.alloc (.cells #[.int .i64 0, .int .i64 0, .int .i64 0, .int .i64 0, .slice none 0 0, .slice none 0 0, .slice none 0 0, .slice none 0 0] 43)).heap.size = _; simp
  rw [hz] at h
  have hs : w5.heap.size ≤ w6.heap.size := by have := hb.size; omega
  have hbb : Below w5.heap.size w5 w6 := (((Below.refl _ w5).alloc (Nat.le_refl _) (.cells #[.int .i64 0, .int .i64 0, .int .i64 0, .int .i64 0, .slice none 0 0, .slice none 0 0, .slice none 0 0, .slice none 0 0] 43)).trans (below_drewN _ _ 1)).trans (hb.mono (by omega))
  exact ⟨_, B, D, E, X, vals, rfl, rfl, hbb.trans (K8.to_below hs (fun b e => by omega)), set8 h0 _ _ _ _ _ _ _ _, (h.kept K8 (fun b e => by omega)).mono (by omega)⟩
set_option maxHeartbeats 40000000 in
theorem joins_walk (n i_ j_ : Int) (l : List V) (A : SL) (w : World) (h : RdVs w A l) (hl : l.length ≤ 9223372036854775807) (hv : ∀ v ∈ l, IsBytes v.text ∧ v.bits < 18446744073709551616 ∧ v.text.length ≤ 9223372036854775807) :
    Calls Try.prog 5 #[.int .i64 n, .slice A.a l.length A.c, .int .i64 i_, .int .i64 j_] w (BoolP true w) := by
  have HR := Aside.mk h
  have HV := Aside.mk hv
  have HK := Aside.mk (kind_ok n)
  clear h hv
  go_enter Try.func5, Try.ntmps5
  go_wp2_with (go_at_call 8; refine (kind_any _ _).mono ?_; rintro e w1 ⟨rfl, hb1⟩; have HB1 := Aside.mk hb1; clear hb1)
  generalize kindI n = k at *
  generalize scaleI n = s at *
  have ht1 := heap_alloc_new w1 (.cells #[.int .i64 k, .int .i64 s] 23)
  have hb2 := HB1.out.alloc HB1.out.size (.cells #[.int .i64 k, .int .i64 s] 23)
  have hw1 := HB1.out.size
  generalize w1.alloc (.cells #[.int .i64 k, .int .i64 s] 23) = w2 at *
  have ht2 := lt_of_blk ht1
  generalize w1.heap.size = tb at *
  refine (fitsL_any k s HK.out l hl HV.out A w2 (HR.out.below hb2)).mono ?_
  rintro e w3 ⟨v, ⟨va, vc⟩, xs, rfl, hv120, hvok, hov, hb3⟩
  obtain ⟨hfew, hall⟩ := few_of2 hv120 hvok
  have HALL := Aside.mk (And.intro hfew hall)
  have ht3 := (hb3.block _ ht2).trans ht1
  have c0 := cell_blk (k := 0) ht3
  have c1 := cell_blk (k := 1) ht3
  simp at c0 c1
  have HOV := Aside.mk hov
  have HT3 := Aside.mk ht3
  have HB3 := Aside.mk (hb2.trans (hb3.mono hb2.size))
  have hsz23 := hb3.size
  have hsz2 := hb2.size
  have hvm : v.length ≤ 120 := hv120
  clear hov ht3 hb2 hb3 ht1 hfew hall hvok HR HV HB1
  obtain ⟨i, hi, hiv⟩ : ∃ i : Nat, withinI i_ 0 (v.length : Int) = (i : Int) ∧ i ≤ v.length := by
    refine ⟨(withinI i_ 0 (v.length : Int)).toNat, ?_, ?_⟩ <;>
    · unfold withinI
      have h1 := Int.emod_nonneg i_ (show ((v.length : Int) - 0 + 1) ≠ 0 by omega)
      have h2 := Int.emod_lt_of_pos i_ (show 0 < ((v.length : Int) - 0 + 1) by omega)
      omega
  obtain ⟨j, hj, hij, hjv⟩ : ∃ j : Nat, withinI j_ (i : Int) (v.length : Int) = (j : Int) ∧ i ≤ j ∧ j ≤ v.length := by
    refine ⟨(withinI j_ (i : Int) (v.length : Int)).toNat, ?_, ?_, ?_⟩ <;>
    · unfold withinI
      have h1 := Int.emod_nonneg j_ (show ((v.length : Int) - (i : Int) + 1) ≠ 0 by omega)
      have h2 := Int.emod_lt_of_pos j_ (show 0 < ((v.length : Int) - (i : Int) + 1) by omega)
      omega
  have HW1 := Aside.mk hi
  have HW2 := Aside.mk hj
  clear hi hj
  go_wp2_with fail
  refine (within_any i_ 0 (v.length : Int) (by omega) (by omega) (by omega) _).mono ?_
  rintro e wn ⟨rfl, rfl⟩
  rw [HW1.out]
  go_wp2_with fail
  refine (within_any j_ (i : Int) (v.length : Int) (by omega) (by omega) (by omega) _).mono ?_
  rintro e wn ⟨rfl, rfl⟩
  rw [HW2.out]
  go_wp2_with fail
  refine (built_any k s v HK.out HALL.out.1 HALL.out.2 ⟨va, vc⟩ w3 HOV.out.rd).mono ?_
  rintro e w4 ⟨Ba, Da, Ea, Xa, la, rfl, hoc, hb4⟩
  obtain ⟨ca, hca⟩ : ∃ c, c = colOf k s v := ⟨_, rfl⟩
  rw [show (CS.of k v).col k s = ca from hca.symm] at hoc ⊢
  have Ca := Aside.mk hca
  have HI := Aside.mk (show JI k s v ⟨va, vc⟩ xs tb w (w4.alloc (.cells #[.int .i64 ca.k, .int .i64 ca.s, .int .i64 ca.n, .int .i64 ca.m, .slice Ba.a ca.bits.length Ba.c, .slice Da.a ca.data.length Da.c, .slice Ea.a ca.ends.length Ea.c, .slice Xa.a ca.words.length Xa.c] 43)) from
    (JI.below ⟨HB3.out, HT3.out, ⟨HOV.out.row.mono (by omega), fun i v h => by obtain ⟨ta, tc, a, b, c, d⟩ := HOV.out.each i v h; exact ⟨ta, tc, a, b, c, d.mono (by omega)⟩⟩⟩ (hb4.alloc hb4.size _)))
  have Ha := Aside.mk (hasC_new (w := w) hoc (by have := HB3.out.size; omega))
  have hbw := hb4.size
  have hba : w.heap.size ≤ w4.heap.size := by have := HB3.out.size; omega
  clear hoc c0 c1 HOV HT3 HB3 hca hb4
  dsimp only [colV]
  go_wp2_with fail
  generalize w4.alloc (.cells #[.int .i64 ca.k, .int .i64 ca.s, .int .i64 ca.n, .int .i64 ca.m, .slice Ba.a ca.bits.length Ba.c, .slice Da.a ca.data.length Da.c, .slice Ea.a ca.ends.length Ea.c, .slice Xa.a ca.words.length Xa.c] 43) = w5 at *
  generalize w4.heap.size = ba at *
  obtain ⟨c0, c1⟩ := HI.out.type
  obtain ⟨A1, hs1, hp1⟩ := piece_to HI.out.sv (Nat.le_trans hij hjv)
  have hfm := few_mid HALL.out 0 i
  rw [List.drop_zero, Nat.sub_zero] at hfm
  have HC := Aside.mk (fun (W : World) (hb : Below w5.heap.size w5 W) => built_piece k s (v.take i) HK.out hfm A1 (i) (by first | (rw [List.length_drop]; done) | (simp only [List.length_take, List.length_drop]; omega)) W (hp1.below hb))
  clear hp1 hfm
  have hz5 := Aside.mk (show w5.heap.size < ((w5.alloc (.cells #[.int .i64 0, .int .i64 0, .int .i64 0, .int .i64 0, .slice none 0 0, .slice none 0 0, .slice none 0 0, .slice none 0 0] 43)).drew).heap.size from by show _ < (w5.alloc (.cells #[.int .i64 0, .int .i64 0, .int .i64 0, .int .i64 0, .slice none 0 0, .slice none 0 0, .slice none 0 0, .slice none 0 0] 43)).heap.size; simp)
  have htb5 := lt_of_blk HI.out.st
  have HW5 := Aside.mk (show w.heap.size ≤ w5.heap.size from HI.out.sb.size)
  go_cut [13, 14] from 49 to 56 (fun s13 s14 wx => BoxP k s (v.take i) w w5 s13 s14 wx)
  case first =>
    go_region_law (first | (refine step_call (P := Try.prog) (w5.drew) (by rfl) 18 [.tmp 50, .tmp 53] _ (by rfl) [.agg #[.int .i64 k, .int .i64 s], .slice A1.a i A1.c] (by rfl) (fun _ _ => rfl) (HC.out _ (below_drewN w5 _ 1)) ?_; rintro e w6 ⟨Bz, Dz, Ez, Xz, lz, rfl, hoc, hb6⟩; have HOC := Aside.mk hoc; have HB6 := Aside.mk hb6; clear hoc hb6; dsimp only [colV]; refine ⟨_, rfl, ?_⟩) | (refine step_call (P := Try.prog) ((w5.alloc (.cells #[.int .i64 0, .int .i64 0, .int .i64 0, .int .i64 0, .slice none 0 0, .slice none 0 0, .slice none 0 0, .slice none 0 0] 43)).drew) (by rfl) 18 [.tmp 50, .tmp 53] _ (by rfl) [.agg #[.int .i64 k, .int .i64 s], .slice A1.a i A1.c] (by rfl) (fun _ _ => rfl) (HC.out _ (((Below.refl _ _).alloc (Nat.le_refl _) _).trans (below_drewN _ _ 1))) ?_; rintro e w6 ⟨Bz, Dz, Ez, Xz, lz, rfl, hoc, hb6⟩; have HOC := Aside.mk hoc; have HB6 := Aside.mk hb6; have hr4 := (hb6.block w5.heap.size hz5.out).trans (show ((w5.alloc (.cells #[.int .i64 0, .int .i64 0, .int .i64 0, .int .i64 0, .slice none 0 0, .slice none 0 0, .slice none 0 0, .slice none 0 0] 43)).drew).heap[w5.heap.size]? = some (.cells #[.int .i64 0, .int .i64 0, .int .i64 0, .int .i64 0, .slice none 0 0, .slice none 0 0, .slice none 0 0, .slice none 0 0] 43 (0, 0)) from heap_alloc_new w5 _); obtain ⟨r0, r1, r2, r3, r4, r5, r6, r7⟩ := box8 hr4; have f0 := frozen_blk (k := 0) hr4; have f1 := frozen_blk (k := 1) hr4; have f2 := frozen_blk (k := 2) hr4; have f3 := frozen_blk (k := 3) hr4; have f4 := frozen_blk (k := 4) hr4; have f5 := frozen_blk (k := 5) hr4; have f6 := frozen_blk (k := 6) hr4; have f7 := frozen_blk (k := 7) hr4; have HR4 := Aside.mk hr4; clear hr4; clear hoc hb6; dsimp only [colV]; refine ⟨_, rfl, ?_⟩))
    all_goals
      go_wp2_with fail
      go_meet
      first | exact boxP_ahead HW5.out HOC.out HB6.out HR4.out | exact boxP_after HW5.out HOC.out HB6.out
  case rest =>
  obtain ⟨bb, Bb, Db, Eb, Xb, lb, rfl, rfl, hbel, hh⟩ := hcut
  obtain ⟨cb, hcb⟩ : ∃ c, c = colOf k s (v.take i) := ⟨_, rfl⟩
  rw [← hcb] at hh
  have Cb := Aside.mk hcb
  have Hb := Aside.mk hh
  replace HI := Aside.mk (HI.out.below hbel)
  replace Ha := Aside.mk (Ha.out.below hbel)
  clear hcb hh hbel c0 c1 hs1 HC hz5 htb5 HW5
  generalize wc = w5 at *
  go_wp2_with fail
  obtain ⟨c0, c1⟩ := HI.out.type
  obtain ⟨A1, hs1, hp1⟩ := piece_mid HI.out.sv hij hjv
  have hfm := few_mid HALL.out i j
  have HC := Aside.mk (fun (W : World) (hb : Below w5.heap.size w5 W) => built_piece k s ((v.drop i).take (j - i)) HK.out hfm A1 ((j - i)) (by first | (rw [List.length_drop]; done) | (simp only [List.length_take, List.length_drop]; omega)) W (hp1.below hb))
  clear hp1 hfm
  have hz5 := Aside.mk (show w5.heap.size < ((w5.alloc (.cells #[.int .i64 0, .int .i64 0, .int .i64 0, .int .i64 0, .slice none 0 0, .slice none 0 0, .slice none 0 0, .slice none 0 0] 43)).drew).heap.size from by show _ < (w5.alloc (.cells #[.int .i64 0, .int .i64 0, .int .i64 0, .int .i64 0, .slice none 0 0, .slice none 0 0, .slice none 0 0, .slice none 0 0] 43)).heap.size; simp)
  have htb5 := lt_of_blk HI.out.st
  have HW5 := Aside.mk (show w.heap.size ≤ w5.heap.size from HI.out.sb.size)
  go_cut [15, 16] from 57 to 65 (fun s13 s14 wx => BoxP k s ((v.drop i).take (j - i)) w w5 s13 s14 wx)
  case first =>
    go_region_law (first | (refine step_call (P := Try.prog) (w5.drew) (by rfl) 18 [.tmp 58, .tmp 62] _ (by rfl) [.agg #[.int .i64 k, .int .i64 s], .slice A1.a (j - i) A1.c] (by rfl) (fun _ _ => rfl) (HC.out _ (below_drewN w5 _ 1)) ?_; rintro e w6 ⟨Bz, Dz, Ez, Xz, lz, rfl, hoc, hb6⟩; have HOC := Aside.mk hoc; have HB6 := Aside.mk hb6; clear hoc hb6; dsimp only [colV]; refine ⟨_, rfl, ?_⟩) | (refine step_call (P := Try.prog) ((w5.alloc (.cells #[.int .i64 0, .int .i64 0, .int .i64 0, .int .i64 0, .slice none 0 0, .slice none 0 0, .slice none 0 0, .slice none 0 0] 43)).drew) (by rfl) 18 [.tmp 58, .tmp 62] _ (by rfl) [.agg #[.int .i64 k, .int .i64 s], .slice A1.a (j - i) A1.c] (by rfl) (fun _ _ => rfl) (HC.out _ (((Below.refl _ _).alloc (Nat.le_refl _) _).trans (below_drewN _ _ 1))) ?_; rintro e w6 ⟨Bz, Dz, Ez, Xz, lz, rfl, hoc, hb6⟩; have HOC := Aside.mk hoc; have HB6 := Aside.mk hb6; have hr4 := (hb6.block w5.heap.size hz5.out).trans (show ((w5.alloc (.cells #[.int .i64 0, .int .i64 0, .int .i64 0, .int .i64 0, .slice none 0 0, .slice none 0 0, .slice none 0 0, .slice none 0 0] 43)).drew).heap[w5.heap.size]? = some (.cells #[.int .i64 0, .int .i64 0, .int .i64 0, .int .i64 0, .slice none 0 0, .slice none 0 0, .slice none 0 0, .slice none 0 0] 43 (0, 0)) from heap_alloc_new w5 _); obtain ⟨r0, r1, r2, r3, r4, r5, r6, r7⟩ := box8 hr4; have f0 := frozen_blk (k := 0) hr4; have f1 := frozen_blk (k := 1) hr4; have f2 := frozen_blk (k := 2) hr4; have f3 := frozen_blk (k := 3) hr4; have f4 := frozen_blk (k := 4) hr4; have f5 := frozen_blk (k := 5) hr4; have f6 := frozen_blk (k := 6) hr4; have f7 := frozen_blk (k := 7) hr4; have HR4 := Aside.mk hr4; clear hr4; clear hoc hb6; dsimp only [colV]; refine ⟨_, rfl, ?_⟩))
    all_goals
      go_wp2_with fail
      go_meet
      first | exact boxP_ahead HW5.out HOC.out HB6.out HR4.out | exact boxP_after HW5.out HOC.out HB6.out
  case rest =>
  obtain ⟨bc, Bc, Dc, Ec, Xc, lc, rfl, rfl, hbel, hh⟩ := hcut
  obtain ⟨cc, hcc⟩ : ∃ c, c = colOf k s ((v.drop i).take (j - i)) := ⟨_, rfl⟩
  rw [← hcc] at hh
  have Cc := Aside.mk hcc
  have Hc := Aside.mk hh
  replace HI := Aside.mk (HI.out.below hbel)
  replace Ha := Aside.mk (Ha.out.below hbel)
  replace Hb := Aside.mk (Hb.out.below hbel)
  clear hcc hh hbel c0 c1 hs1 HC hz5 htb5 HW5
  generalize wc = w5 at *
  go_wp2_with fail
  obtain ⟨c0, c1⟩ := HI.out.type
  obtain ⟨A1, hs1, hp1⟩ := piece_from HI.out.sv hjv
  have hfm := few_mid HALL.out j v.length
  rw [List.take_of_length_le (by rw [List.length_drop]; omega)] at hfm
  have HC := Aside.mk (fun (W : World) (hb : Below w5.heap.size w5 W) => built_piece k s (v.drop j) HK.out hfm A1 ((v.length - j)) (by first | (rw [List.length_drop]; done) | (simp only [List.length_take, List.length_drop]; omega)) W (hp1.below hb))
  clear hp1 hfm
  have hz5 := Aside.mk (show w5.heap.size < ((w5.alloc (.cells #[.int .i64 0, .int .i64 0, .int .i64 0, .int .i64 0, .slice none 0 0, .slice none 0 0, .slice none 0 0, .slice none 0 0] 43)).drew).heap.size from by show _ < (w5.alloc (.cells #[.int .i64 0, .int .i64 0, .int .i64 0, .int .i64 0, .slice none 0 0, .slice none 0 0, .slice none 0 0, .slice none 0 0] 43)).heap.size; simp)
  have htb5 := lt_of_blk HI.out.st
  have HW5 := Aside.mk (show w.heap.size ≤ w5.heap.size from HI.out.sb.size)
  go_cut [17, 18] from 66 to 73 (fun s13 s14 wx => BoxP k s (v.drop j) w w5 s13 s14 wx)
  case first =>
    go_region_law (first | (refine step_call (P := Try.prog) (w5.drew) (by rfl) 18 [.tmp 67, .tmp 70] _ (by rfl) [.agg #[.int .i64 k, .int .i64 s], .slice A1.a (v.length - j) A1.c] (by rfl) (fun _ _ => rfl) (HC.out _ (below_drewN w5 _ 1)) ?_; rintro e w6 ⟨Bz, Dz, Ez, Xz, lz, rfl, hoc, hb6⟩; have HOC := Aside.mk hoc; have HB6 := Aside.mk hb6; clear hoc hb6; dsimp only [colV]; refine ⟨_, rfl, ?_⟩) | (refine step_call (P := Try.prog) ((w5.alloc (.cells #[.int .i64 0, .int .i64 0, .int .i64 0, .int .i64 0, .slice none 0 0, .slice none 0 0, .slice none 0 0, .slice none 0 0] 43)).drew) (by rfl) 18 [.tmp 67, .tmp 70] _ (by rfl) [.agg #[.int .i64 k, .int .i64 s], .slice A1.a (v.length - j) A1.c] (by rfl) (fun _ _ => rfl) (HC.out _ (((Below.refl _ _).alloc (Nat.le_refl _) _).trans (below_drewN _ _ 1))) ?_; rintro e w6 ⟨Bz, Dz, Ez, Xz, lz, rfl, hoc, hb6⟩; have HOC := Aside.mk hoc; have HB6 := Aside.mk hb6; have hr4 := (hb6.block w5.heap.size hz5.out).trans (show ((w5.alloc (.cells #[.int .i64 0, .int .i64 0, .int .i64 0, .int .i64 0, .slice none 0 0, .slice none 0 0, .slice none 0 0, .slice none 0 0] 43)).drew).heap[w5.heap.size]? = some (.cells #[.int .i64 0, .int .i64 0, .int .i64 0, .int .i64 0, .slice none 0 0, .slice none 0 0, .slice none 0 0, .slice none 0 0] 43 (0, 0)) from heap_alloc_new w5 _); obtain ⟨r0, r1, r2, r3, r4, r5, r6, r7⟩ := box8 hr4; have f0 := frozen_blk (k := 0) hr4; have f1 := frozen_blk (k := 1) hr4; have f2 := frozen_blk (k := 2) hr4; have f3 := frozen_blk (k := 3) hr4; have f4 := frozen_blk (k := 4) hr4; have f5 := frozen_blk (k := 5) hr4; have f6 := frozen_blk (k := 6) hr4; have f7 := frozen_blk (k := 7) hr4; have HR4 := Aside.mk hr4; clear hr4; clear hoc hb6; dsimp only [colV]; refine ⟨_, rfl, ?_⟩))
    all_goals
      go_wp2_with fail
      go_meet
      first | exact boxP_ahead HW5.out HOC.out HB6.out HR4.out | exact boxP_after HW5.out HOC.out HB6.out
  case rest =>
  obtain ⟨bd, Bd, Dd, Ed, Xd, ld, rfl, rfl, hbel, hh⟩ := hcut
  obtain ⟨cd, hcd⟩ : ∃ c, c = colOf k s (v.drop j) := ⟨_, rfl⟩
  rw [← hcd] at hh
  have Cd := Aside.mk hcd
  have Hd := Aside.mk hh
  replace HI := Aside.mk (HI.out.below hbel)
  replace Ha := Aside.mk (Ha.out.below hbel)
  replace Hb := Aside.mk (Hb.out.below hbel)
  replace Hc := Aside.mk (Hc.out.below hbel)
  clear hcd hh hbel c0 c1 hs1 HC hz5 htb5 HW5
  generalize wc = w5 at *
  go_upto_region 11 with (go_at_call 16; refine (wakes_any _).mono ?_; rintro e w6 ⟨rfl, hbel⟩; replace HI := Aside.mk (HI.out.below hbel); replace Ha := Aside.mk (Ha.out.below hbel); replace Hb := Aside.mk (Hb.out.below hbel); replace Hc := Aside.mk (Hc.out.below hbel); replace Hd := Aside.mk (Hd.out.below hbel); clear hbel)
  clear w5
  generalize w6 = w5 at *
  have HL1 := Aside.mk (show v.take i ++ (v.drop i).take (j - i) = v.take j from by
    have := List.take_append_drop i (v.take j)
    rwa [List.take_take, Nat.min_eq_left hij, List.drop_take] at this)
  have HL2 := Aside.mk (show v.take j ++ v.drop j = v from List.take_append_drop j v)
  have HL3 := Aside.mk (show (v.drop i).take (j - i) ++ v.drop j = v.drop i from by
    have := List.take_append_drop (j - i) (v.drop i)
    rwa [List.drop_drop, Nat.add_sub_cancel' hij] at this)
  have HL4 := Aside.mk (show v.take i ++ v.drop i = v from List.take_append_drop i v)
  have HFJ := Aside.mk (few_sub (l := v.take j) HALL.out (by rw [List.length_take]; omega) (fun x hx => List.mem_of_mem_take hx))
  have HFD := Aside.mk (few_sub (l := v.drop i) HALL.out (by rw [List.length_drop]; omega) (fun x hx => List.mem_of_mem_drop hx))
  obtain ⟨p0, p1, p2, p3, p4, p5, p6, p7⟩ := box8 Hb.out.box
  obtain ⟨q0, q1, q2, q3, q4, q5, q6, q7⟩ := box8 Hc.out.box
  obtain ⟨ce, hce⟩ : ∃ c, c = colOf k s (v.take j) := ⟨_, rfl⟩
  have HJ := Aside.mk (join_eq (c := ce) HK.out Cb.out Cc.out (by rw [HL1.out]; exact hce) (by rw [HL1.out]; exact HFJ.out) Hb.out Hc.out)
  have Ce := Aside.mk hce
  clear hce
  dsimp only [colV] at HJ
  go_upto_region 12 with (go_at_call 23; refine HJ.out.mono ?_; rintro e w6 ⟨Be, De, Ee, Xe, le, rfl, hoc, hb6⟩; have HOC := Aside.mk hoc; have HB6 := Aside.mk hb6; clear hoc hb6 p0 p1 p2 p3 p4 p5 p6 p7 q0 q1 q2 q3 q4 q5 q6 q7; dsimp only [colV])
  have hbel : Below w5.heap.size w5 (w6.alloc (.cells #[.int .i64 ce.k, .int .i64 ce.s, .int .i64 ce.n, .int .i64 ce.m, .slice Be.a ce.bits.length Be.c, .slice De.a ce.data.length De.c, .slice Ee.a ce.ends.length Ee.c, .slice Xe.a ce.words.length Xe.c] 43)) := HB6.out.alloc HB6.out.size _
  have He := Aside.mk (hasC_new (w := w) HOC.out HI.out.sb.size)
  replace HI := Aside.mk (HI.out.below hbel)
  replace Ha := Aside.mk (Ha.out.below hbel)
  replace Hb := Aside.mk (Hb.out.below hbel)
  replace Hc := Aside.mk (Hc.out.below hbel)
  replace Hd := Aside.mk (Hd.out.below hbel)
  clear HJ hbel HOC HB6
  clear w5
  generalize w6.alloc (.cells #[.int .i64 ce.k, .int .i64 ce.s, .int .i64 ce.n, .int .i64 ce.m, .slice Be.a ce.bits.length Be.c, .slice De.a ce.data.length De.c, .slice Ee.a ce.ends.length Ee.c, .slice Xe.a ce.words.length Xe.c] 43) = w5 at *
  generalize w6.heap.size = be at *
  clear w6
  obtain ⟨p0, p1, p2, p3, p4, p5, p6, p7⟩ := box8 He.out.box
  obtain ⟨q0, q1, q2, q3, q4, q5, q6, q7⟩ := box8 Hd.out.box
  obtain ⟨cf, hcf⟩ : ∃ c, c = colOf k s v := ⟨_, rfl⟩
  have HJ := Aside.mk (join_eq (c := cf) HK.out Ce.out Cd.out (by rw [HL2.out]; exact hcf) (by rw [HL2.out]; exact HALL.out) He.out Hd.out)
  have Cf := Aside.mk hcf
  clear hcf
  dsimp only [colV] at HJ
  go_upto_region 13 with (go_at_call 23; refine HJ.out.mono ?_; rintro e w6 ⟨Bf, Df, Ef, Xf, lf, rfl, hoc, hb6⟩; have HOC := Aside.mk hoc; have HB6 := Aside.mk hb6; clear hoc hb6 p0 p1 p2 p3 p4 p5 p6 p7 q0 q1 q2 q3 q4 q5 q6 q7; dsimp only [colV])
  have hbel : Below w5.heap.size w5 (w6.alloc (.cells #[.int .i64 cf.k, .int .i64 cf.s, .int .i64 cf.n, .int .i64 cf.m, .slice Bf.a cf.bits.length Bf.c, .slice Df.a cf.data.length Df.c, .slice Ef.a cf.ends.length Ef.c, .slice Xf.a cf.words.length Xf.c] 43)) := HB6.out.alloc HB6.out.size _
  have Hf := Aside.mk (hasC_new (w := w) HOC.out HI.out.sb.size)
  replace HI := Aside.mk (HI.out.below hbel)
  replace Ha := Aside.mk (Ha.out.below hbel)
  replace Hb := Aside.mk (Hb.out.below hbel)
  replace Hc := Aside.mk (Hc.out.below hbel)
  replace Hd := Aside.mk (Hd.out.below hbel)
  replace He := Aside.mk (He.out.below hbel)
  clear HJ hbel HOC HB6
  clear w5
  generalize w6.alloc (.cells #[.int .i64 cf.k, .int .i64 cf.s, .int .i64 cf.n, .int .i64 cf.m, .slice Bf.a cf.bits.length Bf.c, .slice Df.a cf.data.length Df.c, .slice Ef.a cf.ends.length Ef.c, .slice Xf.a cf.words.length Xf.c] 43) = w5 at *
  generalize w6.heap.size = bf at *
  clear w6
  obtain ⟨p0, p1, p2, p3, p4, p5, p6, p7⟩ := box8 Hc.out.box
  obtain ⟨q0, q1, q2, q3, q4, q5, q6, q7⟩ := box8 Hd.out.box
  obtain ⟨cg, hcg⟩ : ∃ c, c = colOf k s (v.drop i) := ⟨_, rfl⟩
  have HJ := Aside.mk (join_eq (c := cg) HK.out Cc.out Cd.out (by rw [HL3.out]; exact hcg) (by rw [HL3.out]; exact HFD.out) Hc.out Hd.out)
  have Cg := Aside.mk hcg
  clear hcg
  dsimp only [colV] at HJ
  go_upto_region 14 with (go_at_call 23; refine HJ.out.mono ?_; rintro e w6 ⟨Bg, Dg, Eg, Xg, lg, rfl, hoc, hb6⟩; have HOC := Aside.mk hoc; have HB6 := Aside.mk hb6; clear hoc hb6 p0 p1 p2 p3 p4 p5 p6 p7 q0 q1 q2 q3 q4 q5 q6 q7; dsimp only [colV])
  have hbel : Below w5.heap.size w5 (w6.alloc (.cells #[.int .i64 cg.k, .int .i64 cg.s, .int .i64 cg.n, .int .i64 cg.m, .slice Bg.a cg.bits.length Bg.c, .slice Dg.a cg.data.length Dg.c, .slice Eg.a cg.ends.length Eg.c, .slice Xg.a cg.words.length Xg.c] 43)) := HB6.out.alloc HB6.out.size _
  have Hg := Aside.mk (hasC_new (w := w) HOC.out HI.out.sb.size)
  replace HI := Aside.mk (HI.out.below hbel)
  replace Ha := Aside.mk (Ha.out.below hbel)
  replace Hb := Aside.mk (Hb.out.below hbel)
  replace Hc := Aside.mk (Hc.out.below hbel)
  replace Hd := Aside.mk (Hd.out.below hbel)
  replace He := Aside.mk (He.out.below hbel)
  replace Hf := Aside.mk (Hf.out.below hbel)
  clear HJ hbel HOC HB6
  clear w5
  generalize w6.alloc (.cells #[.int .i64 cg.k, .int .i64 cg.s, .int .i64 cg.n, .int .i64 cg.m, .slice Bg.a cg.bits.length Bg.c, .slice Dg.a cg.data.length Dg.c, .slice Eg.a cg.ends.length Eg.c, .slice Xg.a cg.words.length Xg.c] 43) = w5 at *
  generalize w6.heap.size = bg at *
  clear w6
  obtain ⟨p0, p1, p2, p3, p4, p5, p6, p7⟩ := box8 Hb.out.box
  obtain ⟨q0, q1, q2, q3, q4, q5, q6, q7⟩ := box8 Hg.out.box
  obtain ⟨ch, hch⟩ : ∃ c, c = colOf k s v := ⟨_, rfl⟩
  have HJ := Aside.mk (join_eq (c := ch) HK.out Cb.out Cg.out (by rw [HL4.out]; exact hch) (by rw [HL4.out]; exact HALL.out) Hb.out Hg.out)
  have Ch := Aside.mk hch
  clear hch
  dsimp only [colV] at HJ
  go_upto_region 15 with (go_at_call 23; refine HJ.out.mono ?_; rintro e w6 ⟨Bh, Dh, Eh, Xh, lh, rfl, hoc, hb6⟩; have HOC := Aside.mk hoc; have HB6 := Aside.mk hb6; clear hoc hb6 p0 p1 p2 p3 p4 p5 p6 p7 q0 q1 q2 q3 q4 q5 q6 q7; dsimp only [colV])
  have hbel : Below w5.heap.size w5 (w6.alloc (.cells #[.int .i64 ch.k, .int .i64 ch.s, .int .i64 ch.n, .int .i64 ch.m, .slice Bh.a ch.bits.length Bh.c, .slice Dh.a ch.data.length Dh.c, .slice Eh.a ch.ends.length Eh.c, .slice Xh.a ch.words.length Xh.c] 43)) := HB6.out.alloc HB6.out.size _
  have Hh := Aside.mk (hasC_new (w := w) HOC.out HI.out.sb.size)
  replace HI := Aside.mk (HI.out.below hbel)
  replace Ha := Aside.mk (Ha.out.below hbel)
  replace Hb := Aside.mk (Hb.out.below hbel)
  replace Hc := Aside.mk (Hc.out.below hbel)
  replace Hd := Aside.mk (Hd.out.below hbel)
  replace He := Aside.mk (He.out.below hbel)
  replace Hf := Aside.mk (Hf.out.below hbel)
  replace Hg := Aside.mk (Hg.out.below hbel)
  clear HJ hbel HOC HB6
  clear w5
  generalize w6.alloc (.cells #[.int .i64 ch.k, .int .i64 ch.s, .int .i64 ch.n, .int .i64 ch.m, .slice Bh.a ch.bits.length Bh.c, .slice Dh.a ch.data.length Dh.c, .slice Eh.a ch.ends.length Eh.c, .slice Xh.a ch.words.length Xh.c] 43) = w5 at *
  generalize w6.heap.size = bh at *
  clear w6
  obtain ⟨p0, p1, p2, p3, p4, p5, p6, p7⟩ := box8 Hf.out.box
  obtain ⟨q0, q1, q2, q3, q4, q5, q6, q7⟩ := box8 Ha.out.box
  have HE := Aside.mk (equal_eq HK.out Cf.out Ca.out HALL.out Hf.out.own.rd Ha.out.own.rd)
  dsimp only [colV] at HE
  go_wp2_with (go_at_call 9; refine (num_any _ _).mono ?_; rintro e wn ⟨rfl, rfl⟩)
  refine HE.out.mono ?_
  rintro e w6 ⟨rfl, hbel⟩
  clear p0 p1 p2 p3 p4 p5 p6 p7 q0 q1 q2 q3 q4 q5 q6 q7 HE
  replace HI := Aside.mk (HI.out.below hbel)
  replace Ha := Aside.mk (Ha.out.below hbel)
  replace Hb := Aside.mk (Hb.out.below hbel)
  replace Hc := Aside.mk (Hc.out.below hbel)
  replace Hd := Aside.mk (Hd.out.below hbel)
  replace He := Aside.mk (He.out.below hbel)
  replace Hf := Aside.mk (Hf.out.below hbel)
  replace Hg := Aside.mk (Hg.out.below hbel)
  replace Hh := Aside.mk (Hh.out.below hbel)
  clear hbel
  clear w5
  generalize w6 = w5 at *
  obtain ⟨p0, p1, p2, p3, p4, p5, p6, p7⟩ := box8 Hh.out.box
  obtain ⟨q0, q1, q2, q3, q4, q5, q6, q7⟩ := box8 Ha.out.box
  have HE := Aside.mk (equal_eq HK.out Ch.out Ca.out HALL.out Hh.out.own.rd Ha.out.own.rd)
  dsimp only [colV] at HE
  go_wp2_with fail
  refine HE.out.mono ?_
  rintro e w6 ⟨rfl, hbel⟩
  clear p0 p1 p2 p3 p4 p5 p6 p7 q0 q1 q2 q3 q4 q5 q6 q7 HE
  replace HI := Aside.mk (HI.out.below hbel)
  replace Ha := Aside.mk (Ha.out.below hbel)
  replace Hb := Aside.mk (Hb.out.below hbel)
  replace Hc := Aside.mk (Hc.out.below hbel)
  replace Hd := Aside.mk (Hd.out.below hbel)
  replace He := Aside.mk (He.out.below hbel)
  replace Hf := Aside.mk (Hf.out.below hbel)
  replace Hg := Aside.mk (Hg.out.below hbel)
  replace Hh := Aside.mk (Hh.out.below hbel)
  clear hbel
  clear w5
  generalize w6 = w5 at *
  obtain ⟨c0, c1⟩ := HI.out.type
  go_wp2_with (go_at_call 25; refine (new_BS k s w5 HK.out).mono ?_; rintro e w6 ⟨bl, rfl, hbs, hbel⟩; have HBS := Aside.mk hbs; have HN := Aside.mk hbel; clear hbs hbel c0 c1)
  have HB := Aside.mk (show B5 w5 w6 bl k s [] from ⟨HBS.out, HN.out⟩)
  clear HBS HN
  have HA1 := Aside.mk (fun (W : World) (hB : B5 w5 W bl k s []) => append5 HK.out Cb.out (l := []) (by rw [List.nil_append]; exact (few_app (by rw [HL4.out]; exact HALL.out : Few (v.take i ++ v.drop i) ∧ ∀ x ∈ v.take i ++ v.drop i, vOK k s x)).1) Hb.out hB)
  have HA2 := Aside.mk (fun (W : World) (hB : B5 w5 W bl k s ([] ++ v.take i)) => append5 HK.out Cc.out (by rw [List.nil_append, HL1.out]; exact HFJ.out) Hc.out hB)
  have HA3 := Aside.mk (fun (W : World) (hB : B5 w5 W bl k s ([] ++ v.take i ++ (v.drop i).take (j - i))) => append5 HK.out Cd.out (by rw [List.nil_append, HL1.out, HL2.out]; exact HALL.out) Hd.out hB)
  have HLA := Aside.mk (show [] ++ v.take i ++ (v.drop i).take (j - i) ++ v.drop j = v by rw [List.nil_append, HL1.out, HL2.out])
  have HCO := Aside.mk (fun (W : World) (hB : B5 w5 W bl k s v) => column_of HALL.out.1 _ bl Ca.out W hB.bs)
  have HEQ := Aside.mk (fun (W : World) (hB : Below w5.heap.size w5 W) (B D E X : SL) (vals : List Value) (h : RdC W ca B D E X vals) => equal_eq HK.out Ca.out Ca.out HALL.out h (Ha.out.below hB).own.rd)
  dsimp only [colV] at HA1 HA2 HA3 HEQ
  go_cut [185] from 151 to 185 (fun s185 wx => s185 = .bool false ∧ Aside (B5 w5 wx bl k s v))
  case first =>
    obtain ⟨p0, p1, p2, p3, p4, p5, p6, p7⟩ := box8 (Hb.out.below HB.out.bel).box
    go_region_law (first
      | (refine step_callG (P := Try.prog) _ 9 [.tmp 151] _ (by rfl) (by kernel_rfl) [.int .i64 0] (by rfl) (fun _ _ => rfl) (num_any _ _) ?_; rintro e wn ⟨rfl, rfl⟩; refine ⟨_, rfl, ?_⟩)
      | (refine step_callG (P := Try.prog) _ 9 [.tmp 161] _ (by rfl) (by kernel_rfl) [.int .i64 0] (by rfl) (fun _ _ => rfl) (num_any _ _) ?_; rintro e wn ⟨rfl, rfl⟩; refine ⟨_, rfl, ?_⟩)
      | (refine step_callG (P := Try.prog) _ 9 [.tmp 168] _ (by rfl) (by kernel_rfl) [.int .i64 0] (by rfl) (fun _ _ => rfl) (num_any _ _) ?_; rintro e wn ⟨rfl, rfl⟩; refine ⟨_, rfl, ?_⟩)
      | (refine step_callG (P := Try.prog) _ 9 [.tmp 175] _ (by rfl) (by kernel_rfl) [.int .i64 0] (by rfl) (fun _ _ => rfl) (num_any _ _) ?_; rintro e wn ⟨rfl, rfl⟩; refine ⟨_, rfl, ?_⟩)
      | (refine step_callG (P := Try.prog) _ 26 [.tmp 159, .tmp 160] _ (by rfl) (by kernel_rfl) [.pointer (some ⟨bl, 0, none⟩), .agg #[.int .i64 cb.k, .int .i64 cb.s, .int .i64 cb.n, .int .i64 cb.m, .slice Bb.a cb.bits.length Bb.c, .slice Db.a cb.data.length Db.c, .slice Eb.a cb.ends.length Eb.c, .slice Xb.a cb.words.length Xb.c]] (by rfl) (fun _ _ => rfl) (HA1.out _ (HB.out.below (below_drewN _ _ 1))) ?_; rintro e wA ⟨rfl, hB⟩; have HBA := Aside.mk hB; clear p0 p1 p2 p3 p4 p5 p6 p7; obtain ⟨p0, p1, p2, p3, p4, p5, p6, p7⟩ := box8 (Hc.out.below hB.bel).box; clear hB; refine ⟨_, rfl, ?_⟩)
      | (refine step_callG (P := Try.prog) _ 26 [.tmp 166, .tmp 167] _ (by rfl) (by kernel_rfl) [.pointer (some ⟨bl, 0, none⟩), .agg #[.int .i64 cc.k, .int .i64 cc.s, .int .i64 cc.n, .int .i64 cc.m, .slice Bc.a cc.bits.length Bc.c, .slice Dc.a cc.data.length Dc.c, .slice Ec.a cc.ends.length Ec.c, .slice Xc.a cc.words.length Xc.c]] (by rfl) (fun _ _ => rfl) (HA2.out _ HBA.out) ?_; rintro e wB ⟨rfl, hB⟩; have HBB := Aside.mk hB; clear p0 p1 p2 p3 p4 p5 p6 p7; obtain ⟨p0, p1, p2, p3, p4, p5, p6, p7⟩ := box8 (Hd.out.below hB.bel).box; clear hB; refine ⟨_, rfl, ?_⟩)
      | (refine step_callG (P := Try.prog) _ 26 [.tmp 173, .tmp 174] _ (by rfl) (by kernel_rfl) [.pointer (some ⟨bl, 0, none⟩), .agg #[.int .i64 cd.k, .int .i64 cd.s, .int .i64 cd.n, .int .i64 cd.m, .slice Bd.a cd.bits.length Bd.c, .slice Dd.a cd.data.length Dd.c, .slice Ed.a cd.ends.length Ed.c, .slice Xd.a cd.words.length Xd.c]] (by rfl) (fun _ _ => rfl) (HA3.out _ HBB.out) ?_; rintro e wC ⟨rfl, hB⟩; rw [HLA.out] at hB; have HBC := Aside.mk hB; clear p0 p1 p2 p3 p4 p5 p6 p7; obtain ⟨p0, p1, p2, p3, p4, p5, p6, p7⟩ := box8 (Ha.out.below hB.bel).box; clear hB; refine ⟨_, rfl, ?_⟩)
      | (refine step_callG (P := Try.prog) _ 27 [.tmp 180] _ (by rfl) (by kernel_rfl) [.pointer (some ⟨bl, 0, none⟩)] (by rfl) (fun _ _ => rfl) (HCO.out _ HBC.out) ?_; rintro e wD ⟨By, Dy, Ey, Xy, ly, rfl, hoc, hbd⟩; have HOC := Aside.mk hoc; have HBD := Aside.mk (HBC.out.below hbd); clear p0 p1 p2 p3 p4 p5 p6 p7; obtain ⟨p0, p1, p2, p3, p4, p5, p6, p7⟩ := box8 (Ha.out.below HBD.out.bel).box; clear hoc hbd; dsimp only [colV]; refine ⟨_, rfl, ?_⟩)
      | (refine step_callG (P := Try.prog) _ 24 [.tmp 181, .tmp 182] _ (by rfl) (by kernel_rfl) [.agg #[.int .i64 ca.k, .int .i64 ca.s, .int .i64 ca.n, .int .i64 ca.m, .slice By.a ca.bits.length By.c, .slice Dy.a ca.data.length Dy.c, .slice Ey.a ca.ends.length Ey.c, .slice Xy.a ca.words.length Xy.c], .agg #[.int .i64 ca.k, .int .i64 ca.s, .int .i64 ca.n, .int .i64 ca.m, .slice Ba.a ca.bits.length Ba.c, .slice Da.a ca.data.length Da.c, .slice Ea.a ca.ends.length Ea.c, .slice Xa.a ca.words.length Xa.c]] (by rfl) (fun _ _ => rfl) (HEQ.out _ HBD.out.bel By Dy Ey Xy ly HOC.out.rd) ?_; rintro e wE ⟨rfl, hbe⟩; have HBE := Aside.mk (HBD.out.below hbe); clear hbe; refine ⟨_, rfl, ?_⟩))
    all_goals
      go_wp2_with fail
      go_meet
      exact ⟨rfl, HBE⟩
  case rest =>
  obtain ⟨rfl, HB2⟩ := hcut
  clear HA1 HA2 HA3 HCO HEQ HB HLA
  go_upto_region 20 with fail
  obtain ⟨p0, p1, p2, p3, p4, p5, p6, p7⟩ := box8 (Ha.out.below HB2.out.bel).box
  obtain ⟨ci, hci⟩ : ∃ c, c = colOf k s ((v.take j).drop i) := ⟨_, rfl⟩
  have HCU := Aside.mk (cut_eq (c := ci) HK.out Ca.out hci HALL.out hij hjv (Ha.out.below HB2.out.bel))
  have Ci := Aside.mk (show ci = colOf k s ((v.drop i).take (j - i)) by rw [hci, List.drop_take])
  clear hci
  dsimp only [colV] at HCU
  go_upto_region 21 with (go_at_call 28; refine HCU.out.mono ?_; rintro e w7 ⟨Bi, Di, Ei, Xi, li, rfl, hoc, hb7⟩; have HOC := Aside.mk hoc; have HB7 := Aside.mk hb7; clear hoc hb7 p0 p1 p2 p3 p4 p5 p6 p7; dsimp only [colV])
  have hbel : Below wc.heap.size wc (w7.alloc (.cells #[.int .i64 ci.k, .int .i64 ci.s, .int .i64 ci.n, .int .i64 ci.m, .slice Bi.a ci.bits.length Bi.c, .slice Di.a ci.data.length Di.c, .slice Ei.a ci.ends.length Ei.c, .slice Xi.a ci.words.length Xi.c] 43)) := HB7.out.alloc HB7.out.size _
  have Hi := Aside.mk (hasC_new (w := w) HOC.out (Nat.le_trans HI.out.sb.size HB2.out.bel.size))
  have HB3 := Aside.mk (HB2.out.below hbel)
  clear HCU hbel HOC HB7 HB2
  generalize w7.alloc (.cells #[.int .i64 ci.k, .int .i64 ci.s, .int .i64 ci.n, .int .i64 ci.m, .slice Bi.a ci.bits.length Bi.c, .slice Di.a ci.data.length Di.c, .slice Ei.a ci.ends.length Ei.c, .slice Xi.a ci.words.length Xi.c] 43) = w8 at *
  generalize w7.heap.size = bi at *
  have HFM := Aside.mk (few_mid HALL.out i j)
  have HE := Aside.mk (equal_eq HK.out Ci.out Cc.out HFM.out Hi.out.own.rd (Hc.out.below HB3.out.bel).own.rd)
  dsimp only [colV] at HE
  obtain ⟨p0, p1, p2, p3, p4, p5, p6, p7⟩ := box8 Hi.out.box
  obtain ⟨q0, q1, q2, q3, q4, q5, q6, q7⟩ := box8 (Hc.out.below HB3.out.bel).box
  have HBK := Aside.mk (fun (W : World) (hB : B5 w5 W bl k s v) => back_BS _ bl k s v HK.out HALL.out.1 HALL.out.2 j hjv W hB.bs)
  go_upto_region 23 with (first
    | (go_at_call 9; refine (num_any _ _).mono ?_; rintro e wn ⟨rfl, rfl⟩)
    | (go_at_call 24; refine HE.out.mono ?_; rintro e w9 ⟨rfl, hbel⟩; have HB4 := Aside.mk (HB3.out.below hbel); clear hbel HE p0 p1 p2 p3 p4 p5 p6 p7 q0 q1 q2 q3 q4 q5 q6 q7)
    | (go_at_call 29; refine (HBK.out _ HB4.out).mono ?_; rintro e w10 hs; obtain ⟨he, hb5⟩ := HB4.out.step hs; subst he; have HB5 := Aside.mk hb5; clear hs hb5))
  have HCO := Aside.mk (fun (W : World) (hB : B5 w5 W bl k s (v.take j)) => column_of HFJ.out.1 _ bl Ce.out W hB.bs)
  have HEQ := Aside.mk (fun (W : World) (hB : Below w5.heap.size w5 W) (B D E X : SL) (vals : List Value) (h : RdC W ce B D E X vals) => equal_eq HK.out Ce.out Ce.out HFJ.out h (He.out.below hB).own.rd)
  have HCK := Aside.mk (fun (W : World) (hB : Below w5.heap.size w5 W) => check_eq HK.out Ca.out HALL.out (Ha.out.below hB).own.rd)
  dsimp only [colV] at HEQ HCK
  obtain ⟨p0, p1, p2, p3, p4, p5, p6, p7⟩ := box8 (He.out.below HB5.out.bel).box
  go_region_law (first
    | (refine step_callG (P := Try.prog) _ 27 [.tmp 209] _ (by rfl) (by kernel_rfl) [.pointer (some ⟨bl, 0, none⟩)] (by rfl) (fun _ _ => rfl) (HCO.out _ (HB5.out.below (below_drewN _ _ 1))) ?_; rintro e wD ⟨By, Dy, Ey, Xy, ly, rfl, hoc, hbd⟩; have HOC := Aside.mk hoc; have HBD := Aside.mk ((HB5.out.below (below_drewN _ _ 1)).below hbd); clear p0 p1 p2 p3 p4 p5 p6 p7; obtain ⟨p0, p1, p2, p3, p4, p5, p6, p7⟩ := box8 (He.out.below HBD.out.bel).box; clear hoc hbd; dsimp only [colV]; refine ⟨_, rfl, ?_⟩)
    | (refine step_callG (P := Try.prog) _ 24 [.tmp 210, .tmp 211] _ (by rfl) (by kernel_rfl) [.agg #[.int .i64 ce.k, .int .i64 ce.s, .int .i64 ce.n, .int .i64 ce.m, .slice By.a ce.bits.length By.c, .slice Dy.a ce.data.length Dy.c, .slice Ey.a ce.ends.length Ey.c, .slice Xy.a ce.words.length Xy.c], .agg #[.int .i64 ce.k, .int .i64 ce.s, .int .i64 ce.n, .int .i64 ce.m, .slice Be.a ce.bits.length Be.c, .slice De.a ce.data.length De.c, .slice Ee.a ce.ends.length Ee.c, .slice Xe.a ce.words.length Xe.c]] (by rfl) (fun _ _ => rfl) (HEQ.out _ HBD.out.bel By Dy Ey Xy ly HOC.out.rd) ?_; rintro e wE ⟨rfl, hbe⟩; have HBE := Aside.mk (HBD.out.below hbe); clear p0 p1 p2 p3 p4 p5 p6 p7; obtain ⟨p0, p1, p2, p3, p4, p5, p6, p7⟩ := box8 (Ha.out.below HBE.out.bel).box; clear hbe; refine ⟨_, rfl, ?_⟩)
    | (refine step_callG (P := Try.prog) _ 30 [.tmp 214] _ (by rfl) (by kernel_rfl) [.agg #[.int .i64 ca.k, .int .i64 ca.s, .int .i64 ca.n, .int .i64 ca.m, .slice Ba.a ca.bits.length Ba.c, .slice Da.a ca.data.length Da.c, .slice Ea.a ca.ends.length Ea.c, .slice Xa.a ca.words.length Xa.c]] (by rfl) (fun _ _ => rfl) (HCK.out _ HBE.out.bel) ?_; rintro e wF ⟨rfl, hbf⟩; have HBF := Aside.mk (HBE.out.below hbf); clear hbf; refine ⟨_, rfl, ?_⟩)
    | (refine step_callG (P := Try.prog) _ 9 [.tmp 215] _ (by rfl) (by kernel_rfl) [.int .i64 0] (by rfl) (fun _ _ => rfl) (num_any _ _) ?_; rintro e wn ⟨rfl, rfl⟩; refine ⟨_, rfl, ?_⟩))
  all_goals
    go_wp2_with fail
    go_ret
    exact ⟨rfl, below_chain HI.out.sb HBF.out.bel⟩
end Go.Proofs.Ytmhjjhaipcgbiaa


/- What a law's arguments hold: data of plain shapes, read out of the row's own reading. Over any program. -/
namespace Go.Proofs.Ytmhjjhaipcgbiaa
open Go.RowKit Go.ChangeShapes
set_option linter.unusedVariables false
set_option linter.unusedSimpArgs false

/-- The shapes of plain data. A struct is 'st' of a row of fields, 'cons' by 'cons'. -/
inductive Sh where
  | int (k : IntKind) | bool | str | sl (e : Sh) | st (fs : Sh) | nil | cons (f r : Sh)

namespace Sh
def size : Sh → Nat
  | int _ => 1 | bool => 1 | str => 1 | sl _ => 1 | st fs => fs.size | nil => 0 | cons f r => f.size + r.size
/-- Is it a row of fields? -/
def fields : Sh → Bool
  | nil => true | cons _ _ => true | _ => false
/-- A shape is a type's; 'nil' and 'cons' are a list of fields', from an offset on. -/
def ok (P : Program) : Sh → TypeId → List Field → Nat → Prop
  | int k, t, _, _ => P.underlying t = some (.int k)
  | bool, t, _, _ => P.underlying t = some .bool
  | str, t, _, _ => P.underlying t = some .string
  | sl e, t, _, _ => ∃ te, P.underlying t = some (.slice te) ∧ P.cellsOf te = e.size ∧ 0 < e.size ∧ e.fields = false ∧ e.ok P te [] 0
  | st fs, t, _, _ => ∃ fl : Array Field, P.underlying t = some (.struct fl) ∧ P.cellsOf t = fs.size ∧ fs.fields = true ∧ fs.ok P 0 fl.toList 0
  | nil, _, fl, _ => fl = []
  | cons f r, _, fl, o => ∃ fd rest, fl = fd :: rest ∧ fd.offset = o ∧ P.cellsOf fd.type = f.size ∧ f.fields = false ∧ r.fields = true ∧ f.ok P fd.type [] 0 ∧ r.ok P 0 rest (o + f.size)
/-- What is read. -/
def M : Sh → Type
  | int _ => Int | bool => Bool | str => ByteArray | sl e => List e.M | st fs => fs.M | nil => Unit | cons f r => f.M × r.M
def Reads (w : World) : (s : Sh) → List Value → s.M → Prop
  | int k, cs, n => cs = [.int k n] ∧ (Lit.int k n).wf = true
  | bool, cs, b => cs = [.bool b]
  | str, cs, s => cs = [.string s] ∧ ByteArray.size s ≤ maxLen
  | sl e, cs, l => ∃ a cap, cs = [.slice a (List.length l) cap] ∧ List.length l ≤ cap ∧ cap ≤ maxLen ∧ (a = none → List.length l = 0 ∧ cap = 0) ∧
      ∀ i (h : i < List.length l), ∃ b off cs', a = some ⟨b, off, none⟩ ∧ cs'.length = e.size ∧ (∀ j u, cs'[j]? = some u → w.cell? ⟨b, off + i * e.size + j, none⟩ = some u) ∧ e.Reads w cs' (List.get l ⟨i, h⟩)
  | st fs, cs, m => fs.Reads w cs m
  | nil, cs, _ => cs = []
  | cons f r, cs, m => ∃ c1 c2, cs = c1 ++ c2 ∧ c1.length = f.size ∧ f.Reads w c1 m.1 ∧ r.Reads w c2 m.2
/-- What is read, as the row's data (one datum; of fields: a list of them). -/
def Dat {H : Type} : (s : Sh) → s.M → List (DataW H) → Prop
  | int k, n, ds => ds = [.lit (.int k n)]
  | bool, b, ds => ds = [.lit (.bool b)]
  | str, s, ds => ds = [.lit (.string (ByteArray.data s).toList)]
  | sl e, l, ds => (List.length l = 0 ∧ ds = [.nil]) ∨ ∃ els rest, ds = [.slice els rest] ∧ List.length els = List.length l ∧ ∀ i (h : i < List.length l) (h' : i < List.length els), e.Dat (List.get l ⟨i, h⟩) [List.get els ⟨i, h'⟩]
  | st fs, m, ds => ∃ ds', ds = [.agg ds'] ∧ fs.Dat m ds'
  | nil, _, ds => ds = []
  | cons f r, m, ds => ∃ d rest, ds = d :: rest ∧ f.Dat m.1 [d] ∧ r.Dat m.2 rest

section
variable {H : Type} {enc : TypeId × Value → H} {P : Program} {w : World} {base : Nat} {spare : Nat → Bool} {held : Bool}

theorem cells?_get {a : Addr} {n : Nat} {cs : List Value} (h : w.cells? base a n = some cs) : cs.length = n ∧ ∀ j u, cs[j]? = some u → w.cell? (a.add j) = some u := by
  unfold World.cells? at h
  split at h
  · have hl := mapM_some_length h
    simp at hl
    refine ⟨hl, fun j u hu => ?_⟩
    have hj : j < n := by have := (List.getElem?_eq_some_iff.1 hu).1; omega
    have := mapM_some_get h j j (by simp [hj])
    rw [this]; exact hu
  · cases h

theorem reads_of_trod (s : Sh) : (∀ (t : TypeId) (fuel : Nat) (cs : List Value) (x : DataW H × List MemPlace), s.ok P t [] 0 → s.fields = false → DataW.trod enc P w base spare held fuel t cs = some x → ∃ m, s.Reads w cs m ∧ s.Dat m [x.1]) ∧
    (∀ (fl : List Field) (o n : Nat) (cs : List Value) (xs : List (DataW H × List MemPlace)), s.ok P 0 fl o → s.fields = true → o + s.size ≤ cs.length → xs.length = fl.length →
      (∀ (i : Nat) (f : Field), fl[i]? = some f → DataW.trod enc P w base spare held n f.type ((cs.drop f.offset).take (P.cellsOf f.type)) = xs[i]?) → ∃ m, s.Reads w ((cs.drop o).take s.size) m ∧ s.Dat m (xs.map (·.1))) := by
  induction s with
  | int k =>
    refine ⟨fun t fuel cs x hok _ h => ?_, (fun _ _ _ _ _ _ h => (by cases h))⟩
    obtain ⟨n, h1, h2, h3⟩ := DataW.trod_int hok h
    exact ⟨n, ⟨h1, h3⟩, by rw [h2]; rfl⟩
  | bool =>
    refine ⟨fun t fuel cs x hok _ h => ?_, (fun _ _ _ _ _ _ h => (by cases h))⟩
    obtain ⟨b, h1, h2⟩ := DataW.trod_bool hok h
    exact ⟨b, h1, by rw [h2]; rfl⟩
  | str =>
    refine ⟨fun t fuel cs x hok _ h => ?_, (fun _ _ _ _ _ _ h => (by cases h))⟩
    obtain ⟨b, h1, h2, h3⟩ := DataW.trod_string hok h
    exact ⟨b, ⟨h1, h3⟩, by rw [h2]; rfl⟩
  | sl e ih =>
    refine ⟨fun t fuel cs x hok _ h => ?_, (fun _ _ _ _ _ _ h => (by cases h))⟩
    obtain ⟨te, ht, hc, hp, hne, hoe⟩ := hok
    rcases Go.Deep.open_slice ht h with ⟨rfl, rfl⟩ | ⟨a, len, cap, m, n, D, Pl, rfl, hb, hl, hm, hmm, rfl, hx⟩
    · exact ⟨[], ⟨none, 0, rfl, Nat.le_refl _, by decide, fun _ => ⟨rfl, rfl⟩, fun i h => absurd h (by simp)⟩, .inl ⟨rfl, rfl⟩⟩
    · have hml : len ≤ m := by rw [hmm]; split <;> omega
      have key : ∀ i, i < len → ∃ md : e.M, (∃ b off cs', a = ⟨b, off, none⟩ ∧ cs'.length = e.size ∧ (∀ j u, cs'[j]? = some u → w.cell? ⟨b, off + i * e.size + j, none⟩ = some u) ∧ e.Reads w cs' md) ∧ e.Dat md [D i] := by
        intro i hi
        obtain ⟨cs', h1, h2⟩ := hx i (by omega)
        obtain ⟨h3, h4⟩ := cells?_get h1
        obtain ⟨md, h5, h6⟩ := ih.1 te n cs' _ hoe hne h2
        obtain ⟨cs0, g1, _⟩ := hx 0 (by omega)
        obtain ⟨g3, g4⟩ := cells?_get g1
        obtain ⟨b, off, sp⟩ := a
        have hsp : sp = none := by
          have := g4 0 (cs0[0]'(by rw [g3, hc]; exact hp)) (List.getElem?_eq_getElem _)
          have := World.cell?_spot this
          simpa [Addr.add] using this
        subst hsp
        refine ⟨md, ⟨b, off, cs', rfl, by rw [h3, hc], fun j u hu => ?_, h5⟩, h6⟩
        have := h4 j u hu
        rw [addr_add, addr_add, hc] at this
        exact this
      have hch : ∃ l : List e.M, l.length = len ∧ ∀ i (h : i < l.length), (∃ b off cs', a = ⟨b, off, none⟩ ∧ cs'.length = e.size ∧ (∀ j u, cs'[j]? = some u → w.cell? ⟨b, off + i * e.size + j, none⟩ = some u) ∧ e.Reads w cs' (l.get ⟨i, h⟩)) ∧ e.Dat (l.get ⟨i, h⟩) [D i] := by
        clear hx hmm hml hl h
        induction len with
        | zero => exact ⟨[], rfl, fun i h => absurd h (by simp)⟩
        | succ len ih2 =>
          obtain ⟨l, hl1, hl2⟩ := ih2 (fun i hi => key i (by omega))
          obtain ⟨md, hmd⟩ := key len (by omega)
          refine ⟨l ++ [md], by simp [hl1], fun i h => ?_⟩
          by_cases hi : i < l.length
          · have : (l ++ [md]).get ⟨i, h⟩ = l.get ⟨i, hi⟩ := by simp [List.getElem_append_left hi]
            rw [this]; exact hl2 i hi
          · have hi' : i = len := by simp at h; omega
            subst hi'
            have : (l ++ [md]).get ⟨i, h⟩ = md := by simp [← hl1]
            rw [this]; exact hmd
      obtain ⟨l, hl1, hl2⟩ := hch
      refine ⟨l, ⟨some a, cap, by rw [hl1], by omega, hm, (fun e => by cases e), fun i h => ?_⟩, .inr ⟨_, _, rfl, by simp [hl1], fun i h h' => ?_⟩⟩
      · obtain ⟨⟨b, off, cs', rfl, r⟩, _⟩ := hl2 i h
        exact ⟨b, off, cs', rfl, r⟩
      · have := (hl2 i h).2
        simpa using this
  | st fs ih =>
    refine ⟨fun t fuel cs x hok _ h => ?_, (fun _ _ _ _ _ _ h => (by cases h))⟩
    obtain ⟨fl, ht, hc, hne, hof⟩ := hok
    obtain ⟨xs, n, _, rfl, hl, hlen, hf⟩ := DataW.trod_struct ht h
    obtain ⟨m, h1, h2⟩ := ih.2 fl.toList 0 n cs xs hof hne (by omega) (by simp [hlen]) (fun i f hi => hf i f (by simpa using hi))
    refine ⟨m, ?_, ⟨_, rfl, h2⟩⟩
    rw [List.drop_zero, List.take_of_length_le (by omega)] at h1
    exact h1
  | nil =>
    refine ⟨(fun _ _ _ _ _ h => (by cases h)), fun fl o n cs xs hok _ hl hx hf => ?_⟩
    have hfl : fl = [] := hok
    subst hfl
    exact ⟨(), by simp [Reads, size], by simp [Dat]; exact List.length_eq_zero_iff.1 hx⟩
  | cons f r ihf ihr =>
    refine ⟨(fun _ _ _ _ _ h => (by cases h)), fun fl o n cs xs hok _ hl hx hf => ?_⟩
    obtain ⟨fd, rest, rfl, ho, hc, hf1, hr1, h1, h2⟩ := hok
    match xs, hx with
    | x :: xs, hx =>
      simp only [size] at hl
      have g0 := hf 0 fd rfl
      rw [ho, hc] at g0
      obtain ⟨m1, g1, g2⟩ := ihf.1 fd.type n _ x h1 hf1 g0
      obtain ⟨m2, g3, g4⟩ := ihr.2 rest (o + f.size) n cs xs h2 hr1 (by omega) (by simpa using hx) (fun i fd' hi => hf (i + 1) fd' hi)
      refine ⟨(m1, m2), ⟨_, _, ?_, ?_, g1, g3⟩, ⟨x.1, xs.map (·.1), rfl, g2, g4⟩⟩
      · simp only [size]
        rw [List.take_add, List.drop_drop]
      · rw [List.length_take, List.length_drop]; omega
end
end Sh
end Go.Proofs.Ytmhjjhaipcgbiaa


/- Rows of values among a law's arguments. -/
namespace Go.Proofs.Ytmhjjhaipcgbiaa
open Go.RowKit
set_option linter.unusedVariables false
set_option linter.unusedSimpArgs false

/-- The shape of a row of values. -/
abbrev shVal : Sh := .st (.cons .bool (.cons (.int .u64) (.cons (.sl (.int .u8)) .nil)))
def toV (m : Sh.M shVal) : V := ⟨m.1, m.2.1.toNat, m.2.2.1⟩

theorem u64_wf {b : Int} (h : (Lit.int .u64 b).wf = true) : 0 ≤ b ∧ b ≤ 18446744073709551615 := by
  simp [Lit.wf] at h
  have h1 : IntKind.u64.min = 0 := by decide
  have h2 : IntKind.u64.max = 18446744073709551615 := by decide
  omega

theorem u8_wf {b : Int} (h : (Lit.int .u8 b).wf = true) : 0 ≤ b ∧ b < 256 := by
  simp [Lit.wf] at h
  have h1 : IntKind.u8.min = 0 := by decide
  have h2 : IntKind.u8.max = 255 := by decide
  omega

theorem rd_of_sl {w : World} {cs : List Value} {l : List Int} (h : Sh.Reads w (.sl (.int .u8)) cs l) : ∃ a cap, cs = [.slice a l.length cap] ∧ Rd w 1 (.slice a l.length cap) l.length (l.map (.int .u8)) ∧ IsBytes l ∧ l.length ≤ 9223372036854775807 := by
  obtain ⟨a, cap, rfl, h1, h2, h3, h4⟩ := h
  refine ⟨a, cap, rfl, ⟨by simp, a, cap, rfl, h1, h2, h3, fun j u hu => ?_⟩, fun x hx => ?_, by unfold maxLen at h2; exact Nat.le_trans h1 h2⟩
  · rw [List.getElem?_map] at hu
    cases hj : l[j]? with
    | none => rw [hj] at hu; cases hu
    | some y =>
      rw [hj] at hu
      cases hu
      obtain ⟨hlt, rfl⟩ := List.getElem?_eq_some_iff.1 hj
      obtain ⟨b, off, cs', e, _, hc, hr, _⟩ := h4 j hlt
      refine ⟨b, off, e, ?_⟩
      have := hc 0 _ (by rw [hr]; rfl)
      rw [show off + j * Sh.size (.int .u8) + 0 = off + j by show off + j * 1 + 0 = _; omega] at this
      exact this
  · obtain ⟨i, hi, rfl⟩ := List.mem_iff_getElem.1 hx
    obtain ⟨b, off, cs', e, _, hc, hr, hw⟩ := h4 i hi
    exact u8_wf hw

theorem rdvs_of_sl {w : World} {cs : List Value} {l : List (Sh.M shVal)} (h : Sh.Reads w (.sl shVal) cs l) : ∃ A : SL, cs = [.slice A.a (l.map toV).length A.c] ∧ RdVs w A (l.map toV) ∧ (l.map toV).length ≤ 9223372036854775807 ∧ ∀ v ∈ l.map toV, IsBytes v.text ∧ v.bits < 18446744073709551616 ∧ v.text.length ≤ 9223372036854775807 := by
  obtain ⟨a, cap, rfl, h1, h2, h3, h4⟩ := h
  have key : ∀ i, ∃ p : Option Addr × Nat, ∀ (hi : i < l.length), ∃ b off, a = some ⟨b, off, none⟩ ∧ w.cell? ⟨b, off + i * 3 + 0, none⟩ = some (.bool (toV (l.get ⟨i, hi⟩)).null) ∧ w.cell? ⟨b, off + i * 3 + 1, none⟩ = some (.int .u64 ((toV (l.get ⟨i, hi⟩)).bits : Int)) ∧
      w.cell? ⟨b, off + i * 3 + 2, none⟩ = some (.slice p.1 (toV (l.get ⟨i, hi⟩)).text.length p.2) ∧ Rd w 1 (.slice p.1 (toV (l.get ⟨i, hi⟩)).text.length p.2) (toV (l.get ⟨i, hi⟩)).text.length ((toV (l.get ⟨i, hi⟩)).text.map (.int .u8)) ∧
      IsBytes (toV (l.get ⟨i, hi⟩)).text ∧ (toV (l.get ⟨i, hi⟩)).bits < 18446744073709551616 ∧ (toV (l.get ⟨i, hi⟩)).text.length ≤ 9223372036854775807 := by
    intro i
    by_cases hi : i < l.length
    · obtain ⟨b, off, cs', e, hl, hc, hr⟩ := h4 i hi
      obtain ⟨c1, c2, e1, _, r1, c3, c4, e2, _, ⟨r2, wf⟩, c5, c6, e3, _, r3, r4⟩ := hr
      obtain ⟨ta, tc, e4, hrd, hby, hlm⟩ := rd_of_sl r3
      have hcs : cs' = [.bool (l.get ⟨i, hi⟩).1, .int .u64 (l.get ⟨i, hi⟩).2.1, .slice ta (l.get ⟨i, hi⟩).2.2.1.length tc] := by
        rw [e1, show c1 = [.bool (l.get ⟨i, hi⟩).1] from r1, e2, r2, e3, e4, show c6 = [] from r4]; rfl
      have hb := u64_wf wf
      have hnat : (((toV (l.get ⟨i, hi⟩)).bits : Nat) : Int) = (l.get ⟨i, hi⟩).2.1 := Int.toNat_of_nonneg hb.1
      refine ⟨(ta, tc), fun _ => ⟨b, off, e, ?_, ?_, ?_, hrd, hby, ?_, hlm⟩⟩
      · exact hc 0 _ (by rw [hcs]; rfl)
      · rw [hnat]; exact hc 1 _ (by rw [hcs]; rfl)
      · exact hc 2 _ (by rw [hcs]; rfl)
      · show (l.get ⟨i, hi⟩).2.1.toNat < _
        omega
    · exact ⟨(none, 0), fun h => absurd h hi⟩
  obtain ⟨f, hf⟩ := Classical.axiomOfChoice key
  have hlen : (l.map toV).length = l.length := List.length_map ..
  refine ⟨⟨a, cap⟩, by rw [hlen], ?_, by rw [hlen]; unfold maxLen at h2; exact Nat.le_trans h1 h2, ?_⟩
  · let row : Nat → List Value := fun i => if hi : i < l.length then [.bool (toV (l.get ⟨i, hi⟩)).null, .int .u64 ((toV (l.get ⟨i, hi⟩)).bits : Int), .slice (f i).1 (toV (l.get ⟨i, hi⟩)).text.length (f i).2] else [.bool false, .bool false, .bool false]
    have hrow : ∀ i, (row i).length = 3 := fun i => by show (dite _ _ _ : List Value).length = 3; split <;> rfl
    have hget : ∀ i (hi : i < l.length) j, j < 3 → ((List.range l.length).flatMap row)[i * 3 + j]? = [Value.bool (toV (l.get ⟨i, hi⟩)).null, .int .u64 ((toV (l.get ⟨i, hi⟩)).bits : Int), .slice (f i).1 (toV (l.get ⟨i, hi⟩)).text.length (f i).2][j]? := fun i hi j hj => by
      rw [flatMap_get row 3 hrow (List.range l.length) i j (by simpa using hi) hj, List.getElem_range]
      show (dite _ _ _ : List Value)[j]? = _
      rw [dif_pos hi]
    have hxl : ((List.range l.length).flatMap row).length = l.length * 3 := by rw [flatMap_len row 3 hrow, List.length_range]
    refine ⟨(List.range l.length).flatMap row, ?_, fun i v hv => ?_⟩
    · rw [hlen]
      refine ⟨hxl, a, cap, rfl, h1, h2, h3, fun m u hu => ?_⟩
      have hm := (List.getElem?_eq_some_iff.1 hu).1
      have hi : m / 3 < l.length := by omega
      obtain ⟨b, off, e, q0, q1, q2, _⟩ := hf (m / 3) hi
      refine ⟨b, off, e, ?_⟩
      have hm3 : m = m / 3 * 3 + m % 3 := by omega
      have hr : m % 3 < 3 := Nat.mod_lt _ (by decide)
      rw [hm3, hget _ hi _ hr] at hu
      rcases get3 _ _ _ _ _ hu with ⟨e3, rfl⟩ | ⟨e3, rfl⟩ | ⟨e3, rfl⟩
      · rw [show off + m = off + m / 3 * 3 + 0 by omega]; exact q0
      · rw [show off + m = off + m / 3 * 3 + 1 by omega]; exact q1
      · rw [show off + m = off + m / 3 * 3 + 2 by omega]; exact q2
    · rw [List.getElem?_map] at hv
      obtain ⟨x, hx, rfl⟩ := Option.map_eq_some_iff.1 hv
      obtain ⟨hi, rfl⟩ := List.getElem?_eq_some_iff.1 hx
      obtain ⟨b, off, e, q0, q1, q2, q3, _⟩ := hf i hi
      exact ⟨(f i).1, (f i).2, hget i hi 0 (by decide), hget i hi 1 (by decide), hget i hi 2 (by decide), q3⟩
  · intro v hv
    obtain ⟨x, hx, rfl⟩ := List.mem_map.1 hv
    obtain ⟨i, hi, rfl⟩ := List.mem_iff_getElem.1 hx
    obtain ⟨_, _, _, _, _, _, _, q4, q5, q6⟩ := hf i hi
    exact ⟨q4, q5, q6⟩

end Go.Proofs.Ytmhjjhaipcgbiaa


/- ColumnJoins at the arguments as they come. -/
namespace Go.Proofs.Ytmhjjhaipcgbiaa
open Go.RowKit
set_option linter.unusedVariables false
set_option linter.unusedSimpArgs false

theorem joins_row (w : World) (n : Int) (wn : (Lit.int .i64 n).wf = true) (a : Option Addr) (k c : Nat) (m : List (Sh.M shVal)) (h : Sh.Reads w (.sl shVal) (Value.slice a k c).cells.toList m) (i : Int) (wi : (Lit.int .i64 i).wf = true) (j : Int) (wj : (Lit.int .i64 j).wf = true) : Calls Try.prog 5 #[.int .i64 n, .slice a k c, .int .i64 i, .int .i64 j] w fun e w' => e = .returned (.bool true) ∧ Below w.heap.size w w' := by
  obtain ⟨A, e, hr, hl, hb⟩ := rdvs_of_sl h
  have e2 : Value.slice a k c = .slice A.a (m.map toV).length A.c := by simpa [Value.cells] using e
  rw [e2]
  exact joins_walk n i j (m.map toV) A w hr hl hb
end Go.Proofs.Ytmhjjhaipcgbiaa
