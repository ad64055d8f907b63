/- Texts of this claim, one behind the other: Args, ArgVs, Fa. -/
import Derived.Test.YtmhjjhaipcgbiaaBakP1
import Derived.ProofKit
import Derived.OpenShut
import Derived.ShutString
import Derived.ChangeOld
import Derived.Deep.Slices
import Derived.SizedLaws
import Derived.Test.YtmhjjhaipcgbiaaBakP18
import Derived.Test.YtmhjjhaipcgbiaaBakP26
import Derived.Test.YtmhjjhaipcgbiaaBakP28
import Derived.Test.YtmhjjhaipcgbiaaBakP37

namespace Go.Proofs.Ytmhjjhaipcgbiaa
open Go.RowKit Go.ChangeShapes
set_option linter.unusedVariables false
set_option linter.unusedSimpArgs false
inductive Sh where
  | int (k : IntKind) | bool | str | sl (e : Sh) | st (fs : Sh) | nil | cons (f r : Sh)
namespace Sh
def size : Sh → Nat
  | int _ => 1 | bool => 1 | str => 1 | sl _ => 1 | st fs => fs.size | nil => 0 | cons f r => f.size + r.size
def fields : Sh → Bool
  | nil => true | cons _ _ => true | _ => false
def ok (P : Program) : Sh → TypeId → List Field → Nat → Prop
  | int k, t, _, _ => P.underlying t = some (.int k)
  | bool, t, _, _ => P.underlying t = some .bool
  | str, t, _, _ => P.underlying t = some .string
  | sl e, t, _, _ => ∃ te, P.underlying t = some (.slice te) ∧ P.cellsOf te = e.size ∧ 0 < e.size ∧ e.fields = false ∧ e.ok P te [] 0
  | st fs, t, _, _ => ∃ fl : Array Field, P.underlying t = some (.struct fl) ∧ P.cellsOf t = fs.size ∧ fs.fields = true ∧ fs.ok P 0 fl.toList 0
  | nil, _, fl, _ => fl = []
  | cons f r, _, fl, o => ∃ fd rest, fl = fd :: rest ∧ fd.offset = o ∧ P.cellsOf fd.type = f.size ∧ f.fields = false ∧ r.fields = true ∧ f.ok P fd.type [] 0 ∧ r.ok P 0 rest (o + f.size)
def M : Sh → Type
  | int _ => Int | bool => Bool | str => ByteArray | sl e => List e.M | st fs => fs.M | nil => Unit | cons f r => f.M × r.M
def Reads (w : World) : (s : Sh) → List Value → s.M → Prop
  | int k, cs, n => cs = [.int k n] ∧ (Lit.int k n).wf = true
  | bool, cs, b => cs = [.bool b]
  | str, cs, s => cs = [.string s] ∧ ByteArray.size s ≤ maxLen
  | sl e, cs, l => ∃ a cap, cs = [.slice a (List.length l) cap] ∧ List.length l ≤ cap ∧ cap ≤ maxLen ∧ (a = none → List.length l = 0 ∧ cap = 0) ∧
      ∀ i (h : i < List.length l), ∃ b off cs', a = some ⟨b, off, none⟩ ∧ cs'.length = e.size ∧ (∀ j u, cs'[j]? = some u → w.cell? ⟨b, off + i * e.size + j, none⟩ = some u) ∧ e.Reads w cs' (List.get l ⟨i, h⟩)
  | st fs, cs, m => fs.Reads w cs m
  | nil, cs, _ => cs = []
  | cons f r, cs, m => ∃ c1 c2, cs = c1 ++ c2 ∧ c1.length = f.size ∧ f.Reads w c1 m.1 ∧ r.Reads w c2 m.2
def Dat {H : Type} : (s : Sh) → s.M → List (DataW H) → Prop
  | int k, n, ds => ds = [.lit (.int k n)]
  | bool, b, ds => ds = [.lit (.bool b)]
  | str, s, ds => ds = [.lit (.string (ByteArray.data s).toList)]
  | sl e, l, ds => (List.length l = 0 ∧ ds = [.nil]) ∨ ∃ els rest, ds = [.slice els rest] ∧ List.length els = List.length l ∧ ∀ i (h : i < List.length l) (h' : i < List.length els), e.Dat (List.get l ⟨i, h⟩) [List.get els ⟨i, h'⟩]
  | st fs, m, ds => ∃ ds', ds = [.agg ds'] ∧ fs.Dat m ds'
  | nil, _, ds => ds = []
  | cons f r, m, ds => ∃ d rest, ds = d :: rest ∧ f.Dat m.1 [d] ∧ r.Dat m.2 rest
section
variable {H : Type} {enc : TypeId × Value → H} {P : Program} {w : World} {base : Nat} {spare : Nat → Bool} {held : Bool}
theorem cells?_get {a : Addr} {n : Nat} {cs : List Value} (h : w.cells? base a n = some cs) : cs.length = n ∧ ∀ j u, cs[j]? = some u → w.cell? (a.add j) = some u := by
  unfold World.cells? at h
  split at h
  · have hl := mapM_some_length h
    simp at hl
    refine ⟨hl, fun j u hu => ?_⟩
    have hj : j < n := by have := (List.getElem?_eq_some_iff.1 hu).1; omega
    have := mapM_some_get h j j (by simp [hj])
    rw [this]; exact hu
  · cases h
theorem reads_of_trod (s : Sh) : (∀ (t : TypeId) (fuel : Nat) (cs : List Value) (x : DataW H × List MemPlace), s.ok P t [] 0 → s.fields = false → DataW.trod enc P w base spare held fuel t cs = some x → ∃ m, s.Reads w cs m ∧ s.Dat m [x.1]) ∧
    (∀ (fl : List Field) (o n : Nat) (cs : List Value) (xs : List (DataW H × List MemPlace)), s.ok P 0 fl o → s.fields = true → o + s.size ≤ cs.length → xs.length = fl.length →
      (∀ (i : Nat) (f : Field), fl[i]? = some f → DataW.trod enc P w base spare held n f.type ((cs.drop f.offset).take (P.cellsOf f.type)) = xs[i]?) → ∃ m, s.Reads w ((cs.drop o).take s.size) m ∧ s.Dat m (xs.map (·.1))) := by
  induction s with
  | int k =>
    refine ⟨fun t fuel cs x hok _ h => ?_, (fun _ _ _ _ _ _ h => (by cases h))⟩
    obtain ⟨n, h1, h2, h3⟩ := DataW.trod_int hok h
    exact ⟨n, ⟨h1, h3⟩, by rw [h2]; rfl⟩
  | bool =>
    refine ⟨fun t fuel cs x hok _ h => ?_, (fun _ _ _ _ _ _ h => (by cases h))⟩
    obtain ⟨b, h1, h2⟩ := DataW.trod_bool hok h
    exact ⟨b, h1, by rw [h2]; rfl⟩
  | str =>
    refine ⟨fun t fuel cs x hok _ h => ?_, (fun _ _ _ _ _ _ h => (by cases h))⟩
    obtain ⟨b, h1, h2, h3⟩ := DataW.trod_string hok h
    exact ⟨b, ⟨h1, h3⟩, by rw [h2]; rfl⟩
  | sl e ih =>
    refine ⟨fun t fuel cs x hok _ h => ?_, (fun _ _ _ _ _ _ h => (by cases h))⟩
    obtain ⟨te, ht, hc, hp, hne, hoe⟩ := hok
    rcases Go.Deep.open_slice ht h with ⟨rfl, rfl⟩ | ⟨a, len, cap, m, n, D, Pl, rfl, hb, hl, hm, hmm, rfl, hx⟩
    · exact ⟨[], ⟨none, 0, rfl, Nat.le_refl _, by decide, fun _ => ⟨rfl, rfl⟩, fun i h => absurd h (by simp)⟩, .inl ⟨rfl, rfl⟩⟩
    · have hml : len ≤ m := by rw [hmm]; split <;> omega
      have key : ∀ i, i < len → ∃ md : e.M, (∃ b off cs', a = ⟨b, off, none⟩ ∧ cs'.length = e.size ∧ (∀ j u, cs'[j]? = some u → w.cell? ⟨b, off + i * e.size + j, none⟩ = some u) ∧ e.Reads w cs' md) ∧ e.Dat md [D i] := by
        intro i hi
        obtain ⟨cs', h1, h2⟩ := hx i (by omega)
        obtain ⟨h3, h4⟩ := cells?_get h1
        obtain ⟨md, h5, h6⟩ := ih.1 te n cs' _ hoe hne h2
        obtain ⟨cs0, g1, _⟩ := hx 0 (by omega)
        obtain ⟨g3, g4⟩ := cells?_get g1
        obtain ⟨b, off, sp⟩ := a
        have hsp : sp = none := by
          have := g4 0 (cs0[0]'(by rw [g3, hc]; exact hp)) (List.getElem?_eq_getElem _)
          have := World.cell?_spot this
          simpa [Addr.add] using this
        subst hsp
        refine ⟨md, ⟨b, off, cs', rfl, by rw [h3, hc], fun j u hu => ?_, h5⟩, h6⟩
        have := h4 j u hu
        rw [addr_add, addr_add, hc] at this
        exact this
      have hch : ∃ l : List e.M, l.length = len ∧ ∀ i (h : i < l.length), (∃ b off cs', a = ⟨b, off, none⟩ ∧ cs'.length = e.size ∧ (∀ j u, cs'[j]? = some u → w.cell? ⟨b, off + i * e.size + j, none⟩ = some u) ∧ e.Reads w cs' (l.get ⟨i, h⟩)) ∧ e.Dat (l.get ⟨i, h⟩) [D i] := by
        clear hx hmm hml hl h
        induction len with
        | zero => exact ⟨[], rfl, fun i h => absurd h (by simp)⟩
        | succ len ih2 =>
          obtain ⟨l, hl1, hl2⟩ := ih2 (fun i hi => key i (by omega))
          obtain ⟨md, hmd⟩ := key len (by omega)
          refine ⟨l ++ [md], by simp [hl1], fun i h => ?_⟩
          by_cases hi : i < l.length
          · have : (l ++ [md]).get ⟨i, h⟩ = l.get ⟨i, hi⟩ := by simp [List.getElem_append_left hi]
            rw [this]; exact hl2 i hi
          · have hi' : i = len := by simp at h; omega
            subst hi'
            have : (l ++ [md]).get ⟨i, h⟩ = md := by simp [← hl1]
            rw [this]; exact hmd
      obtain ⟨l, hl1, hl2⟩ := hch
      refine ⟨l, ⟨some a, cap, by rw [hl1], by omega, hm, (fun e => by cases e), fun i h => ?_⟩, .inr ⟨_, _, rfl, by simp [hl1], fun i h h' => ?_⟩⟩
      · obtain ⟨⟨b, off, cs', rfl, r⟩, _⟩ := hl2 i h
        exact ⟨b, off, cs', rfl, r⟩
      · have := (hl2 i h).2
        simpa using this
  | st fs ih =>
    refine ⟨fun t fuel cs x hok _ h => ?_, (fun _ _ _ _ _ _ h => (by cases h))⟩
    obtain ⟨fl, ht, hc, hne, hof⟩ := hok
    obtain ⟨xs, n, _, rfl, hl, hlen, hf⟩ := DataW.trod_struct ht h
    obtain ⟨m, h1, h2⟩ := ih.2 fl.toList 0 n cs xs hof hne (by omega) (by simp [hlen]) (fun i f hi => hf i f (by simpa using hi))
    refine ⟨m, ?_, ⟨_, rfl, h2⟩⟩
    rw [List.drop_zero, List.take_of_length_le (by omega)] at h1
    exact h1
  | nil =>
    refine ⟨(fun _ _ _ _ _ h => (by cases h)), fun fl o n cs xs hok _ hl hx hf => ?_⟩
    have hfl : fl = [] := hok
    subst hfl
    exact ⟨(), by simp [Reads, size], by simp [Dat]; exact List.length_eq_zero_iff.1 hx⟩
  | cons f r ihf ihr =>
    refine ⟨(fun _ _ _ _ _ h => (by cases h)), fun fl o n cs xs hok _ hl hx hf => ?_⟩
    obtain ⟨fd, rest, rfl, ho, hc, hf1, hr1, h1, h2⟩ := hok
    match xs, hx with
    | x :: xs, hx =>
      simp only [size] at hl
      have g0 := hf 0 fd rfl
      rw [ho, hc] at g0
      obtain ⟨m1, g1, g2⟩ := ihf.1 fd.type n _ x h1 hf1 g0
      obtain ⟨m2, g3, g4⟩ := ihr.2 rest (o + f.size) n cs xs h2 hr1 (by omega) (by simpa using hx) (fun i fd' hi => hf (i + 1) fd' hi)
      refine ⟨(m1, m2), ⟨_, _, ?_, ?_, g1, g3⟩, ⟨x.1, xs.map (·.1), rfl, g2, g4⟩⟩
      · simp only [size]
        rw [List.take_add, List.drop_drop]
      · rw [List.length_take, List.length_drop]; omega
end
end Sh
end Go.Proofs.Ytmhjjhaipcgbiaa


namespace Go.Proofs.Ytmhjjhaipcgbiaa
open Go.RowKit
set_option linter.unusedVariables false
set_option linter.unusedSimpArgs false
abbrev shVal : Sh := .st (.cons .bool (.cons (.int .u64) (.cons (.sl (.int .u8)) .nil)))
def toV (m : Sh.M shVal) : V := ⟨m.1, m.2.1.toNat, m.2.2.1⟩
theorem u64_wf {b : Int} (h : (Lit.int .u64 b).wf = true) : 0 ≤ b ∧ b ≤ 18446744073709551615 := by
  simp [Lit.wf] at h
  have h1 : IntKind.u64.min = 0 := by decide
  have h2 : IntKind.u64.max = 18446744073709551615 := by decide
  omega
theorem u8_wf {b : Int} (h : (Lit.int .u8 b).wf = true) : 0 ≤ b ∧ b < 256 := by
  simp [Lit.wf] at h
  have h1 : IntKind.u8.min = 0 := by decide
  have h2 : IntKind.u8.max = 255 := by decide
  omega
theorem rd_of_sl {w : World} {cs : List Value} {l : List Int} (h : Sh.Reads w (.sl (.int .u8)) cs l) : ∃ a cap, cs = [.slice a l.length cap] ∧ Rd w 1 (.slice a l.length cap) l.length (l.map (.int .u8)) ∧ IsBytes l ∧ l.length ≤ 9223372036854775807 := by
  obtain ⟨a, cap, rfl, h1, h2, h3, h4⟩ := h
  refine ⟨a, cap, rfl, ⟨by simp, a, cap, rfl, h1, h2, h3, fun j u hu => ?_⟩, fun x hx => ?_, by unfold maxLen at h2; exact Nat.le_trans h1 h2⟩
  · rw [List.getElem?_map] at hu
    cases hj : l[j]? with
    | none => rw [hj] at hu; cases hu
    | some y =>
      rw [hj] at hu
      cases hu
      obtain ⟨hlt, rfl⟩ := List.getElem?_eq_some_iff.1 hj
      obtain ⟨b, off, cs', e, _, hc, hr, _⟩ := h4 j hlt
      refine ⟨b, off, e, ?_⟩
      have := hc 0 _ (by rw [hr]; rfl)
      rw [show off + j * Sh.size (.int .u8) + 0 = off + j by show off + j * 1 + 0 = _; omega] at this
      exact this
  · obtain ⟨i, hi, rfl⟩ := List.mem_iff_getElem.1 hx
    obtain ⟨b, off, cs', e, _, hc, hr, hw⟩ := h4 i hi
    exact u8_wf hw
theorem rdvs_of_sl {w : World} {cs : List Value} {l : List (Sh.M shVal)} (h : Sh.Reads w (.sl shVal) cs l) : ∃ A : SL, cs = [.slice A.a (l.map toV).length A.c] ∧ RdVs w A (l.map toV) ∧ (l.map toV).length ≤ 9223372036854775807 ∧ ∀ v ∈ l.map toV, IsBytes v.text ∧ v.bits < 18446744073709551616 ∧ v.text.length ≤ 9223372036854775807 := by
  obtain ⟨a, cap, rfl, h1, h2, h3, h4⟩ := h
  have key : ∀ i, ∃ p : Option Addr × Nat, ∀ (hi : i < l.length), ∃ b off, a = some ⟨b, off, none⟩ ∧ w.cell? ⟨b, off + i * 3 + 0, none⟩ = some (.bool (toV (l.get ⟨i, hi⟩)).null) ∧ w.cell? ⟨b, off + i * 3 + 1, none⟩ = some (.int .u64 ((toV (l.get ⟨i, hi⟩)).bits : Int)) ∧
      w.cell? ⟨b, off + i * 3 + 2, none⟩ = some (.slice p.1 (toV (l.get ⟨i, hi⟩)).text.length p.2) ∧ Rd w 1 (.slice p.1 (toV (l.get ⟨i, hi⟩)).text.length p.2) (toV (l.get ⟨i, hi⟩)).text.length ((toV (l.get ⟨i, hi⟩)).text.map (.int .u8)) ∧
      IsBytes (toV (l.get ⟨i, hi⟩)).text ∧ (toV (l.get ⟨i, hi⟩)).bits < 18446744073709551616 ∧ (toV (l.get ⟨i, hi⟩)).text.length ≤ 9223372036854775807 := by
    intro i
    by_cases hi : i < l.length
    · obtain ⟨b, off, cs', e, hl, hc, hr⟩ := h4 i hi
      obtain ⟨c1, c2, e1, _, r1, c3, c4, e2, _, ⟨r2, wf⟩, c5, c6, e3, _, r3, r4⟩ := hr
      obtain ⟨ta, tc, e4, hrd, hby, hlm⟩ := rd_of_sl r3
      have hcs : cs' = [.bool (l.get ⟨i, hi⟩).1, .int .u64 (l.get ⟨i, hi⟩).2.1, .slice ta (l.get ⟨i, hi⟩).2.2.1.length tc] := by
        rw [e1, show c1 = [.bool (l.get ⟨i, hi⟩).1] from r1, e2, r2, e3, e4, show c6 = [] from r4]; rfl
      have hb := u64_wf wf
      have hnat : (((toV (l.get ⟨i, hi⟩)).bits : Nat) : Int) = (l.get ⟨i, hi⟩).2.1 := Int.toNat_of_nonneg hb.1
      refine ⟨(ta, tc), fun _ => ⟨b, off, e, ?_, ?_, ?_, hrd, hby, ?_, hlm⟩⟩
      · exact hc 0 _ (by rw [hcs]; rfl)
      · rw [hnat]; exact hc 1 _ (by rw [hcs]; rfl)
      · exact hc 2 _ (by rw [hcs]; rfl)
      · show (l.get ⟨i, hi⟩).2.1.toNat < _
        omega
    · exact ⟨(none, 0), fun h => absurd h hi⟩
  obtain ⟨f, hf⟩ := Classical.axiomOfChoice key
  have hlen : (l.map toV).length = l.length := List.length_map ..
  refine ⟨⟨a, cap⟩, by rw [hlen], ?_, by rw [hlen]; unfold maxLen at h2; exact Nat.le_trans h1 h2, ?_⟩
  · let row : Nat → List Value := fun i => if hi : i < l.length then [.bool (toV (l.get ⟨i, hi⟩)).null, .int .u64 ((toV (l.get ⟨i, hi⟩)).bits : Int), .slice (f i).1 (toV (l.get ⟨i, hi⟩)).text.length (f i).2] else [.bool false, .bool false, .bool false]
    have hrow : ∀ i, (row i).length = 3 := fun i => by show (dite _ _ _ : List Value).length = 3; split <;> rfl
    have hget : ∀ i (hi : i < l.length) j, j < 3 → ((List.range l.length).flatMap row)[i * 3 + j]? = [Value.bool (toV (l.get ⟨i, hi⟩)).null, .int .u64 ((toV (l.get ⟨i, hi⟩)).bits : Int), .slice (f i).1 (toV (l.get ⟨i, hi⟩)).text.length (f i).2][j]? := fun i hi j hj => by
      rw [flatMap_get row 3 hrow (List.range l.length) i j (by simpa using hi) hj, List.getElem_range]
      show (dite _ _ _ : List Value)[j]? = _
      rw [dif_pos hi]
    have hxl : ((List.range l.length).flatMap row).length = l.length * 3 := by rw [flatMap_len row 3 hrow, List.length_range]
    refine ⟨(List.range l.length).flatMap row, ?_, fun i v hv => ?_⟩
    · rw [hlen]
      refine ⟨hxl, a, cap, rfl, h1, h2, h3, fun m u hu => ?_⟩
      have hm := (List.getElem?_eq_some_iff.1 hu).1
      have hi : m / 3 < l.length := by omega
      obtain ⟨b, off, e, q0, q1, q2, _⟩ := hf (m / 3) hi
      refine ⟨b, off, e, ?_⟩
      have hm3 : m = m / 3 * 3 + m % 3 := by omega
      have hr : m % 3 < 3 := Nat.mod_lt _ (by decide)
      rw [hm3, hget _ hi _ hr] at hu
      rcases get3 _ _ _ _ _ hu with ⟨e3, rfl⟩ | ⟨e3, rfl⟩ | ⟨e3, rfl⟩
      · rw [show off + m = off + m / 3 * 3 + 0 by omega]; exact q0
      · rw [show off + m = off + m / 3 * 3 + 1 by omega]; exact q1
      · rw [show off + m = off + m / 3 * 3 + 2 by omega]; exact q2
    · rw [List.getElem?_map] at hv
      obtain ⟨x, hx, rfl⟩ := Option.map_eq_some_iff.1 hv
      obtain ⟨hi, rfl⟩ := List.getElem?_eq_some_iff.1 hx
      obtain ⟨b, off, e, q0, q1, q2, q3, _⟩ := hf i hi
      exact ⟨(f i).1, (f i).2, hget i hi 0 (by decide), hget i hi 1 (by decide), hget i hi 2 (by decide), q3⟩
  · intro v hv
    obtain ⟨x, hx, rfl⟩ := List.mem_map.1 hv
    obtain ⟨i, hi, rfl⟩ := List.mem_iff_getElem.1 hx
    obtain ⟨_, _, _, _, _, _, _, q4, q5, q6⟩ := hf i hi
    exact ⟨q4, q5, q6⟩
end Go.Proofs.Ytmhjjhaipcgbiaa


namespace Go.Proofs.Ytmhjjhaipcgbiaa
open Go.RowKit
set_option linter.unusedVariables false
set_option linter.unusedSimpArgs false
set_option maxRecDepth 100000
set_option maxHeartbeats 1000000
abbrev shNm : Sh := .st (.cons (.sl (.int .u8)) (.cons (.int .i64) (.cons .bool .nil)))
def toN (m : Sh.M shNm) : Nm := ⟨m.1, m.2.1, m.2.2.1⟩
theorem rdns_of_sl {w : World} {cs : List Value} {l : List (Sh.M shNm)} (h : Sh.Reads w (.sl shNm) cs l) : ∃ A : SL, cs = [.slice A.a (l.map toN).length A.c] ∧ RdNs w A (l.map toN) ∧ ∀ v ∈ l.map toN, IsBytes v.name ∧ v.name.length ≤ 9223372036854775807 := by
  obtain ⟨a, cap, rfl, h1, h2, h3, h4⟩ := h
  have key : ∀ i, ∃ p : Option Addr × Nat, ∀ (hi : i < l.length), ∃ b off, a = some ⟨b, off, none⟩ ∧ w.cell? ⟨b, off + i * 3 + 0, none⟩ = some (.slice p.1 (toN (l.get ⟨i, hi⟩)).name.length p.2) ∧ w.cell? ⟨b, off + i * 3 + 1, none⟩ = some (.int .i64 (toN (l.get ⟨i, hi⟩)).ty) ∧
      w.cell? ⟨b, off + i * 3 + 2, none⟩ = some (.bool (toN (l.get ⟨i, hi⟩)).null) ∧ Rd w 1 (.slice p.1 (toN (l.get ⟨i, hi⟩)).name.length p.2) (toN (l.get ⟨i, hi⟩)).name.length ((toN (l.get ⟨i, hi⟩)).name.map (.int .u8)) ∧
      IsBytes (toN (l.get ⟨i, hi⟩)).name ∧ (toN (l.get ⟨i, hi⟩)).name.length ≤ 9223372036854775807 := by
    intro i
    by_cases hi : i < l.length
    · obtain ⟨b, off, cs', e, hl, hc, hr⟩ := h4 i hi
      obtain ⟨c1, c2, e1, _, r1, c3, c4, e2, _, ⟨r2, wf⟩, c5, c6, e3, _, r3, r4⟩ := hr
      obtain ⟨ta, tc, e4, hrd, hby, hlm⟩ := rd_of_sl r1
      have hcs : cs' = [.slice ta (l.get ⟨i, hi⟩).1.length tc, .int .i64 (l.get ⟨i, hi⟩).2.1, .bool (l.get ⟨i, hi⟩).2.2.1] := by
        rw [e1, e4, e2, r2, e3, show c5 = [.bool (l.get ⟨i, hi⟩).2.2.1] from r3, show c6 = [] from r4]; rfl
      refine ⟨(ta, tc), fun _ => ⟨b, off, e, ?_, ?_, ?_, hrd, hby, hlm⟩⟩
      · exact hc 0 _ (by rw [hcs]; rfl)
      · exact hc 1 _ (by rw [hcs]; rfl)
      · exact hc 2 _ (by rw [hcs]; rfl)
    · exact ⟨(none, 0), fun h => absurd h hi⟩
  obtain ⟨f, hf⟩ := Classical.axiomOfChoice key
  have hlen : (l.map toN).length = l.length := List.length_map ..
  refine ⟨⟨a, cap⟩, by rw [hlen], ?_, ?_⟩
  · let row : Nat → List Value := fun i => if hi : i < l.length then [.slice (f i).1 (toN (l.get ⟨i, hi⟩)).name.length (f i).2, .int .i64 (toN (l.get ⟨i, hi⟩)).ty, .bool (toN (l.get ⟨i, hi⟩)).null] else [.bool false, .bool false, .bool false]
    have hrow : ∀ i, (row i).length = 3 := fun i => by show (dite _ _ _ : List Value).length = 3; split <;> rfl
    have hget : ∀ i (hi : i < l.length) j, j < 3 → ((List.range l.length).flatMap row)[i * 3 + j]? = [Value.slice (f i).1 (toN (l.get ⟨i, hi⟩)).name.length (f i).2, .int .i64 (toN (l.get ⟨i, hi⟩)).ty, .bool (toN (l.get ⟨i, hi⟩)).null][j]? := fun i hi j hj => by
      rw [flatMap_get row 3 hrow (List.range l.length) i j (by simpa using hi) hj, List.getElem_range]
      show (dite _ _ _ : List Value)[j]? = _
      rw [dif_pos hi]
    have hxl : ((List.range l.length).flatMap row).length = l.length * 3 := by rw [flatMap_len row 3 hrow, List.length_range]
    refine ⟨(List.range l.length).flatMap row, ?_, fun i v hv => ?_⟩
    · rw [hlen]
      refine ⟨hxl, a, cap, rfl, h1, h2, h3, fun m u hu => ?_⟩
      have hm := (List.getElem?_eq_some_iff.1 hu).1
      have hi : m / 3 < l.length := by omega
      obtain ⟨b, off, e, q0, q1, q2, _⟩ := hf (m / 3) hi
      refine ⟨b, off, e, ?_⟩
      have hm3 : m = m / 3 * 3 + m % 3 := by omega
      have hr : m % 3 < 3 := Nat.mod_lt _ (by decide)
      rw [hm3, hget _ hi _ hr] at hu
      rcases get3 _ _ _ _ _ hu with ⟨e3, rfl⟩ | ⟨e3, rfl⟩ | ⟨e3, rfl⟩
      · rw [show off + m = off + m / 3 * 3 + 0 by omega]; exact q0
      · rw [show off + m = off + m / 3 * 3 + 1 by omega]; exact q1
      · rw [show off + m = off + m / 3 * 3 + 2 by omega]; exact q2
    · rw [List.getElem?_map] at hv
      obtain ⟨x, hx, rfl⟩ := Option.map_eq_some_iff.1 hv
      obtain ⟨hi, rfl⟩ := List.getElem?_eq_some_iff.1 hx
      obtain ⟨b, off, e, q0, q1, q2, q3, _⟩ := hf i hi
      exact ⟨(f i).1, (f i).2, hget i hi 0 (by decide), hget i hi 1 (by decide), hget i hi 2 (by decide), q3⟩
  · intro v hv
    obtain ⟨x, hx, rfl⟩ := List.mem_map.1 hv
    obtain ⟨i, hi, rfl⟩ := List.mem_iff_getElem.1 hx
    obtain ⟨_, _, _, _, _, _, _, q4, q5⟩ := hf i hi
    exact ⟨q4, q5⟩
theorem rdrs_of_sl {w : World} {cs : List Value} {l : List (List (Sh.M shVal))} (h : Sh.Reads w (.sl (.sl shVal)) cs l) : ∃ A : SL, cs = [.slice A.a (l.map (List.map toV)).length A.c] ∧ RdRs w A (l.map (List.map toV)) ∧ ∀ r ∈ l.map (List.map toV), ∀ v ∈ r, IsBytes v.text ∧ v.bits < 18446744073709551616 ∧ v.text.length ≤ 9223372036854775807 := by
  obtain ⟨a, cap, rfl, h1, h2, h3, h4⟩ := h
  have key : ∀ i, ∃ p : SL, ∀ (hi : i < l.length), ∃ b off, a = some ⟨b, off, none⟩ ∧ w.cell? ⟨b, off + i, none⟩ = some (.slice p.a (List.map toV (l.get ⟨i, hi⟩)).length p.c) ∧ RdVs w p (List.map toV (l.get ⟨i, hi⟩)) ∧
      ∀ v ∈ List.map toV (l.get ⟨i, hi⟩), IsBytes v.text ∧ v.bits < 18446744073709551616 ∧ v.text.length ≤ 9223372036854775807 := by
    intro i
    by_cases hi : i < l.length
    · obtain ⟨b, off, cs', e, hl, hc, hr⟩ := h4 i hi
      obtain ⟨A, e1, r1, _, r2⟩ := rdvs_of_sl hr
      refine ⟨A, fun _ => ⟨b, off, e, ?_, r1, r2⟩⟩
      have := hc 0 (.slice A.a (List.map toV (l.get ⟨i, hi⟩)).length A.c) (by rw [e1]; rfl)
      rw [show off + i * Sh.size (.sl shVal) + 0 = off + i by show off + i * 1 + 0 = _; omega] at this
      exact this
    · exact ⟨⟨none, 0⟩, fun h => absurd h hi⟩
  obtain ⟨f, hf⟩ := Classical.axiomOfChoice key
  have hlen : (l.map (List.map toV)).length = l.length := List.length_map ..
  refine ⟨⟨a, cap⟩, congrArg (fun n => [Value.slice a n cap]) hlen.symm, ?_, ?_⟩
  · refine ⟨(List.range l.length).map (fun i => if hi : i < l.length then .slice (f i).a (List.map toV (l.get ⟨i, hi⟩)).length (f i).c else .bool false), ?_, fun i v hv => ?_⟩
    · rw [hlen]
      refine ⟨by simp, a, cap, rfl, h1, h2, h3, fun m u hu => ?_⟩
      have hm := (List.getElem?_eq_some_iff.1 hu).1
      have hi : m < l.length := by simpa using hm
      obtain ⟨b, off, e, q0, _⟩ := hf m hi
      refine ⟨b, off, e, ?_⟩
      rw [List.getElem?_map, List.getElem?_range hi, Option.map_some, dif_pos hi] at hu
      cases hu
      exact q0
    · rw [List.getElem?_map] at hv
      obtain ⟨x, hx, rfl⟩ := Option.map_eq_some_iff.1 hv
      obtain ⟨hi, rfl⟩ := List.getElem?_eq_some_iff.1 hx
      obtain ⟨b, off, e, q0, q1, _⟩ := hf i hi
      refine ⟨(f i).a, (f i).c, ?_, q1⟩
      rw [List.getElem?_map, List.getElem?_range hi, Option.map_some, dif_pos hi]
      rfl
  · intro r hr v hv
    obtain ⟨x, hx, rfl⟩ := List.mem_map.1 hr
    obtain ⟨i, hi, rfl⟩ := List.mem_iff_getElem.1 hx
    obtain ⟨_, _, _, _, _, q⟩ := hf i hi
    exact q v hv
theorem agg_cells {v : Value} {x y : Value} {cs : List Value} (h : v.cells.toList = x :: y :: cs) : v = .agg (x :: y :: cs).toArray := by
  cases v <;> first
    | (simp only [Value.cells] at h; simp at h; done)
    | (rename_i cs; simp only [Value.cells] at h; obtain ⟨l⟩ := cs; simp only at h; rw [h])
abbrev shSheet : Sh := .st (.cons (.sl shNm) (.cons (.sl (.sl shVal)) (.cons .bool (.cons (.int .i64) .nil))))
theorem sheet_of {w : World} {v : Value} {m : Sh.M shSheet} (h : Sh.Reads w shSheet v.cells.toList m) : ∃ (l : List Nm) (rows : List (List V)) (wild : Bool) (bend : Int) (A R : SL), v = .agg #[.slice A.a l.length A.c, .slice R.a rows.length R.c, .bool wild, .int .i64 bend] ∧ (Lit.int .i64 bend).wf = true ∧ RdNs w A l ∧ RdRs w R rows ∧ (∀ v ∈ l, IsBytes v.name ∧ v.name.length ≤ 9223372036854775807) ∧ ∀ r ∈ rows, ∀ v ∈ r, IsBytes v.text ∧ v.bits < 18446744073709551616 ∧ v.text.length ≤ 9223372036854775807 := by
  obtain ⟨c1, c2, e1, _, r1, c3, c4, e2, _, r2, c5, c6, e3, _, r3, c7, c8, e4, _, ⟨r4, wf⟩, r5⟩ := h
  obtain ⟨A, g1, q1, b1⟩ := rdns_of_sl r1
  obtain ⟨R, g2, q2, b2⟩ := rdrs_of_sl r2
  have hv : v.cells.toList = [.slice A.a (List.map toN m.1).length A.c, .slice R.a (List.map (List.map toV) m.2.1).length R.c, .bool m.2.2.1, .int .i64 m.2.2.2.1] := by
    rw [e1, g1, e2, g2, e3, show c5 = [.bool m.2.2.1] from r3, e4, r4, show c8 = [] from r5]
    rfl
  exact ⟨_, _, _, _, A, R, agg_cells hv, wf, q1, q2, b1, b2⟩
end Go.Proofs.Ytmhjjhaipcgbiaa
