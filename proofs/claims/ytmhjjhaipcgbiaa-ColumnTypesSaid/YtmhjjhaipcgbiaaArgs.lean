/- What a law's arguments hold: data of plain shapes, read out of the row's own reading. Over any program. -/
import Derived.Test.YtmhjjhaipcgbiaaMem
import Derived.ProofKit
import Derived.OpenShut
import Derived.ShutString
import Derived.ChangeOld
import Derived.Deep.Slices
import Derived.SizedLaws
namespace Go.Proofs.Ytmhjjhaipcgbiaa
open Go.RowKit Go.ChangeShapes
set_option linter.unusedVariables false
set_option linter.unusedSimpArgs false

/-- The shapes of plain data. A struct is 'st' of a row of fields, 'cons' by 'cons'. -/
inductive Sh where
  | int (k : IntKind) | bool | str | sl (e : Sh) | st (fs : Sh) | nil | cons (f r : Sh)

namespace Sh
def size : Sh → Nat
  | int _ => 1 | bool => 1 | str => 1 | sl _ => 1 | st fs => fs.size | nil => 0 | cons f r => f.size + r.size
/-- Is it a row of fields? -/
def fields : Sh → Bool
  | nil => true | cons _ _ => true | _ => false
/-- A shape is a type's; 'nil' and 'cons' are a list of fields', from an offset on. -/
def ok (P : Program) : Sh → TypeId → List Field → Nat → Prop
  | int k, t, _, _ => P.underlying t = some (.int k)
  | bool, t, _, _ => P.underlying t = some .bool
  | str, t, _, _ => P.underlying t = some .string
  | sl e, t, _, _ => ∃ te, P.underlying t = some (.slice te) ∧ P.cellsOf te = e.size ∧ 0 < e.size ∧ e.fields = false ∧ e.ok P te [] 0
  | st fs, t, _, _ => ∃ fl : Array Field, P.underlying t = some (.struct fl) ∧ P.cellsOf t = fs.size ∧ fs.fields = true ∧ fs.ok P 0 fl.toList 0
  | nil, _, fl, _ => fl = []
  | cons f r, _, fl, o => ∃ fd rest, fl = fd :: rest ∧ fd.offset = o ∧ P.cellsOf fd.type = f.size ∧ f.fields = false ∧ r.fields = true ∧ f.ok P fd.type [] 0 ∧ r.ok P 0 rest (o + f.size)
/-- What is read. -/
def M : Sh → Type
  | int _ => Int | bool => Bool | str => ByteArray | sl e => List e.M | st fs => fs.M | nil => Unit | cons f r => f.M × r.M
def Reads (w : World) : (s : Sh) → List Value → s.M → Prop
  | int k, cs, n => cs = [.int k n] ∧ (Lit.int k n).wf = true
  | bool, cs, b => cs = [.bool b]
  | str, cs, s => cs = [.string s] ∧ ByteArray.size s ≤ maxLen
  | sl e, cs, l => ∃ a cap, cs = [.slice a (List.length l) cap] ∧ List.length l ≤ cap ∧ cap ≤ maxLen ∧ (a = none → List.length l = 0 ∧ cap = 0) ∧
      ∀ i (h : i < List.length l), ∃ b off cs', a = some ⟨b, off, none⟩ ∧ cs'.length = e.size ∧ (∀ j u, cs'[j]? = some u → w.cell? ⟨b, off + i * e.size + j, none⟩ = some u) ∧ e.Reads w cs' (List.get l ⟨i, h⟩)
  | st fs, cs, m => fs.Reads w cs m
  | nil, cs, _ => cs = []
  | cons f r, cs, m => ∃ c1 c2, cs = c1 ++ c2 ∧ c1.length = f.size ∧ f.Reads w c1 m.1 ∧ r.Reads w c2 m.2
/-- What is read, as the row's data (one datum; of fields: a list of them). -/
def Dat {H : Type} : (s : Sh) → s.M → List (DataW H) → Prop
  | int k, n, ds => ds = [.lit (.int k n)]
  | bool, b, ds => ds = [.lit (.bool b)]
  | str, s, ds => ds = [.lit (.string (ByteArray.data s).toList)]
  | sl e, l, ds => (List.length l = 0 ∧ ds = [.nil]) ∨ ∃ els rest, ds = [.slice els rest] ∧ List.length els = List.length l ∧ ∀ i (h : i < List.length l) (h' : i < List.length els), e.Dat (List.get l ⟨i, h⟩) [List.get els ⟨i, h'⟩]
  | st fs, m, ds => ∃ ds', ds = [.agg ds'] ∧ fs.Dat m ds'
  | nil, _, ds => ds = []
  | cons f r, m, ds => ∃ d rest, ds = d :: rest ∧ f.Dat m.1 [d] ∧ r.Dat m.2 rest

section
variable {H : Type} {enc : TypeId × Value → H} {P : Program} {w : World} {base : Nat} {spare : Nat → Bool} {held : Bool}

theorem cells?_get {a : Addr} {n : Nat} {cs : List Value} (h : w.cells? base a n = some cs) : cs.length = n ∧ ∀ j u, cs[j]? = some u → w.cell? (a.add j) = some u := by
  unfold World.cells? at h
  split at h
  · have hl := mapM_some_length h
    simp at hl
    refine ⟨hl, fun j u hu => ?_⟩
    have hj : j < n := by have := (List.getElem?_eq_some_iff.1 hu).1; omega
    have := mapM_some_get h j j (by simp [hj])
    rw [this]; exact hu
  · cases h

theorem reads_of_trod (s : Sh) : (∀ (t : TypeId) (fuel : Nat) (cs : List Value) (x : DataW H × List MemPlace), s.ok P t [] 0 → s.fields = false → DataW.trod enc P w base spare held fuel t cs = some x → ∃ m, s.Reads w cs m ∧ s.Dat m [x.1]) ∧
    (∀ (fl : List Field) (o n : Nat) (cs : List Value) (xs : List (DataW H × List MemPlace)), s.ok P 0 fl o → s.fields = true → o + s.size ≤ cs.length → xs.length = fl.length →
      (∀ (i : Nat) (f : Field), fl[i]? = some f → DataW.trod enc P w base spare held n f.type ((cs.drop f.offset).take (P.cellsOf f.type)) = xs[i]?) → ∃ m, s.Reads w ((cs.drop o).take s.size) m ∧ s.Dat m (xs.map (·.1))) := by
  induction s with
  | int k =>
    refine ⟨fun t fuel cs x hok _ h => ?_, (fun _ _ _ _ _ _ h => (by cases h))⟩
    obtain ⟨n, h1, h2, h3⟩ := DataW.trod_int hok h
    exact ⟨n, ⟨h1, h3⟩, by rw [h2]; rfl⟩
  | bool =>
    refine ⟨fun t fuel cs x hok _ h => ?_, (fun _ _ _ _ _ _ h => (by cases h))⟩
    obtain ⟨b, h1, h2⟩ := DataW.trod_bool hok h
    exact ⟨b, h1, by rw [h2]; rfl⟩
  | str =>
    refine ⟨fun t fuel cs x hok _ h => ?_, (fun _ _ _ _ _ _ h => (by cases h))⟩
    obtain ⟨b, h1, h2, h3⟩ := DataW.trod_string hok h
    exact ⟨b, ⟨h1, h3⟩, by rw [h2]; rfl⟩
  | sl e ih =>
    refine ⟨fun t fuel cs x hok _ h => ?_, (fun _ _ _ _ _ _ h => (by cases h))⟩
    obtain ⟨te, ht, hc, hp, hne, hoe⟩ := hok
    rcases Go.Deep.open_slice ht h with ⟨rfl, rfl⟩ | ⟨a, len, cap, m, n, D, Pl, rfl, hb, hl, hm, hmm, rfl, hx⟩
    · exact ⟨[], ⟨none, 0, rfl, Nat.le_refl _, by decide, fun _ => ⟨rfl, rfl⟩, fun i h => absurd h (by simp)⟩, .inl ⟨rfl, rfl⟩⟩
    · have hml : len ≤ m := by rw [hmm]; split <;> omega
      have key : ∀ i, i < len → ∃ md : e.M, (∃ b off cs', a = ⟨b, off, none⟩ ∧ cs'.length = e.size ∧ (∀ j u, cs'[j]? = some u → w.cell? ⟨b, off + i * e.size + j, none⟩ = some u) ∧ e.Reads w cs' md) ∧ e.Dat md [D i] := by
        intro i hi
        obtain ⟨cs', h1, h2⟩ := hx i (by omega)
        obtain ⟨h3, h4⟩ := cells?_get h1
        obtain ⟨md, h5, h6⟩ := ih.1 te n cs' _ hoe hne h2
        obtain ⟨cs0, g1, _⟩ := hx 0 (by omega)
        obtain ⟨g3, g4⟩ := cells?_get g1
        obtain ⟨b, off, sp⟩ := a
        have hsp : sp = none := by
          have := g4 0 (cs0[0]'(by rw [g3, hc]; exact hp)) (List.getElem?_eq_getElem _)
          have := World.cell?_spot this
          simpa [Addr.add] using this
        subst hsp
        refine ⟨md, ⟨b, off, cs', rfl, by rw [h3, hc], fun j u hu => ?_, h5⟩, h6⟩
        have := h4 j u hu
        rw [addr_add, addr_add, hc] at this
        exact this
      have hch : ∃ l : List e.M, l.length = len ∧ ∀ i (h : i < l.length), (∃ b off cs', a = ⟨b, off, none⟩ ∧ cs'.length = e.size ∧ (∀ j u, cs'[j]? = some u → w.cell? ⟨b, off + i * e.size + j, none⟩ = some u) ∧ e.Reads w cs' (l.get ⟨i, h⟩)) ∧ e.Dat (l.get ⟨i, h⟩) [D i] := by
        clear hx hmm hml hl h
        induction len with
        | zero => exact ⟨[], rfl, fun i h => absurd h (by simp)⟩
        | succ len ih2 =>
          obtain ⟨l, hl1, hl2⟩ := ih2 (fun i hi => key i (by omega))
          obtain ⟨md, hmd⟩ := key len (by omega)
          refine ⟨l ++ [md], by simp [hl1], fun i h => ?_⟩
          by_cases hi : i < l.length
          · have : (l ++ [md]).get ⟨i, h⟩ = l.get ⟨i, hi⟩ := by simp [List.getElem_append_left hi]
            rw [this]; exact hl2 i hi
          · have hi' : i = len := by simp at h; omega
            subst hi'
            have : (l ++ [md]).get ⟨i, h⟩ = md := by simp [← hl1]
            rw [this]; exact hmd
      obtain ⟨l, hl1, hl2⟩ := hch
      refine ⟨l, ⟨some a, cap, by rw [hl1], by omega, hm, (fun e => by cases e), fun i h => ?_⟩, .inr ⟨_, _, rfl, by simp [hl1], fun i h h' => ?_⟩⟩
      · obtain ⟨⟨b, off, cs', rfl, r⟩, _⟩ := hl2 i h
        exact ⟨b, off, cs', rfl, r⟩
      · have := (hl2 i h).2
        simpa using this
  | st fs ih =>
    refine ⟨fun t fuel cs x hok _ h => ?_, (fun _ _ _ _ _ _ h => (by cases h))⟩
    obtain ⟨fl, ht, hc, hne, hof⟩ := hok
    obtain ⟨xs, n, _, rfl, hl, hlen, hf⟩ := DataW.trod_struct ht h
    obtain ⟨m, h1, h2⟩ := ih.2 fl.toList 0 n cs xs hof hne (by omega) (by simp [hlen]) (fun i f hi => hf i f (by simpa using hi))
    refine ⟨m, ?_, ⟨_, rfl, h2⟩⟩
    rw [List.drop_zero, List.take_of_length_le (by omega)] at h1
    exact h1
  | nil =>
    refine ⟨(fun _ _ _ _ _ h => (by cases h)), fun fl o n cs xs hok _ hl hx hf => ?_⟩
    have hfl : fl = [] := hok
    subst hfl
    exact ⟨(), by simp [Reads, size], by simp [Dat]; exact List.length_eq_zero_iff.1 hx⟩
  | cons f r ihf ihr =>
    refine ⟨(fun _ _ _ _ _ h => (by cases h)), fun fl o n cs xs hok _ hl hx hf => ?_⟩
    obtain ⟨fd, rest, rfl, ho, hc, hf1, hr1, h1, h2⟩ := hok
    match xs, hx with
    | x :: xs, hx =>
      simp only [size] at hl
      have g0 := hf 0 fd rfl
      rw [ho, hc] at g0
      obtain ⟨m1, g1, g2⟩ := ihf.1 fd.type n _ x h1 hf1 g0
      obtain ⟨m2, g3, g4⟩ := ihr.2 rest (o + f.size) n cs xs h2 hr1 (by omega) (by simpa using hx) (fun i fd' hi => hf (i + 1) fd' hi)
      refine ⟨(m1, m2), ⟨_, _, ?_, ?_, g1, g3⟩, ⟨x.1, xs.map (·.1), rfl, g2, g4⟩⟩
      · simp only [size]
        rw [List.take_add, List.drop_drop]
      · rw [List.length_take, List.length_drop]; omega
end
end Sh
end Go.Proofs.Ytmhjjhaipcgbiaa
