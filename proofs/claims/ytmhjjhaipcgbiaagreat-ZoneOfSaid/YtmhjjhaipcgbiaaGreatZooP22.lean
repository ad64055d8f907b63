/- Texts of this claim, one behind the other: Wakes, BS, Steps. -/
import Derived.Test.YtmhjjhaipcgbiaaGreatZooP11
import Derived.Laws.BytesArg
import Derived.Test.YtmhjjhaipcgbiaaGreatZooP21

namespace Go.Proofs.YtmhjjhaipcgbiaaGreat
open Go.RowKit
set_option linter.unusedVariables false
set_option linter.unusedSimpArgs false
set_option maxRecDepth 100000
set_option maxHeartbeats 2000000
theorem rd_blk {w : World} {g n : Nat} {cs : Array Value} {T : TypeId} {fr : Nat × Nat} (h : w.heap[g]? = some (.cells cs T fr)) (hn : cs.size = n) (hm : n ≤ maxLen) : Rd w 1 (.slice (some ⟨g, 0, none⟩) n n) n cs.toList :=
  ⟨by simp [hn], some ⟨g, 0, none⟩, n, rfl, Nat.le_refl _, hm, (fun e => by cases e), fun j u hu => ⟨g, 0, rfl, by rw [cell_blk h, Nat.zero_add, ← Array.getElem?_toList]; exact hu⟩⟩
end Go.Proofs.YtmhjjhaipcgbiaaGreat


namespace Go.Proofs.YtmhjjhaipcgbiaaGreat
open Go.RowKit
set_option linter.unusedVariables false
set_option linter.unusedSimpArgs false
set_option maxRecDepth 100000
set_option maxHeartbeats 1000000
structure BSx (w : World) (S : Nat → Prop) (bl : Nat) (k s : Int) (c : CS) (lw : Nat) (nv dv ev : Value) (T : Nat → Prop) : Prop where
  b : IsB w bl lw 0 k s c.nulls c.data c.ends nv dv ev
  l : WL w T lw c.words
  ts : ∀ x, T x → S x ∧ x < w.heap.size ∧ x ≠ bl ∧ nv.ownBlock ≠ some x ∧ dv.ownBlock ≠ some x ∧ ev.ownBlock ≠ some x
  sb : S bl
  sn : ∀ x, nv.ownBlock = some x ∨ dv.ownBlock = some x ∨ ev.ownBlock = some x → S x
def BS (w : World) (S : Nat → Prop) (bl : Nat) (k s : Int) (c : CS) : Prop := ∃ lw nv dv ev T, BSx w S bl k s c lw nv dv ev T
theorem BS.kept {w w' : World} {S R : Nat → Prop} {bl : Nat} {k s : Int} {c : CS} (h : BS w S bl k s c) (hk : Kept R w w') (hR : ∀ b, S b → b < w.heap.size → ¬ R b) : BS w' S bl k s c := by
  obtain ⟨lw, nv, dv, ev, T, h⟩ := h
  have hL := h.l.kept hk (fun b hb hlt => hR b (h.ts b hb).1 hlt)
  refine ⟨lw, nv, dv, ev, T, h.b.kept hk (hR bl h.sb (lt_of_blk h.b.blk)) (fun b hb => hR b (h.sn b hb) ?_) hL.lst, hL, fun x hx => ?_, h.sb, h.sn⟩
  · rcases hb with e | e | e
    · exact (h.b.nulls.lt b e).2
    · exact (h.b.data.lt b e).2
    · exact (h.b.ends.lt b e).2
  · obtain ⟨h1, h2, h3⟩ := h.ts x hx
    exact ⟨h1, Nat.lt_of_lt_of_le h2 hk.size, h3⟩
theorem BS.below {w w' : World} {S : Nat → Prop} {bl : Nat} {k s : Int} {c : CS} (h : BS w S bl k s c) (hb : Below w.heap.size w w') : BS w' S bl k s c :=
  h.kept (Kept.of_below (S := fun _ => False) hb) (fun _ _ _ e => e)
theorem BS.mono {w : World} {S S' : Nat → Prop} {bl : Nat} {k s : Int} {c : CS} (h : BS w S bl k s c) (hS : ∀ b, S b → b < w.heap.size → S' b) : BS w S' bl k s c := by
  obtain ⟨lw, nv, dv, ev, T, h⟩ := h
  refine ⟨lw, nv, dv, ev, T, h.b, h.l, fun x hx => ?_, hS bl h.sb (lt_of_blk h.b.blk), fun x hx => hS x (h.sn x hx) ?_⟩
  · obtain ⟨h1, h2, h3⟩ := h.ts x hx
    exact ⟨hS x h1 h2, h2, h3⟩
  · rcases hx with e | e | e
    · exact (h.b.nulls.lt x e).2
    · exact (h.b.data.lt x e).2
    · exact (h.b.ends.lt x e).2
def StepP (S : Nat → Prop) (bl : Nat) (k s : Int) (c' : CS) (r : Value) (w : World) (e : Ending) (w' : World) : Prop :=
  e = .returned r ∧ BS w' (fun b => S b ∨ w.heap.size ≤ b) bl k s c' ∧ Kept S w w'
def Room (c : CS) (v : V) : Prop := c.data.length + v.text.length ≤ 100000000 ∧ c.nulls.length ≤ 100000000 ∧ c.ends.length ≤ 100000000 ∧ c.words.length ≤ 100000000 ∧ IsBytes v.text ∧ v.bits < 18446744073709551616
end Go.Proofs.YtmhjjhaipcgbiaaGreat


namespace Go.Proofs.YtmhjjhaipcgbiaaGreat
open Go.RowKit
set_option linter.unusedVariables false
set_option linter.unusedSimpArgs false
set_option maxRecDepth 100000
set_option maxHeartbeats 1000000
structure SepC (B D : SL) (vals : List Value) : Prop where
  bd : ∀ b, (Value.slice B.a 0 0).ownBlock = some b → (Value.slice D.a 0 0).ownBlock ≠ some b
  bw : ∀ v ∈ vals, ∀ b, v.ownBlock = some b → (Value.slice B.a 0 0).ownBlock ≠ some b ∧ (Value.slice D.a 0 0).ownBlock ≠ some b
  ww : WSep vals.length vals
theorem own_len00 (a : Option Addr) (x y : Nat) : (Value.slice a x y).ownBlock = (Value.slice a 0 0).ownBlock := by cases a <;> rfl
structure OwnC (w : World) (base : Nat) (c : Col) (B D E W : SL) (vals : List Value) : Prop where
  bits : Own w base 5 1 (.slice B.a c.bits.length B.c) c.bits.length (c.bits.map (.int .u8))
  data : Own w base 5 1 (.slice D.a c.data.length D.c) c.data.length (c.data.map (.int .u8))
  ends : Own w base 3 1 (.slice E.a c.ends.length E.c) c.ends.length (c.ends.map (.int .i64))
  words : Own w base 43 1 (.slice W.a c.words.length W.c) c.words.length vals
  len : vals.length = c.words.length
  each : WOwn w base c.words.length vals c.words
  sep : SepC B D vals
theorem OwnC.rd {w : World} {base : Nat} {c : Col} {B D E W : SL} {vals : List Value} (h : OwnC w base c B D E W vals) : RdC w c B D E W vals :=
  ⟨h.bits.rd, h.data.rd, h.ends.rd, h.words.rd, h.len, fun i t hi => by
    obtain ⟨a, cap, h1, h2⟩ := h.each i t (List.getElem?_eq_some_iff.1 hi).1 hi
    exact ⟨a, cap, h1, h2.rd⟩⟩
def ColBP (c : Col) (w : World) (e : Ending) (w' : World) : Prop := ∃ B D E W vals, e = .returned (colV c B D E W) ∧ OwnC w' w.heap.size c B D E W vals ∧ Below w.heap.size w w'
theorem WOwn.mono {w : World} {base base' i : Nat} {vals : List Value} {ws : List (List Int)} (h : WOwn w base i vals ws) (hb : base' ≤ base) : WOwn w base' i vals ws := fun j t hj ht => by
  obtain ⟨a, cap, h1, h2⟩ := h j t hj ht
  exact ⟨a, cap, h1, h2.mono hb⟩
end Go.Proofs.YtmhjjhaipcgbiaaGreat
