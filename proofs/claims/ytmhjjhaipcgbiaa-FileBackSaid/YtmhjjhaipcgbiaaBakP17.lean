/- Texts of this claim, one behind the other: BS, Steps, Fs. -/
import Derived.Test.YtmhjjhaipcgbiaaBakP16
import Derived.Laws.Bits64

namespace Go.Proofs.Ytmhjjhaipcgbiaa
open Go.RowKit
set_option linter.unusedVariables false
set_option linter.unusedSimpArgs false
set_option maxRecDepth 100000
set_option maxHeartbeats 1000000
structure BSx (w : World) (S : Nat → Prop) (bl : Nat) (k s : Int) (c : CS) (lw : Nat) (nv dv ev : Value) (T : Nat → Prop) : Prop where
  b : IsB w bl lw 0 k s c.nulls c.data c.ends nv dv ev
  l : WL w T lw c.words
  ts : ∀ x, T x → S x ∧ x < w.heap.size ∧ x ≠ bl ∧ nv.ownBlock ≠ some x ∧ dv.ownBlock ≠ some x ∧ ev.ownBlock ≠ some x
  sb : S bl
  sn : ∀ x, nv.ownBlock = some x ∨ dv.ownBlock = some x ∨ ev.ownBlock = some x → S x
def BS (w : World) (S : Nat → Prop) (bl : Nat) (k s : Int) (c : CS) : Prop := ∃ lw nv dv ev T, BSx w S bl k s c lw nv dv ev T
theorem BS.kept {w w' : World} {S R : Nat → Prop} {bl : Nat} {k s : Int} {c : CS} (h : BS w S bl k s c) (hk : Kept R w w') (hR : ∀ b, S b → b < w.heap.size → ¬ R b) : BS w' S bl k s c := by
  obtain ⟨lw, nv, dv, ev, T, h⟩ := h
  have hL := h.l.kept hk (fun b hb hlt => hR b (h.ts b hb).1 hlt)
  refine ⟨lw, nv, dv, ev, T, h.b.kept hk (hR bl h.sb (lt_of_blk h.b.blk)) (fun b hb => hR b (h.sn b hb) ?_) hL.lst, hL, fun x hx => ?_, h.sb, h.sn⟩
  · rcases hb with e | e | e
    · exact (h.b.nulls.lt b e).2
    · exact (h.b.data.lt b e).2
    · exact (h.b.ends.lt b e).2
  · obtain ⟨h1, h2, h3⟩ := h.ts x hx
    exact ⟨h1, Nat.lt_of_lt_of_le h2 hk.size, h3⟩
theorem BS.below {w w' : World} {S : Nat → Prop} {bl : Nat} {k s : Int} {c : CS} (h : BS w S bl k s c) (hb : Below w.heap.size w w') : BS w' S bl k s c :=
  h.kept (Kept.of_below (S := fun _ => False) hb) (fun _ _ _ e => e)
theorem BS.mono {w : World} {S S' : Nat → Prop} {bl : Nat} {k s : Int} {c : CS} (h : BS w S bl k s c) (hS : ∀ b, S b → b < w.heap.size → S' b) : BS w S' bl k s c := by
  obtain ⟨lw, nv, dv, ev, T, h⟩ := h
  refine ⟨lw, nv, dv, ev, T, h.b, h.l, fun x hx => ?_, hS bl h.sb (lt_of_blk h.b.blk), fun x hx => hS x (h.sn x hx) ?_⟩
  · obtain ⟨h1, h2, h3⟩ := h.ts x hx
    exact ⟨hS x h1 h2, h2, h3⟩
  · rcases hx with e | e | e
    · exact (h.b.nulls.lt x e).2
    · exact (h.b.data.lt x e).2
    · exact (h.b.ends.lt x e).2
def Room (c : CS) (v : V) : Prop := c.data.length + v.text.length ≤ 100000000 ∧ c.nulls.length ≤ 100000000 ∧ c.ends.length ≤ 100000000 ∧ c.words.length ≤ 100000000 ∧ IsBytes v.text ∧ v.bits < 18446744073709551616
end Go.Proofs.Ytmhjjhaipcgbiaa


namespace Go.Proofs.Ytmhjjhaipcgbiaa
open Go.RowKit
set_option linter.unusedVariables false
set_option linter.unusedSimpArgs false
set_option maxRecDepth 100000
set_option maxHeartbeats 1000000
structure SepC (B D : SL) (vals : List Value) : Prop where
  bd : ∀ b, (Value.slice B.a 0 0).ownBlock = some b → (Value.slice D.a 0 0).ownBlock ≠ some b
  bw : ∀ v ∈ vals, ∀ b, v.ownBlock = some b → (Value.slice B.a 0 0).ownBlock ≠ some b ∧ (Value.slice D.a 0 0).ownBlock ≠ some b
  ww : WSep vals.length vals
theorem own_len00 (a : Option Addr) (x y : Nat) : (Value.slice a x y).ownBlock = (Value.slice a 0 0).ownBlock := by cases a <;> rfl
structure OwnC (w : World) (base : Nat) (c : Col) (B D E W : SL) (vals : List Value) : Prop where
  bits : Own w base 5 1 (.slice B.a c.bits.length B.c) c.bits.length (c.bits.map (.int .u8))
  data : Own w base 5 1 (.slice D.a c.data.length D.c) c.data.length (c.data.map (.int .u8))
  ends : Own w base 3 1 (.slice E.a c.ends.length E.c) c.ends.length (c.ends.map (.int .i64))
  words : Own w base 37 1 (.slice W.a c.words.length W.c) c.words.length vals
  len : vals.length = c.words.length
  each : WOwn w base c.words.length vals c.words
  sep : SepC B D vals
theorem OwnC.rd {w : World} {base : Nat} {c : Col} {B D E W : SL} {vals : List Value} (h : OwnC w base c B D E W vals) : RdC w c B D E W vals :=
  ⟨h.bits.rd, h.data.rd, h.ends.rd, h.words.rd, h.len, fun i t hi => by
    obtain ⟨a, cap, h1, h2⟩ := h.each i t (List.getElem?_eq_some_iff.1 hi).1 hi
    exact ⟨a, cap, h1, h2.rd⟩⟩
def ColBP (c : Col) (w : World) (e : Ending) (w' : World) : Prop := ∃ B D E W vals, e = .returned (colV c B D E W) ∧ OwnC w' w.heap.size c B D E W vals ∧ Below w.heap.size w w'
theorem WOwn.mono {w : World} {base base' i : Nat} {vals : List Value} {ws : List (List Int)} (h : WOwn w base i vals ws) (hb : base' ≤ base) : WOwn w base' i vals ws := fun j t hj ht => by
  obtain ⟨a, cap, h1, h2⟩ := h j t hj ht
  exact ⟨a, cap, h1, h2.mono hb⟩
end Go.Proofs.Ytmhjjhaipcgbiaa


namespace Go.Proofs.Ytmhjjhaipcgbiaa
open Go.RowKit
set_option linter.unusedVariables false
set_option linter.unusedSimpArgs false
set_option maxRecDepth 100000
set_option maxHeartbeats 1000000
def sumStep (h : Nat) (c : Int) : Nat := (h ^^^ c.toNat) * 1099511628211 % 18446744073709551616
theorem fold_snoc {α β : Type} (f : β → α → β) (h : β) (xs : List α) (c : α) : (xs ++ [c]).foldl f h = f (xs.foldl f h) c := by rw [List.foldl_append]; rfl
def sumN (xs : List Int) : Nat := xs.foldl sumStep 14695981039346656037
theorem sumN_snoc (xs : List Int) (c : Int) : sumN (xs ++ [c]) = sumStep (sumN xs) c := fold_snoc sumStep _ xs c
theorem sumN_lt (xs : List Int) : sumN xs < 18446744073709551616 := by
  rcases List.eq_nil_or_concat xs with rfl | ⟨l, c, rfl⟩
  · unfold sumN; rw [List.foldl_nil]; omega
  · rw [List.concat_eq_append, sumN_snoc]; unfold sumStep; exact Nat.mod_lt _ (by omega)
theorem sum_eq (x : Nat) (hx : x < 18446744073709551616) (c : Int) (h0 : 0 ≤ c) (h1 : c < 256) : IntKind.u64.wrap (bits .xor .u64 (x : Int) c * 1099511628211) = (sumStep x c : Int) := by
  obtain ⟨n, rfl⟩ : ∃ n : Nat, c = (n : Int) := ⟨c.toNat, by omega⟩
  rw [bits_xor_u64_nat _ _ hx (by omega), IntKind.wrap_u64]
  unfold sumStep
  simp only [Int.toNat_natCast]
  omega
theorem sumN_take {xs : List Int} {i : Nat} (h : i < xs.length) : sumN (xs.take (i + 1)) = sumStep (sumN (xs.take i)) xs[i] := by
  rw [show xs.take (i + 1) = xs.take i ++ [xs[i]] by rw [List.take_add_one, List.getElem?_eq_getElem h]; rfl, sumN_snoc]
def SumP (xs : List Int) (w : World) (e : Ending) (w' : World) : Prop := e = .returned (.int .u64 (sumN xs : Int)) ∧ w = w'
theorem fsum_any (xs : List Int) (hx : IsBytes xs) (A : SL) (w : World) (h : Rd w 1 (.slice A.a xs.length A.c) xs.length (xs.map (.int .u8))) : Calls Try.prog 76 #[.slice A.a xs.length A.c] w (SumP xs w) := by
  have H := Aside.mk h
  have hm := h.max
  clear h
  go_enter Try.func76, Try.ntmps76
  go_wp2
  go_loopw [3, 5, 8] (fun xv cv iv wr => ∃ i : Nat, i ≤ xs.length ∧ xv = .int .u64 (sumN (xs.take i) : Int) ∧ iv = .int .i64 (i : Int) ∧ Aside (w = wr)) (fun _ _ iv _ => xs.length - (intOf iv).toNat)
  case atStart => exact ⟨0, by omega, rfl, rfl, ⟨rfl⟩⟩
  case round =>
    obtain ⟨i, hi, rfl, rfl, ⟨rfl⟩⟩ := hrel
    by_cases hlt : i < xs.length
    · obtain ⟨g, off, cap, e, hb, hl, hc⟩ := H.out.some_ (by simpa using (show 0 < xs.length by omega))
      simp only [Value.slice.injEq, true_and] at e
      obtain ⟨e1, e2⟩ := e
      have hcx := hc i _ (by rw [List.getElem?_map, List.getElem?_eq_getElem hlt]; rfl)
      have hxb := hx _ (List.getElem_mem hlt)
      have HS := Aside.mk (sumN_take hlt)
      have HE := Aside.mk (sum_eq (sumN (xs.take i)) (sumN_lt _) xs[i] hxb.1 hxb.2)
      clear hc
      obtain ⟨A, C⟩ := A
      simp only at e1 e2
      subst e1 e2
      generalize sumN (xs.take i) = x at *
      generalize xs[i] = c at *
      go_wp2_with fail
      exact ⟨⟨i + 1, by omega, by rw [HS.out, HE.out], by simp, ⟨trivial⟩⟩, by simp [intOf]; omega⟩
    · obtain rfl : i = xs.length := by omega
      go_wp2_with fail
      go_ret
      exact ⟨by rw [List.take_length]; rfl, rfl⟩
end Go.Proofs.Ytmhjjhaipcgbiaa
