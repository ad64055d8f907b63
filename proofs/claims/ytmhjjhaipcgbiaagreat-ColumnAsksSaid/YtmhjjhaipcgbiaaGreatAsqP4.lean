/- Texts of this claim, one behind the other: Words, Same, EqC, Lay2, Lay3, AddC, AddT, Wakes, BS, Steps, Few, Lay4, Range, Seq, Each. -/
import Derived.Test.YtmhjjhaipcgbiaaGreatAsqP3
import Derived.Test.YtmhjjhaipcgbiaaGreatAsqP1
import Derived.BigQuiet
import Derived.Deep.QuietTactic
import Derived.Test.YtmhjjhaipcgbiaaGreatAsqP2
import Derived.Laws.BytesArg
import Derived.RangeFuncBox
import Derived.RangeFuncLeaves
import Derived.RangeFuncNested
import Derived.Shelf.Abstract
import Derived.OwnWalkIn
import Derived.TacticsInMore
import Derived.LoopNIn
import Derived.LoopIn

namespace Go.Proofs.YtmhjjhaipcgbiaaGreat
open Go.RowKit Go.Maps
set_option linter.unusedVariables false
set_option linter.unusedSimpArgs false
set_option maxRecDepth 100000
set_option maxHeartbeats 1000000
def WOwn (w : World) (base i : Nat) (vals : List Value) (ws : List (List Int)) : Prop :=
  ∀ (j : Nat) t, j < i → ws[j]? = some t → ∃ a cap, vals[j]? = some (.slice a t.length cap) ∧ Own w base 5 1 (.slice a t.length cap) t.length (t.map (.int .u8))
def WSep (i : Nat) (vals : List Value) : Prop := ∀ (j j' : Nat) v v', j < j' → j' < i → vals[j]? = some v → vals[j']? = some v' → ∀ b, v.ownBlock = some b → v'.ownBlock ≠ some b
def WordsP (ws : List (List Int)) (w : World) (e : Ending) (w' : World) : Prop :=
  ∃ a c vals, e = .returned (.slice a ws.length c) ∧ Own w' w.heap.size 43 1 (.slice a ws.length c) ws.length vals ∧ vals.length = ws.length ∧ WOwn w' w.heap.size ws.length vals ws ∧ Below w.heap.size w w' ∧ WSep ws.length vals
def WordsIn (ws : List (List Int)) (i : Nat) (w wr : World) : Prop :=
  ∃ vals, vals.length = ws.length ∧ wr.heap[w.heap.size]? = some (.cells vals.toArray 43 (0, 0)) ∧ WOwn wr w.heap.size i vals ws ∧ Below w.heap.size w wr ∧ WSep i vals
theorem WOwn.kept {w w' : World} {base i : Nat} {vals : List Value} {ws : List (List Int)} {S : Nat → Prop} (h : WOwn w base i vals ws) (hk : Kept S w w') (hS : ∀ k, base ≤ k → k < w.heap.size → (∃ cs, w.heap[k]? = some (.cells cs 5 (0, 0))) → ¬ S k) : WOwn w' base i vals ws := fun j t hj ht => by
  obtain ⟨a, cap, h1, h2⟩ := h j t hj ht
  exact ⟨a, cap, h1, h2.kept hk (fun k e => hS k (h2.lt k e).1 (h2.lt k e).2 (own_blk h2 e))⟩
theorem words_make (n : Nat) (hn : n ≤ 100000000) (w : World) : ∃ cs : List Value, cs.length = n ∧ (Instr.makeSlice 37 (.int .i64 (n : Int)) (.int .i64 (n : Int))).run Tryz.prog w = .ok (.slice (some ⟨w.heap.size, 0, none⟩) n n) (w.alloc (.cells cs.toArray 43)) := by
  obtain ⟨i0, hi, hz0, hz1, hz2⟩ := info_parts bytesinfo
  have h := run_make (P := Tryz.prog) w 37 43 i0 _ Tryz.underlying37 hi hz0 .i64 .i64 (n : Int) (n : Int) (by omega) (Int.le_refl _) (by rw [hz2]; omega) (by omega)
  rw [hz1, Nat.mul_one, Int.toNat_natCast] at h
  refine ⟨(madeCells (Value.slice none 0 0).cells n).toList, by rw [Array.length_toList, size_madeCells], ?_⟩
  rw [h, Array.toArray_toList]
theorem words_store {ws : List (List Int)} {i : Nat} {w wr w3 : World} {t : List Int} {a : Option Addr} {cap : Nat} (hi : i < ws.length) (ht : ws[i]? = some t) (h : WordsIn ws i w wr) (hb : Below wr.heap.size wr w3) (ho : Own w3 wr.heap.size 5 1 (.slice a t.length cap) t.length (t.map (.int .u8))) :
    WordsIn ws (i + 1) w (w3.setCell ⟨w.heap.size, i, none⟩ (.slice a t.length cap)) := by
  obtain ⟨vals, hl, hbk, hw, hbl, hsep⟩ := h
  have hb3 := (hb.block _ (lt_of_blk hbk)).trans hbk
  have hsz := lt_of_blk hbk
  refine ⟨vals.set i (.slice a t.length cap), by simpa using hl, ?_, ?_, (hbl.trans (hb.mono hbl.size)).setCell (Nat.le_refl _) _, ?_⟩
  · have := heap_setCell_at (k := i) hb3 (.slice a t.length cap)
    rw [this]; simp
  · have hne : ∀ k, (Value.slice a t.length cap).ownBlock = some k → k ≠ w.heap.size := fun k e => by have := (ho.lt k e).1; omega
    intro j u hj hu
    rcases Nat.lt_or_ge j i with hlt | hge
    · obtain ⟨a1, c1, h1, h2⟩ := hw j u hlt hu
      refine ⟨a1, c1, by rw [List.getElem?_set_ne (by omega)]; exact h1, (h2.below hb).set_other (fun e => ?_) _⟩
      obtain ⟨cs, hcs⟩ := own_blk (h2.below hb) e
      rw [hb3] at hcs
      cases hcs
    · obtain rfl : j = i := by omega
      rw [ht] at hu
      cases hu
      refine ⟨a, cap, by rw [List.getElem?_set_self (by omega)], (ho.set_other (fun e => hne _ e rfl) _).mono (by omega)⟩
  · intro j j' v v' hjj hji h1 h2 b e
    rcases Nat.lt_or_ge j' i with hlt | hge
    · rw [List.getElem?_set_ne (by omega)] at h1 h2
      exact hsep j j' v v' hjj hlt h1 h2 b e
    · obtain rfl : j' = i := by omega
      rw [List.getElem?_set_ne (by omega)] at h1
      rw [List.getElem?_set_self (by omega)] at h2
      cases h2
      obtain ⟨a1, c1, q1, q2⟩ := hw j _ hjj (List.getElem?_eq_getElem (by omega))
      rw [h1] at q1
      cases q1
      intro e2
      have := (q2.lt b e).2
      have := (ho.lt b e2).1
      omega
theorem words_any (T : Nat → Prop) (lw : Nat) (ws : List (List Int)) (hn : ws.length ≤ 100000000) (hw : ∀ t ∈ ws, t.length ≤ 1000000000) (w : World) (h : WL w T lw ws) : Calls Tryz.prog 93 #[.pointer (some ⟨lw, 0, none⟩)] w (WordsP ws w) := by
  obtain ⟨wv, mb, vals, D, h⟩ := h
  obtain ⟨wa, wc, rfl⟩ := h.row.form
  obtain ⟨cs, hcl, hms⟩ := words_make ws.length hn w
  have hc0 := cell_blk (k := 0) h.blk
  simp at hc0
  have hlw := lt_of_blk h.blk
  have hc2 : (w.alloc (.cells cs.toArray 43)).cell? ⟨lw, 0, none⟩ = some (.slice wa ws.length wc) := ((below_new w _).cell (p := ⟨lw, 0, none⟩) hlw).trans hc0
  have H := Aside.mk h
  have HCL := Aside.mk hcl
  have HW := Aside.mk hw
  clear h hcl hw
  go_enter Tryz.func93, Tryz.ntmps93
  go_wp2
  go_loopw [17] (fun iv wr => ∃ i : Nat, i ≤ ws.length ∧ iv = .int .i64 (i : Int) ∧ Aside (WordsIn ws i w wr)) (fun iv _ => ws.length - (intOf iv).toNat)
  case atStart => exact ⟨0, by omega, rfl, ⟨cs, HCL.out, heap_alloc_new w _, fun j t hj _ => by omega, below_new w _, fun j j' _ _ h1 h2 => by omega⟩⟩
  case round =>
    clear hms hc0 hc2
    obtain ⟨i, hi, rfl, hp⟩ := hrel
    by_cases hlt : i < ws.length
    · obtain ⟨vi, hvi, hvo, _⟩ := H.out.words.2 i _ (List.getElem?_eq_getElem hlt)
      obtain ⟨va, vc, rfl⟩ := hvo.form
      have hvl := H.out.words.1
      obtain ⟨_, _, hbk, _, hbl, _⟩ := hp.out
      obtain ⟨eb, eo, ecap, hs, hel, hecap, hcE⟩ := H.out.row.rd.some_ (by omega)
      simp only [Value.slice.injEq, true_and] at hs
      obtain ⟨rfl, rfl⟩ := hs
      have hce := (hbl.cell (p := ⟨eb, eo + i, none⟩) (World.block_lt_of_cell? _ _ (hcE i _ hvi))).trans (hcE i _ hvi)
      have htl := HW.out _ (List.getElem_mem hlt)
      have HT := Aside.mk (List.getElem?_eq_getElem hlt)
      have HVO := Aside.mk (hvo.rd.below hbl)
      clear hbk hbl hcE hvi hvo hvl
      generalize ws[i] = t at *
      have HCL2 := Aside.mk (clone_bytes (.slice va t.length vc) t.length _ wr htl HVO.out (one_map (fun x : Int => Value.int .u8 x) (fun _ => rfl) t))
      go_wp2_with (go_at_call 91; refine HCL2.out.mono ?_; rintro e w3 ⟨v', rfl, ho, hb3⟩; obtain ⟨ca, cc, rfl⟩ := ho.form; obtain ⟨vals3, hl3, hbk3, _, hbl3, _⟩ := hp.out; have hbk4 := (hb3.block _ (lt_of_blk hbk3)).trans hbk3; have q := cell_blk (k := i) hbk4; have z := frozen_blk (k := i) hbk4; rw [List.getElem?_toArray, List.getElem?_eq_getElem (by omega)] at q; have HS := Aside.mk (words_store hlt HT.out hp.out hb3 ho); clear ho hb3 hbk3 hbk4 hbl3)
      exact ⟨⟨i + 1, by omega, by simp, HS⟩, by simp [intOf]; omega⟩
    · obtain rfl : i = ws.length := by omega
      obtain ⟨vals2, hl2, hbk2, hw2, hbl2, hs2⟩ := hp.out
      go_wp2
      go_ret
      refine ⟨_, _, vals2, rfl, ⟨by rw [hl2]; simp, .inr ⟨w.heap.size, 0, ws.length, vals2.toArray, rfl, Nat.le_refl _, hbk2, Nat.le_refl _, by unfold maxLen; omega, by simp [hl2], fun j hj => by simp⟩⟩, hl2, hw2, hbl2, hs2⟩
end Go.Proofs.YtmhjjhaipcgbiaaGreat


namespace Go.Proofs.YtmhjjhaipcgbiaaGreat
open Go.RowKit
set_option linter.unusedVariables false
set_option linter.unusedSimpArgs false
set_option maxRecDepth 100000
set_option maxHeartbeats 4000000
def sameC (a b : Col) : Bool := decide (checkC a = 0 ∧ checkC b = 0 ∧ a.k = b.k ∧ a.s = b.s ∧ a.n = b.n ∧ a.bits = b.bits ∧ a.data = b.data ∧ a.ends = b.ends ∧ a.words = b.words)
theorem same_any (a b : Col) (ha : COK a) (hb : COK b) (B D E X B2 D2 E2 X2 : SL) (va vb : List Value) (w : World) (h : RdC w a B D E X va) (h2 : RdC w b B2 D2 E2 X2 vb) : Calls Tryz.prog 112 #[colV a B D E X, colV b B2 D2 E2 X2] w (BoolP (sameC a b) w) := by
  have hca := Aside.mk (fun (w2 : World) (hw : Below w.heap.size w w2) => check_any a ha B D E X va w2 (h.below hw))
  have hcb := Aside.mk (fun (w2 : World) (hw : Below w.heap.size w w2) => check_any b hb B2 D2 E2 X2 vb w2 (h2.below hw))
  have heb := Aside.mk (fun (w2 : World) (hw : Below w.heap.size w w2) => equal_bytes a.bits b.bits B B2 (Nat.le_trans ha.lb (by decide)) w2 (h.bits.below hw) (h2.bits.below hw))
  have hed := Aside.mk (fun (w2 : World) (hw : Below w.heap.size w w2) => equal_bytes a.data b.data D D2 (Nat.le_trans ha.ld (by decide)) w2 (h.data.below hw) (h2.data.below hw))
  have hee := Aside.mk (fun (w2 : World) (hw : Below w.heap.size w w2) => equal_ints a.ends b.ends E E2 (Nat.le_trans ha.le (by decide)) w2 (h.ends.below hw) (h2.ends.below hw))
  have hew := Aside.mk (fun (w2 : World) (hw : Below w.heap.size w w2) => equal_words a.words b.words X X2 va vb (Nat.le_trans ha.lw (by decide)) (fun t ht => (ha.words t ht).2) w2 (h.words.below hw) (h2.words.below hw) (h.each.below hw) (h2.each.below hw))
  have HS := Aside.mk (show sameC a b = decide (checkC a = 0 ∧ checkC b = 0 ∧ a.k = b.k ∧ a.s = b.s ∧ a.n = b.n ∧ a.bits = b.bits ∧ a.data = b.data ∧ a.ends = b.ends ∧ a.words = b.words) from rfl)
  clear h h2 ha hb
  dsimp only [colV] at hca hcb ⊢
  generalize checkC a = ra at *
  generalize checkC b = rb at *
  obtain ⟨tb, htb⟩ : ∃ tb, tb = decide (a.bits = b.bits) := ⟨_, rfl⟩
  rw [← htb] at heb
  have HTB := Aside.mk htb
  clear htb
  have BW := Aside.mk ((below_new w (.cells #[.int .i64 a.k, .int .i64 a.s, .int .i64 a.n, .int .i64 a.m, .slice B.a a.bits.length B.c, .slice D.a a.data.length D.c, .slice E.a a.ends.length E.c, .slice X.a a.words.length X.c] 63)).trans ((below_new _ (.cells #[.int .i64 b.k, .int .i64 b.s, .int .i64 b.n, .int .i64 b.m, .slice B2.a b.bits.length B2.c, .slice D2.a b.data.length D2.c, .slice E2.a b.ends.length E2.c, .slice X2.a b.words.length X2.c] 63)).mono (by simp)))
  have HXA := Aside.mk (show ((w.alloc (.cells #[.int .i64 a.k, .int .i64 a.s, .int .i64 a.n, .int .i64 a.m, .slice B.a a.bits.length B.c, .slice D.a a.data.length D.c, .slice E.a a.ends.length E.c, .slice X.a a.words.length X.c] 63)).alloc (.cells #[.int .i64 b.k, .int .i64 b.s, .int .i64 b.n, .int .i64 b.m, .slice B2.a b.bits.length B2.c, .slice D2.a b.data.length D2.c, .slice E2.a b.ends.length E2.c, .slice X2.a b.words.length X2.c] 63)).heap[w.heap.size]? = some (.cells #[.int .i64 a.k, .int .i64 a.s, .int .i64 a.n, .int .i64 a.m, .slice B.a a.bits.length B.c, .slice D.a a.data.length D.c, .slice E.a a.ends.length E.c, .slice X.a a.words.length X.c] 63 (0, 0)) by
    rw [Below.heap_alloc _ _ _ (by simp)]; exact heap_alloc_new w _)
  have HXB := Aside.mk (show ((w.alloc (.cells #[.int .i64 a.k, .int .i64 a.s, .int .i64 a.n, .int .i64 a.m, .slice B.a a.bits.length B.c, .slice D.a a.data.length D.c, .slice E.a a.ends.length E.c, .slice X.a a.words.length X.c] 63)).alloc (.cells #[.int .i64 b.k, .int .i64 b.s, .int .i64 b.n, .int .i64 b.m, .slice B2.a b.bits.length B2.c, .slice D2.a b.data.length D2.c, .slice E2.a b.ends.length E2.c, .slice X2.a b.words.length X2.c] 63)).heap[w.heap.size + 1]? = some (.cells #[.int .i64 b.k, .int .i64 b.s, .int .i64 b.n, .int .i64 b.m, .slice B2.a b.bits.length B2.c, .slice D2.a b.data.length D2.c, .slice E2.a b.ends.length E2.c, .slice X2.a b.words.length X2.c] 63 (0, 0)) by
    simpa using heap_alloc_new (w.alloc (.cells #[.int .i64 a.k, .int .i64 a.s, .int .i64 a.n, .int .i64 a.m, .slice B.a a.bits.length B.c, .slice D.a a.data.length D.c, .slice E.a a.ends.length E.c, .slice X.a a.words.length X.c] 63)) (.cells #[.int .i64 b.k, .int .i64 b.s, .int .i64 b.n, .int .i64 b.m, .slice B2.a b.bits.length B2.c, .slice D2.a b.data.length D2.c, .slice E2.a b.ends.length E2.c, .slice X2.a b.words.length X2.c] 63))
  go_enter Tryz.func112, Tryz.ntmps112
  go_wp2_with fail
  generalize ((w.alloc (.cells #[.int .i64 a.k, .int .i64 a.s, .int .i64 a.n, .int .i64 a.m, .slice B.a a.bits.length B.c, .slice D.a a.data.length D.c, .slice E.a a.ends.length E.c, .slice X.a a.words.length X.c] 63)).alloc (.cells #[.int .i64 b.k, .int .i64 b.s, .int .i64 b.n, .int .i64 b.m, .slice B2.a b.bits.length B2.c, .slice D2.a b.data.length D2.c, .slice E2.a b.ends.length E2.c, .slice X2.a b.words.length X2.c] 63)) = w1 at *
  refine (hca.out _ BW.out).mono ?_
  rintro e w2 ⟨rfl, hb2⟩
  replace BW := Aside.mk (BW.out.trans (hb2.mono BW.out.size)); replace HXA := Aside.mk ((hb2.block _ (lt_of_blk HXA.out)).trans HXA.out); replace HXB := Aside.mk ((hb2.block _ (lt_of_blk HXB.out)).trans HXB.out); obtain ⟨p0, p1, p2, p3, p4, p5, p6, p7⟩ := box8 HXA.out; obtain ⟨q0, q1, q2, q3, q4, q5, q6, q7⟩ := box8 HXB.out; clear hb2
  clear hca
  by_cases h1 : ra = 0
  rotate_left
  · have HF := Aside.mk (show false = sameC a b by rw [HS.out]; simp [h1])
    have h1' : (ra == 0) = false := by simpa using h1
    clear h1
    go_wp2_with (first | (go_at_call 82; first | (refine (hca.out _ BW.out).mono ?_; rintro e w2 ⟨rfl, hb2⟩; clear hca; replace BW := Aside.mk (BW.out.trans (hb2.mono BW.out.size)); replace HXA := Aside.mk ((hb2.block _ (lt_of_blk HXA.out)).trans HXA.out); replace HXB := Aside.mk ((hb2.block _ (lt_of_blk HXB.out)).trans HXB.out); obtain ⟨p0, p1, p2, p3, p4, p5, p6, p7⟩ := box8 HXA.out; obtain ⟨q0, q1, q2, q3, q4, q5, q6, q7⟩ := box8 HXB.out; clear hb2) | (refine (hcb.out _ BW.out).mono ?_; rintro e w2 ⟨rfl, hb2⟩; replace BW := Aside.mk (BW.out.trans (hb2.mono BW.out.size)); replace HXA := Aside.mk ((hb2.block _ (lt_of_blk HXA.out)).trans HXA.out); replace HXB := Aside.mk ((hb2.block _ (lt_of_blk HXB.out)).trans HXB.out); obtain ⟨p0, p1, p2, p3, p4, p5, p6, p7⟩ := box8 HXA.out; obtain ⟨q0, q1, q2, q3, q4, q5, q6, q7⟩ := box8 HXB.out; clear hb2)) | (go_at_call 166; first | (refine (heb.out _ BW.out).mono ?_; rintro e w2 ⟨rfl, hb2⟩; clear heb; replace BW := Aside.mk (BW.out.trans (hb2.mono BW.out.size)); replace HXA := Aside.mk ((hb2.block _ (lt_of_blk HXA.out)).trans HXA.out); replace HXB := Aside.mk ((hb2.block _ (lt_of_blk HXB.out)).trans HXB.out); obtain ⟨p0, p1, p2, p3, p4, p5, p6, p7⟩ := box8 HXA.out; obtain ⟨q0, q1, q2, q3, q4, q5, q6, q7⟩ := box8 HXB.out; clear hb2) | (refine (hed.out _ BW.out).mono ?_; rintro e w2 ⟨rfl, hb2⟩; replace BW := Aside.mk (BW.out.trans (hb2.mono BW.out.size)); replace HXA := Aside.mk ((hb2.block _ (lt_of_blk HXA.out)).trans HXA.out); replace HXB := Aside.mk ((hb2.block _ (lt_of_blk HXB.out)).trans HXB.out); obtain ⟨p0, p1, p2, p3, p4, p5, p6, p7⟩ := box8 HXA.out; obtain ⟨q0, q1, q2, q3, q4, q5, q6, q7⟩ := box8 HXB.out; clear hb2)) | (go_at_call 167; refine (hee.out _ BW.out).mono ?_; rintro e w2 ⟨rfl, hb2⟩; replace BW := Aside.mk (BW.out.trans (hb2.mono BW.out.size)); replace HXA := Aside.mk ((hb2.block _ (lt_of_blk HXA.out)).trans HXA.out); replace HXB := Aside.mk ((hb2.block _ (lt_of_blk HXB.out)).trans HXB.out); obtain ⟨p0, p1, p2, p3, p4, p5, p6, p7⟩ := box8 HXA.out; obtain ⟨q0, q1, q2, q3, q4, q5, q6, q7⟩ := box8 HXB.out; clear hb2) | (go_at_call 168; refine (hew.out _ BW.out).mono ?_; rintro e w2 ⟨rfl, hb2⟩; replace BW := Aside.mk (BW.out.trans (hb2.mono BW.out.size)); replace HXA := Aside.mk ((hb2.block _ (lt_of_blk HXA.out)).trans HXA.out); replace HXB := Aside.mk ((hb2.block _ (lt_of_blk HXB.out)).trans HXB.out); obtain ⟨p0, p1, p2, p3, p4, p5, p6, p7⟩ := box8 HXA.out; obtain ⟨q0, q1, q2, q3, q4, q5, q6, q7⟩ := box8 HXB.out; clear hb2))
    go_ret
    exact ⟨ret_bool HF.out, BW.out⟩
  have h1' : (ra == 0) = true := by simpa using h1
  by_cases h2 : rb = 0
  rotate_left
  · have HF := Aside.mk (show false = sameC a b by rw [HS.out]; simp [h2])
    have h2' : (rb == 0) = false := by simpa using h2
    clear h2
    go_wp2_with (first | (go_at_call 82; first | (refine (hca.out _ BW.out).mono ?_; rintro e w2 ⟨rfl, hb2⟩; clear hca; replace BW := Aside.mk (BW.out.trans (hb2.mono BW.out.size)); replace HXA := Aside.mk ((hb2.block _ (lt_of_blk HXA.out)).trans HXA.out); replace HXB := Aside.mk ((hb2.block _ (lt_of_blk HXB.out)).trans HXB.out); obtain ⟨p0, p1, p2, p3, p4, p5, p6, p7⟩ := box8 HXA.out; obtain ⟨q0, q1, q2, q3, q4, q5, q6, q7⟩ := box8 HXB.out; clear hb2) | (refine (hcb.out _ BW.out).mono ?_; rintro e w2 ⟨rfl, hb2⟩; replace BW := Aside.mk (BW.out.trans (hb2.mono BW.out.size)); replace HXA := Aside.mk ((hb2.block _ (lt_of_blk HXA.out)).trans HXA.out); replace HXB := Aside.mk ((hb2.block _ (lt_of_blk HXB.out)).trans HXB.out); obtain ⟨p0, p1, p2, p3, p4, p5, p6, p7⟩ := box8 HXA.out; obtain ⟨q0, q1, q2, q3, q4, q5, q6, q7⟩ := box8 HXB.out; clear hb2)) | (go_at_call 166; first | (refine (heb.out _ BW.out).mono ?_; rintro e w2 ⟨rfl, hb2⟩; clear heb; replace BW := Aside.mk (BW.out.trans (hb2.mono BW.out.size)); replace HXA := Aside.mk ((hb2.block _ (lt_of_blk HXA.out)).trans HXA.out); replace HXB := Aside.mk ((hb2.block _ (lt_of_blk HXB.out)).trans HXB.out); obtain ⟨p0, p1, p2, p3, p4, p5, p6, p7⟩ := box8 HXA.out; obtain ⟨q0, q1, q2, q3, q4, q5, q6, q7⟩ := box8 HXB.out; clear hb2) | (refine (hed.out _ BW.out).mono ?_; rintro e w2 ⟨rfl, hb2⟩; replace BW := Aside.mk (BW.out.trans (hb2.mono BW.out.size)); replace HXA := Aside.mk ((hb2.block _ (lt_of_blk HXA.out)).trans HXA.out); replace HXB := Aside.mk ((hb2.block _ (lt_of_blk HXB.out)).trans HXB.out); obtain ⟨p0, p1, p2, p3, p4, p5, p6, p7⟩ := box8 HXA.out; obtain ⟨q0, q1, q2, q3, q4, q5, q6, q7⟩ := box8 HXB.out; clear hb2)) | (go_at_call 167; refine (hee.out _ BW.out).mono ?_; rintro e w2 ⟨rfl, hb2⟩; replace BW := Aside.mk (BW.out.trans (hb2.mono BW.out.size)); replace HXA := Aside.mk ((hb2.block _ (lt_of_blk HXA.out)).trans HXA.out); replace HXB := Aside.mk ((hb2.block _ (lt_of_blk HXB.out)).trans HXB.out); obtain ⟨p0, p1, p2, p3, p4, p5, p6, p7⟩ := box8 HXA.out; obtain ⟨q0, q1, q2, q3, q4, q5, q6, q7⟩ := box8 HXB.out; clear hb2) | (go_at_call 168; refine (hew.out _ BW.out).mono ?_; rintro e w2 ⟨rfl, hb2⟩; replace BW := Aside.mk (BW.out.trans (hb2.mono BW.out.size)); replace HXA := Aside.mk ((hb2.block _ (lt_of_blk HXA.out)).trans HXA.out); replace HXB := Aside.mk ((hb2.block _ (lt_of_blk HXB.out)).trans HXB.out); obtain ⟨p0, p1, p2, p3, p4, p5, p6, p7⟩ := box8 HXA.out; obtain ⟨q0, q1, q2, q3, q4, q5, q6, q7⟩ := box8 HXB.out; clear hb2))
    go_ret
    exact ⟨ret_bool HF.out, BW.out⟩
  have h2' : (rb == 0) = true := by simpa using h2
  by_cases h3 : a.k = b.k
  rotate_left
  · have HF := Aside.mk (show false = sameC a b by rw [HS.out]; simp [h3])
    have h3' : (a.k == b.k) = false := by simpa using h3
    clear h3
    go_wp2_with (first | (go_at_call 82; first | (refine (hca.out _ BW.out).mono ?_; rintro e w2 ⟨rfl, hb2⟩; clear hca; replace BW := Aside.mk (BW.out.trans (hb2.mono BW.out.size)); replace HXA := Aside.mk ((hb2.block _ (lt_of_blk HXA.out)).trans HXA.out); replace HXB := Aside.mk ((hb2.block _ (lt_of_blk HXB.out)).trans HXB.out); obtain ⟨p0, p1, p2, p3, p4, p5, p6, p7⟩ := box8 HXA.out; obtain ⟨q0, q1, q2, q3, q4, q5, q6, q7⟩ := box8 HXB.out; clear hb2) | (refine (hcb.out _ BW.out).mono ?_; rintro e w2 ⟨rfl, hb2⟩; replace BW := Aside.mk (BW.out.trans (hb2.mono BW.out.size)); replace HXA := Aside.mk ((hb2.block _ (lt_of_blk HXA.out)).trans HXA.out); replace HXB := Aside.mk ((hb2.block _ (lt_of_blk HXB.out)).trans HXB.out); obtain ⟨p0, p1, p2, p3, p4, p5, p6, p7⟩ := box8 HXA.out; obtain ⟨q0, q1, q2, q3, q4, q5, q6, q7⟩ := box8 HXB.out; clear hb2)) | (go_at_call 166; first | (refine (heb.out _ BW.out).mono ?_; rintro e w2 ⟨rfl, hb2⟩; clear heb; replace BW := Aside.mk (BW.out.trans (hb2.mono BW.out.size)); replace HXA := Aside.mk ((hb2.block _ (lt_of_blk HXA.out)).trans HXA.out); replace HXB := Aside.mk ((hb2.block _ (lt_of_blk HXB.out)).trans HXB.out); obtain ⟨p0, p1, p2, p3, p4, p5, p6, p7⟩ := box8 HXA.out; obtain ⟨q0, q1, q2, q3, q4, q5, q6, q7⟩ := box8 HXB.out; clear hb2) | (refine (hed.out _ BW.out).mono ?_; rintro e w2 ⟨rfl, hb2⟩; replace BW := Aside.mk (BW.out.trans (hb2.mono BW.out.size)); replace HXA := Aside.mk ((hb2.block _ (lt_of_blk HXA.out)).trans HXA.out); replace HXB := Aside.mk ((hb2.block _ (lt_of_blk HXB.out)).trans HXB.out); obtain ⟨p0, p1, p2, p3, p4, p5, p6, p7⟩ := box8 HXA.out; obtain ⟨q0, q1, q2, q3, q4, q5, q6, q7⟩ := box8 HXB.out; clear hb2)) | (go_at_call 167; refine (hee.out _ BW.out).mono ?_; rintro e w2 ⟨rfl, hb2⟩; replace BW := Aside.mk (BW.out.trans (hb2.mono BW.out.size)); replace HXA := Aside.mk ((hb2.block _ (lt_of_blk HXA.out)).trans HXA.out); replace HXB := Aside.mk ((hb2.block _ (lt_of_blk HXB.out)).trans HXB.out); obtain ⟨p0, p1, p2, p3, p4, p5, p6, p7⟩ := box8 HXA.out; obtain ⟨q0, q1, q2, q3, q4, q5, q6, q7⟩ := box8 HXB.out; clear hb2) | (go_at_call 168; refine (hew.out _ BW.out).mono ?_; rintro e w2 ⟨rfl, hb2⟩; replace BW := Aside.mk (BW.out.trans (hb2.mono BW.out.size)); replace HXA := Aside.mk ((hb2.block _ (lt_of_blk HXA.out)).trans HXA.out); replace HXB := Aside.mk ((hb2.block _ (lt_of_blk HXB.out)).trans HXB.out); obtain ⟨p0, p1, p2, p3, p4, p5, p6, p7⟩ := box8 HXA.out; obtain ⟨q0, q1, q2, q3, q4, q5, q6, q7⟩ := box8 HXB.out; clear hb2))
    go_ret
    exact ⟨ret_bool HF.out, BW.out⟩
  have h3' : (a.k == b.k) = true := by simpa using h3
  by_cases h4 : a.s = b.s
  rotate_left
  · have HF := Aside.mk (show false = sameC a b by rw [HS.out]; simp [h4])
    have h4' : (a.s == b.s) = false := by simpa using h4
    clear h4
    go_wp2_with (first | (go_at_call 82; first | (refine (hca.out _ BW.out).mono ?_; rintro e w2 ⟨rfl, hb2⟩; clear hca; replace BW := Aside.mk (BW.out.trans (hb2.mono BW.out.size)); replace HXA := Aside.mk ((hb2.block _ (lt_of_blk HXA.out)).trans HXA.out); replace HXB := Aside.mk ((hb2.block _ (lt_of_blk HXB.out)).trans HXB.out); obtain ⟨p0, p1, p2, p3, p4, p5, p6, p7⟩ := box8 HXA.out; obtain ⟨q0, q1, q2, q3, q4, q5, q6, q7⟩ := box8 HXB.out; clear hb2) | (refine (hcb.out _ BW.out).mono ?_; rintro e w2 ⟨rfl, hb2⟩; replace BW := Aside.mk (BW.out.trans (hb2.mono BW.out.size)); replace HXA := Aside.mk ((hb2.block _ (lt_of_blk HXA.out)).trans HXA.out); replace HXB := Aside.mk ((hb2.block _ (lt_of_blk HXB.out)).trans HXB.out); obtain ⟨p0, p1, p2, p3, p4, p5, p6, p7⟩ := box8 HXA.out; obtain ⟨q0, q1, q2, q3, q4, q5, q6, q7⟩ := box8 HXB.out; clear hb2)) | (go_at_call 166; first | (refine (heb.out _ BW.out).mono ?_; rintro e w2 ⟨rfl, hb2⟩; clear heb; replace BW := Aside.mk (BW.out.trans (hb2.mono BW.out.size)); replace HXA := Aside.mk ((hb2.block _ (lt_of_blk HXA.out)).trans HXA.out); replace HXB := Aside.mk ((hb2.block _ (lt_of_blk HXB.out)).trans HXB.out); obtain ⟨p0, p1, p2, p3, p4, p5, p6, p7⟩ := box8 HXA.out; obtain ⟨q0, q1, q2, q3, q4, q5, q6, q7⟩ := box8 HXB.out; clear hb2) | (refine (hed.out _ BW.out).mono ?_; rintro e w2 ⟨rfl, hb2⟩; replace BW := Aside.mk (BW.out.trans (hb2.mono BW.out.size)); replace HXA := Aside.mk ((hb2.block _ (lt_of_blk HXA.out)).trans HXA.out); replace HXB := Aside.mk ((hb2.block _ (lt_of_blk HXB.out)).trans HXB.out); obtain ⟨p0, p1, p2, p3, p4, p5, p6, p7⟩ := box8 HXA.out; obtain ⟨q0, q1, q2, q3, q4, q5, q6, q7⟩ := box8 HXB.out; clear hb2)) | (go_at_call 167; refine (hee.out _ BW.out).mono ?_; rintro e w2 ⟨rfl, hb2⟩; replace BW := Aside.mk (BW.out.trans (hb2.mono BW.out.size)); replace HXA := Aside.mk ((hb2.block _ (lt_of_blk HXA.out)).trans HXA.out); replace HXB := Aside.mk ((hb2.block _ (lt_of_blk HXB.out)).trans HXB.out); obtain ⟨p0, p1, p2, p3, p4, p5, p6, p7⟩ := box8 HXA.out; obtain ⟨q0, q1, q2, q3, q4, q5, q6, q7⟩ := box8 HXB.out; clear hb2) | (go_at_call 168; refine (hew.out _ BW.out).mono ?_; rintro e w2 ⟨rfl, hb2⟩; replace BW := Aside.mk (BW.out.trans (hb2.mono BW.out.size)); replace HXA := Aside.mk ((hb2.block _ (lt_of_blk HXA.out)).trans HXA.out); replace HXB := Aside.mk ((hb2.block _ (lt_of_blk HXB.out)).trans HXB.out); obtain ⟨p0, p1, p2, p3, p4, p5, p6, p7⟩ := box8 HXA.out; obtain ⟨q0, q1, q2, q3, q4, q5, q6, q7⟩ := box8 HXB.out; clear hb2))
    go_ret
    exact ⟨ret_bool HF.out, BW.out⟩
  have h4' : (a.s == b.s) = true := by simpa using h4
  by_cases h5 : a.n = b.n
  rotate_left
  · have HF := Aside.mk (show false = sameC a b by rw [HS.out]; simp [h5])
    have h5' : (a.n == b.n) = false := by simpa using h5
    clear h5
    go_wp2_with (first | (go_at_call 82; first | (refine (hca.out _ BW.out).mono ?_; rintro e w2 ⟨rfl, hb2⟩; clear hca; replace BW := Aside.mk (BW.out.trans (hb2.mono BW.out.size)); replace HXA := Aside.mk ((hb2.block _ (lt_of_blk HXA.out)).trans HXA.out); replace HXB := Aside.mk ((hb2.block _ (lt_of_blk HXB.out)).trans HXB.out); obtain ⟨p0, p1, p2, p3, p4, p5, p6, p7⟩ := box8 HXA.out; obtain ⟨q0, q1, q2, q3, q4, q5, q6, q7⟩ := box8 HXB.out; clear hb2) | (refine (hcb.out _ BW.out).mono ?_; rintro e w2 ⟨rfl, hb2⟩; replace BW := Aside.mk (BW.out.trans (hb2.mono BW.out.size)); replace HXA := Aside.mk ((hb2.block _ (lt_of_blk HXA.out)).trans HXA.out); replace HXB := Aside.mk ((hb2.block _ (lt_of_blk HXB.out)).trans HXB.out); obtain ⟨p0, p1, p2, p3, p4, p5, p6, p7⟩ := box8 HXA.out; obtain ⟨q0, q1, q2, q3, q4, q5, q6, q7⟩ := box8 HXB.out; clear hb2)) | (go_at_call 166; first | (refine (heb.out _ BW.out).mono ?_; rintro e w2 ⟨rfl, hb2⟩; clear heb; replace BW := Aside.mk (BW.out.trans (hb2.mono BW.out.size)); replace HXA := Aside.mk ((hb2.block _ (lt_of_blk HXA.out)).trans HXA.out); replace HXB := Aside.mk ((hb2.block _ (lt_of_blk HXB.out)).trans HXB.out); obtain ⟨p0, p1, p2, p3, p4, p5, p6, p7⟩ := box8 HXA.out; obtain ⟨q0, q1, q2, q3, q4, q5, q6, q7⟩ := box8 HXB.out; clear hb2) | (refine (hed.out _ BW.out).mono ?_; rintro e w2 ⟨rfl, hb2⟩; replace BW := Aside.mk (BW.out.trans (hb2.mono BW.out.size)); replace HXA := Aside.mk ((hb2.block _ (lt_of_blk HXA.out)).trans HXA.out); replace HXB := Aside.mk ((hb2.block _ (lt_of_blk HXB.out)).trans HXB.out); obtain ⟨p0, p1, p2, p3, p4, p5, p6, p7⟩ := box8 HXA.out; obtain ⟨q0, q1, q2, q3, q4, q5, q6, q7⟩ := box8 HXB.out; clear hb2)) | (go_at_call 167; refine (hee.out _ BW.out).mono ?_; rintro e w2 ⟨rfl, hb2⟩; replace BW := Aside.mk (BW.out.trans (hb2.mono BW.out.size)); replace HXA := Aside.mk ((hb2.block _ (lt_of_blk HXA.out)).trans HXA.out); replace HXB := Aside.mk ((hb2.block _ (lt_of_blk HXB.out)).trans HXB.out); obtain ⟨p0, p1, p2, p3, p4, p5, p6, p7⟩ := box8 HXA.out; obtain ⟨q0, q1, q2, q3, q4, q5, q6, q7⟩ := box8 HXB.out; clear hb2) | (go_at_call 168; refine (hew.out _ BW.out).mono ?_; rintro e w2 ⟨rfl, hb2⟩; replace BW := Aside.mk (BW.out.trans (hb2.mono BW.out.size)); replace HXA := Aside.mk ((hb2.block _ (lt_of_blk HXA.out)).trans HXA.out); replace HXB := Aside.mk ((hb2.block _ (lt_of_blk HXB.out)).trans HXB.out); obtain ⟨p0, p1, p2, p3, p4, p5, p6, p7⟩ := box8 HXA.out; obtain ⟨q0, q1, q2, q3, q4, q5, q6, q7⟩ := box8 HXB.out; clear hb2))
    go_ret
    exact ⟨ret_bool HF.out, BW.out⟩
  have h5' : (a.n == b.n) = true := by simpa using h5
  have h6 : ∀ r : Bool, r = (tb && decide (a.data = b.data) && decide (a.ends = b.ends) && decide (a.words = b.words)) → r = sameC a b := fun r hr => by
    rw [HS.out, hr, HTB.out]
    simp [h1, h2, h3, h4, h5, Bool.and_assoc]
  have H6 := Aside.mk h6
  clear h1 h2 h3 h4 h5 h6
  generalize decide (a.data = b.data) = td at *
  generalize decide (a.ends = b.ends) = te at *
  generalize decide (a.words = b.words) = tw at *
  cases tb with
  | false =>
    go_wp2_with (first | (go_at_call 82; first | (refine (hca.out _ BW.out).mono ?_; rintro e w2 ⟨rfl, hb2⟩; clear hca; replace BW := Aside.mk (BW.out.trans (hb2.mono BW.out.size)); replace HXA := Aside.mk ((hb2.block _ (lt_of_blk HXA.out)).trans HXA.out); replace HXB := Aside.mk ((hb2.block _ (lt_of_blk HXB.out)).trans HXB.out); obtain ⟨p0, p1, p2, p3, p4, p5, p6, p7⟩ := box8 HXA.out; obtain ⟨q0, q1, q2, q3, q4, q5, q6, q7⟩ := box8 HXB.out; clear hb2) | (refine (hcb.out _ BW.out).mono ?_; rintro e w2 ⟨rfl, hb2⟩; replace BW := Aside.mk (BW.out.trans (hb2.mono BW.out.size)); replace HXA := Aside.mk ((hb2.block _ (lt_of_blk HXA.out)).trans HXA.out); replace HXB := Aside.mk ((hb2.block _ (lt_of_blk HXB.out)).trans HXB.out); obtain ⟨p0, p1, p2, p3, p4, p5, p6, p7⟩ := box8 HXA.out; obtain ⟨q0, q1, q2, q3, q4, q5, q6, q7⟩ := box8 HXB.out; clear hb2)) | (go_at_call 166; first | (refine (heb.out _ BW.out).mono ?_; rintro e w2 ⟨rfl, hb2⟩; clear heb; replace BW := Aside.mk (BW.out.trans (hb2.mono BW.out.size)); replace HXA := Aside.mk ((hb2.block _ (lt_of_blk HXA.out)).trans HXA.out); replace HXB := Aside.mk ((hb2.block _ (lt_of_blk HXB.out)).trans HXB.out); obtain ⟨p0, p1, p2, p3, p4, p5, p6, p7⟩ := box8 HXA.out; obtain ⟨q0, q1, q2, q3, q4, q5, q6, q7⟩ := box8 HXB.out; clear hb2) | (refine (hed.out _ BW.out).mono ?_; rintro e w2 ⟨rfl, hb2⟩; replace BW := Aside.mk (BW.out.trans (hb2.mono BW.out.size)); replace HXA := Aside.mk ((hb2.block _ (lt_of_blk HXA.out)).trans HXA.out); replace HXB := Aside.mk ((hb2.block _ (lt_of_blk HXB.out)).trans HXB.out); obtain ⟨p0, p1, p2, p3, p4, p5, p6, p7⟩ := box8 HXA.out; obtain ⟨q0, q1, q2, q3, q4, q5, q6, q7⟩ := box8 HXB.out; clear hb2)) | (go_at_call 167; refine (hee.out _ BW.out).mono ?_; rintro e w2 ⟨rfl, hb2⟩; replace BW := Aside.mk (BW.out.trans (hb2.mono BW.out.size)); replace HXA := Aside.mk ((hb2.block _ (lt_of_blk HXA.out)).trans HXA.out); replace HXB := Aside.mk ((hb2.block _ (lt_of_blk HXB.out)).trans HXB.out); obtain ⟨p0, p1, p2, p3, p4, p5, p6, p7⟩ := box8 HXA.out; obtain ⟨q0, q1, q2, q3, q4, q5, q6, q7⟩ := box8 HXB.out; clear hb2) | (go_at_call 168; refine (hew.out _ BW.out).mono ?_; rintro e w2 ⟨rfl, hb2⟩; replace BW := Aside.mk (BW.out.trans (hb2.mono BW.out.size)); replace HXA := Aside.mk ((hb2.block _ (lt_of_blk HXA.out)).trans HXA.out); replace HXB := Aside.mk ((hb2.block _ (lt_of_blk HXB.out)).trans HXB.out); obtain ⟨p0, p1, p2, p3, p4, p5, p6, p7⟩ := box8 HXA.out; obtain ⟨q0, q1, q2, q3, q4, q5, q6, q7⟩ := box8 HXB.out; clear hb2))
    go_ret
    exact ⟨ret_bool (H6.out _ (by simp)), BW.out⟩
  | true =>
    cases td with
    | false =>
      go_wp2_with (first | (go_at_call 82; first | (refine (hca.out _ BW.out).mono ?_; rintro e w2 ⟨rfl, hb2⟩; clear hca; replace BW := Aside.mk (BW.out.trans (hb2.mono BW.out.size)); replace HXA := Aside.mk ((hb2.block _ (lt_of_blk HXA.out)).trans HXA.out); replace HXB := Aside.mk ((hb2.block _ (lt_of_blk HXB.out)).trans HXB.out); obtain ⟨p0, p1, p2, p3, p4, p5, p6, p7⟩ := box8 HXA.out; obtain ⟨q0, q1, q2, q3, q4, q5, q6, q7⟩ := box8 HXB.out; clear hb2) | (refine (hcb.out _ BW.out).mono ?_; rintro e w2 ⟨rfl, hb2⟩; replace BW := Aside.mk (BW.out.trans (hb2.mono BW.out.size)); replace HXA := Aside.mk ((hb2.block _ (lt_of_blk HXA.out)).trans HXA.out); replace HXB := Aside.mk ((hb2.block _ (lt_of_blk HXB.out)).trans HXB.out); obtain ⟨p0, p1, p2, p3, p4, p5, p6, p7⟩ := box8 HXA.out; obtain ⟨q0, q1, q2, q3, q4, q5, q6, q7⟩ := box8 HXB.out; clear hb2)) | (go_at_call 166; first | (refine (heb.out _ BW.out).mono ?_; rintro e w2 ⟨rfl, hb2⟩; clear heb; replace BW := Aside.mk (BW.out.trans (hb2.mono BW.out.size)); replace HXA := Aside.mk ((hb2.block _ (lt_of_blk HXA.out)).trans HXA.out); replace HXB := Aside.mk ((hb2.block _ (lt_of_blk HXB.out)).trans HXB.out); obtain ⟨p0, p1, p2, p3, p4, p5, p6, p7⟩ := box8 HXA.out; obtain ⟨q0, q1, q2, q3, q4, q5, q6, q7⟩ := box8 HXB.out; clear hb2) | (refine (hed.out _ BW.out).mono ?_; rintro e w2 ⟨rfl, hb2⟩; replace BW := Aside.mk (BW.out.trans (hb2.mono BW.out.size)); replace HXA := Aside.mk ((hb2.block _ (lt_of_blk HXA.out)).trans HXA.out); replace HXB := Aside.mk ((hb2.block _ (lt_of_blk HXB.out)).trans HXB.out); obtain ⟨p0, p1, p2, p3, p4, p5, p6, p7⟩ := box8 HXA.out; obtain ⟨q0, q1, q2, q3, q4, q5, q6, q7⟩ := box8 HXB.out; clear hb2)) | (go_at_call 167; refine (hee.out _ BW.out).mono ?_; rintro e w2 ⟨rfl, hb2⟩; replace BW := Aside.mk (BW.out.trans (hb2.mono BW.out.size)); replace HXA := Aside.mk ((hb2.block _ (lt_of_blk HXA.out)).trans HXA.out); replace HXB := Aside.mk ((hb2.block _ (lt_of_blk HXB.out)).trans HXB.out); obtain ⟨p0, p1, p2, p3, p4, p5, p6, p7⟩ := box8 HXA.out; obtain ⟨q0, q1, q2, q3, q4, q5, q6, q7⟩ := box8 HXB.out; clear hb2) | (go_at_call 168; refine (hew.out _ BW.out).mono ?_; rintro e w2 ⟨rfl, hb2⟩; replace BW := Aside.mk (BW.out.trans (hb2.mono BW.out.size)); replace HXA := Aside.mk ((hb2.block _ (lt_of_blk HXA.out)).trans HXA.out); replace HXB := Aside.mk ((hb2.block _ (lt_of_blk HXB.out)).trans HXB.out); obtain ⟨p0, p1, p2, p3, p4, p5, p6, p7⟩ := box8 HXA.out; obtain ⟨q0, q1, q2, q3, q4, q5, q6, q7⟩ := box8 HXB.out; clear hb2))
      go_ret
      exact ⟨ret_bool (H6.out _ (by simp)), BW.out⟩
    | true =>
      cases te with
      | false =>
        go_wp2_with (first | (go_at_call 82; first | (refine (hca.out _ BW.out).mono ?_; rintro e w2 ⟨rfl, hb2⟩; clear hca; replace BW := Aside.mk (BW.out.trans (hb2.mono BW.out.size)); replace HXA := Aside.mk ((hb2.block _ (lt_of_blk HXA.out)).trans HXA.out); replace HXB := Aside.mk ((hb2.block _ (lt_of_blk HXB.out)).trans HXB.out); obtain ⟨p0, p1, p2, p3, p4, p5, p6, p7⟩ := box8 HXA.out; obtain ⟨q0, q1, q2, q3, q4, q5, q6, q7⟩ := box8 HXB.out; clear hb2) | (refine (hcb.out _ BW.out).mono ?_; rintro e w2 ⟨rfl, hb2⟩; replace BW := Aside.mk (BW.out.trans (hb2.mono BW.out.size)); replace HXA := Aside.mk ((hb2.block _ (lt_of_blk HXA.out)).trans HXA.out); replace HXB := Aside.mk ((hb2.block _ (lt_of_blk HXB.out)).trans HXB.out); obtain ⟨p0, p1, p2, p3, p4, p5, p6, p7⟩ := box8 HXA.out; obtain ⟨q0, q1, q2, q3, q4, q5, q6, q7⟩ := box8 HXB.out; clear hb2)) | (go_at_call 166; first | (refine (heb.out _ BW.out).mono ?_; rintro e w2 ⟨rfl, hb2⟩; clear heb; replace BW := Aside.mk (BW.out.trans (hb2.mono BW.out.size)); replace HXA := Aside.mk ((hb2.block _ (lt_of_blk HXA.out)).trans HXA.out); replace HXB := Aside.mk ((hb2.block _ (lt_of_blk HXB.out)).trans HXB.out); obtain ⟨p0, p1, p2, p3, p4, p5, p6, p7⟩ := box8 HXA.out; obtain ⟨q0, q1, q2, q3, q4, q5, q6, q7⟩ := box8 HXB.out; clear hb2) | (refine (hed.out _ BW.out).mono ?_; rintro e w2 ⟨rfl, hb2⟩; replace BW := Aside.mk (BW.out.trans (hb2.mono BW.out.size)); replace HXA := Aside.mk ((hb2.block _ (lt_of_blk HXA.out)).trans HXA.out); replace HXB := Aside.mk ((hb2.block _ (lt_of_blk HXB.out)).trans HXB.out); obtain ⟨p0, p1, p2, p3, p4, p5, p6, p7⟩ := box8 HXA.out; obtain ⟨q0, q1, q2, q3, q4, q5, q6, q7⟩ := box8 HXB.out; clear hb2)) | (go_at_call 167; refine (hee.out _ BW.out).mono ?_; rintro e w2 ⟨rfl, hb2⟩; replace BW := Aside.mk (BW.out.trans (hb2.mono BW.out.size)); replace HXA := Aside.mk ((hb2.block _ (lt_of_blk HXA.out)).trans HXA.out); replace HXB := Aside.mk ((hb2.block _ (lt_of_blk HXB.out)).trans HXB.out); obtain ⟨p0, p1, p2, p3, p4, p5, p6, p7⟩ := box8 HXA.out; obtain ⟨q0, q1, q2, q3, q4, q5, q6, q7⟩ := box8 HXB.out; clear hb2) | (go_at_call 168; refine (hew.out _ BW.out).mono ?_; rintro e w2 ⟨rfl, hb2⟩; replace BW := Aside.mk (BW.out.trans (hb2.mono BW.out.size)); replace HXA := Aside.mk ((hb2.block _ (lt_of_blk HXA.out)).trans HXA.out); replace HXB := Aside.mk ((hb2.block _ (lt_of_blk HXB.out)).trans HXB.out); obtain ⟨p0, p1, p2, p3, p4, p5, p6, p7⟩ := box8 HXA.out; obtain ⟨q0, q1, q2, q3, q4, q5, q6, q7⟩ := box8 HXB.out; clear hb2))
        go_ret
        exact ⟨ret_bool (H6.out _ (by simp)), BW.out⟩
      | true =>
        go_wp2_with (first | (go_at_call 82; first | (refine (hca.out _ BW.out).mono ?_; rintro e w2 ⟨rfl, hb2⟩; clear hca; replace BW := Aside.mk (BW.out.trans (hb2.mono BW.out.size)); replace HXA := Aside.mk ((hb2.block _ (lt_of_blk HXA.out)).trans HXA.out); replace HXB := Aside.mk ((hb2.block _ (lt_of_blk HXB.out)).trans HXB.out); obtain ⟨p0, p1, p2, p3, p4, p5, p6, p7⟩ := box8 HXA.out; obtain ⟨q0, q1, q2, q3, q4, q5, q6, q7⟩ := box8 HXB.out; clear hb2) | (refine (hcb.out _ BW.out).mono ?_; rintro e w2 ⟨rfl, hb2⟩; replace BW := Aside.mk (BW.out.trans (hb2.mono BW.out.size)); replace HXA := Aside.mk ((hb2.block _ (lt_of_blk HXA.out)).trans HXA.out); replace HXB := Aside.mk ((hb2.block _ (lt_of_blk HXB.out)).trans HXB.out); obtain ⟨p0, p1, p2, p3, p4, p5, p6, p7⟩ := box8 HXA.out; obtain ⟨q0, q1, q2, q3, q4, q5, q6, q7⟩ := box8 HXB.out; clear hb2)) | (go_at_call 166; first | (refine (heb.out _ BW.out).mono ?_; rintro e w2 ⟨rfl, hb2⟩; clear heb; replace BW := Aside.mk (BW.out.trans (hb2.mono BW.out.size)); replace HXA := Aside.mk ((hb2.block _ (lt_of_blk HXA.out)).trans HXA.out); replace HXB := Aside.mk ((hb2.block _ (lt_of_blk HXB.out)).trans HXB.out); obtain ⟨p0, p1, p2, p3, p4, p5, p6, p7⟩ := box8 HXA.out; obtain ⟨q0, q1, q2, q3, q4, q5, q6, q7⟩ := box8 HXB.out; clear hb2) | (refine (hed.out _ BW.out).mono ?_; rintro e w2 ⟨rfl, hb2⟩; replace BW := Aside.mk (BW.out.trans (hb2.mono BW.out.size)); replace HXA := Aside.mk ((hb2.block _ (lt_of_blk HXA.out)).trans HXA.out); replace HXB := Aside.mk ((hb2.block _ (lt_of_blk HXB.out)).trans HXB.out); obtain ⟨p0, p1, p2, p3, p4, p5, p6, p7⟩ := box8 HXA.out; obtain ⟨q0, q1, q2, q3, q4, q5, q6, q7⟩ := box8 HXB.out; clear hb2)) | (go_at_call 167; refine (hee.out _ BW.out).mono ?_; rintro e w2 ⟨rfl, hb2⟩; replace BW := Aside.mk (BW.out.trans (hb2.mono BW.out.size)); replace HXA := Aside.mk ((hb2.block _ (lt_of_blk HXA.out)).trans HXA.out); replace HXB := Aside.mk ((hb2.block _ (lt_of_blk HXB.out)).trans HXB.out); obtain ⟨p0, p1, p2, p3, p4, p5, p6, p7⟩ := box8 HXA.out; obtain ⟨q0, q1, q2, q3, q4, q5, q6, q7⟩ := box8 HXB.out; clear hb2) | (go_at_call 168; refine (hew.out _ BW.out).mono ?_; rintro e w2 ⟨rfl, hb2⟩; replace BW := Aside.mk (BW.out.trans (hb2.mono BW.out.size)); replace HXA := Aside.mk ((hb2.block _ (lt_of_blk HXA.out)).trans HXA.out); replace HXB := Aside.mk ((hb2.block _ (lt_of_blk HXB.out)).trans HXB.out); obtain ⟨p0, p1, p2, p3, p4, p5, p6, p7⟩ := box8 HXA.out; obtain ⟨q0, q1, q2, q3, q4, q5, q6, q7⟩ := box8 HXB.out; clear hb2))
        go_ret
        exact ⟨ret_bool (H6.out _ (by simp)), BW.out⟩
end Go.Proofs.YtmhjjhaipcgbiaaGreat


namespace Go.Proofs.YtmhjjhaipcgbiaaGreat
open Go.RowKit
set_option linter.unusedVariables false
set_option linter.unusedSimpArgs false
set_option maxRecDepth 100000
set_option maxHeartbeats 4000000
theorem str_eq {xs ys : List Int} (hx : IsBytes xs) (hy : IsBytes ys) : ((strOfNums xs).toList == (strOfNums ys).toList) = decide (xs = ys) := by
  rw [Bool.eq_iff_iff, beq_iff_eq, decide_eq_true_eq, ByteArray.toList_eq, ByteArray.toList_eq, strOfNums_data, strOfNums_data]
  exact ⟨map_byte_inj xs ys hx hy, fun h => by rw [h]⟩
theorem same16 (m1 m2 : Int) (xs ys : List Int) (A B : SL) (hx : IsBytes xs) (hy : IsBytes ys) (w : World) (ha : Rd w 1 (.slice A.a xs.length A.c) xs.length (xs.map (.int .u8))) (hb : Rd w 1 (.slice B.a ys.length B.c) ys.length (ys.map (.int .u8))) :
    Calls Tryz.prog 85 #[.agg #[.int .i64 m1, .slice A.a xs.length A.c], .agg #[.int .i64 m2, .slice B.a ys.length B.c]] w (BoolP (decide (m1 = m2) && decide (xs = ys)) w) := by
  have BW := Aside.mk ((below_new w (.cells #[.int .i64 m1, .slice A.a xs.length A.c] 60)).trans ((below_new _ (.cells #[.int .i64 m2, .slice B.a ys.length B.c] 60)).mono (by simp)))
  have h1 := conv_any A.a _ A.c xs rfl _ (ha.below BW.out)
  have h2 := conv_any B.a _ B.c ys rfl _ (hb.below BW.out)
  have hd := str_eq hx hy
  clear ha hb
  generalize strOfNums xs = sx at *
  generalize strOfNums ys = sy at *
  generalize decide (xs = ys) = r at *
  generalize xs.length = n at *
  generalize ys.length = m at *
  by_cases e : m1 = m2
  · have e1 : (m1 == m2) = true := by simpa using e
    have HF := Aside.mk (show (sx.toList == sy.toList) = (decide (m1 = m2) && r) by rw [hd]; simp [e])
    clear e hd
    go_enter Tryz.func85, Tryz.ntmps85
    go_wp2
    go_ret
    exact ⟨ret_bool HF.out, BW.out⟩
  · have e1 : (m1 == m2) = false := by simpa using e
    have HF := Aside.mk (show false = (decide (m1 = m2) && r) by simp [e])
    clear e hd
    go_enter Tryz.func85, Tryz.ntmps85
    go_wp2
    go_ret
    exact ⟨ret_bool HF.out, BW.out⟩
def equalC (a b : Col) : Bool := decide (a.k = b.k ∧ a.s = b.s ∧ a.n = b.n ∧ a.m = b.m ∧ a.bits = b.bits ∧ a.data = b.data ∧ a.ends = b.ends ∧ a.words = b.words)
theorem equalC_refl (a : Col) : equalC a a = true := by simp [equalC]
theorem take_extA {α : Type} {xs ys : List α} {i : Nat} (h1 : i < xs.length) (h2 : i < ys.length) (h : xs.take i = ys.take i) (e : xs[i] = ys[i]) : xs.take (i + 1) = ys.take (i + 1) := by
  rw [List.take_succ_eq_append_getElem h1, List.take_succ_eq_append_getElem h2, h, e]
theorem full_extA {α : Type} {xs ys : List α} (hl : xs.length = ys.length) (h : xs.take xs.length = ys.take xs.length) : xs = ys := by
  rw [List.take_length, hl, List.take_length] at h
  exact h
theorem get_nextA {α : Type} {xs ys : List α} {i : Nat} (h1 : i < xs.length) (h2 : i < ys.length) (e : xs[i] ≠ ys[i]) : xs ≠ ys := fun h => e (by subst h; rfl)
theorem equal_col (a b : Col) (ha : COK a) (hb : COK b) (B D E X B2 D2 E2 X2 : SL) (va vb : List Value) (w : World) (h : RdC w a B D E X va) (h2 : RdC w b B2 D2 E2 X2 vb) :
    Calls Tryz.prog 30 #[colV a B D E X, colV b B2 D2 E2 X2] w (BoolP (equalC a b) w) := by
  have BW := Aside.mk ((below_new w (.cells #[.int .i64 a.k, .int .i64 a.s, .int .i64 a.n, .int .i64 a.m, .slice B.a a.bits.length B.c, .slice D.a a.data.length D.c, .slice E.a a.ends.length E.c, .slice X.a a.words.length X.c] 63)).trans ((below_new _ (.cells #[.int .i64 b.k, .int .i64 b.s, .int .i64 b.n, .int .i64 b.m, .slice B2.a b.bits.length B2.c, .slice D2.a b.data.length D2.c, .slice E2.a b.ends.length E2.c, .slice X2.a b.words.length X2.c] 63)).mono (by simp)))
  have HXA := Aside.mk (show ((w.alloc (.cells #[.int .i64 a.k, .int .i64 a.s, .int .i64 a.n, .int .i64 a.m, .slice B.a a.bits.length B.c, .slice D.a a.data.length D.c, .slice E.a a.ends.length E.c, .slice X.a a.words.length X.c] 63)).alloc (.cells #[.int .i64 b.k, .int .i64 b.s, .int .i64 b.n, .int .i64 b.m, .slice B2.a b.bits.length B2.c, .slice D2.a b.data.length D2.c, .slice E2.a b.ends.length E2.c, .slice X2.a b.words.length X2.c] 63)).heap[w.heap.size]? = some (.cells #[.int .i64 a.k, .int .i64 a.s, .int .i64 a.n, .int .i64 a.m, .slice B.a a.bits.length B.c, .slice D.a a.data.length D.c, .slice E.a a.ends.length E.c, .slice X.a a.words.length X.c] 63 (0, 0)) by
    rw [Below.heap_alloc _ _ _ (by simp)]; exact heap_alloc_new w _)
  have HXB := Aside.mk (show ((w.alloc (.cells #[.int .i64 a.k, .int .i64 a.s, .int .i64 a.n, .int .i64 a.m, .slice B.a a.bits.length B.c, .slice D.a a.data.length D.c, .slice E.a a.ends.length E.c, .slice X.a a.words.length X.c] 63)).alloc (.cells #[.int .i64 b.k, .int .i64 b.s, .int .i64 b.n, .int .i64 b.m, .slice B2.a b.bits.length B2.c, .slice D2.a b.data.length D2.c, .slice E2.a b.ends.length E2.c, .slice X2.a b.words.length X2.c] 63)).heap[w.heap.size + 1]? = some (.cells #[.int .i64 b.k, .int .i64 b.s, .int .i64 b.n, .int .i64 b.m, .slice B2.a b.bits.length B2.c, .slice D2.a b.data.length D2.c, .slice E2.a b.ends.length E2.c, .slice X2.a b.words.length X2.c] 63 (0, 0)) by
    simpa using heap_alloc_new (w.alloc (.cells #[.int .i64 a.k, .int .i64 a.s, .int .i64 a.n, .int .i64 a.m, .slice B.a a.bits.length B.c, .slice D.a a.data.length D.c, .slice E.a a.ends.length E.c, .slice X.a a.words.length X.c] 63)) (.cells #[.int .i64 b.k, .int .i64 b.s, .int .i64 b.n, .int .i64 b.m, .slice B2.a b.bits.length B2.c, .slice D2.a b.data.length D2.c, .slice E2.a b.ends.length E2.c, .slice X2.a b.words.length X2.c] 63))
  have HSM := Aside.mk (same16 a.m b.m a.bits b.bits B B2 ha.bits hb.bits _ (h.bits.below BW.out) (h2.bits.below BW.out))
  have HCA := Aside.mk (fun (w2 : World) (hw : Below w.heap.size w w2) => conv_any D.a _ D.c a.data rfl w2 (h.data.below hw))
  have HCB := Aside.mk (fun (w2 : World) (hw : Below w.heap.size w w2) => conv_any D2.a _ D2.c b.data rfl w2 (h2.data.below hw))
  have HDD := Aside.mk (str_eq ha.data hb.data)
  have HS := Aside.mk (show equalC a b = decide (a.k = b.k ∧ a.s = b.s ∧ a.n = b.n ∧ a.m = b.m ∧ a.bits = b.bits ∧ a.data = b.data ∧ a.ends = b.ends ∧ a.words = b.words) from rfl)
  have HR := Aside.mk h
  have HR2 := Aside.mk h2
  have HKA := Aside.mk ha
  have HKB := Aside.mk hb
  clear h h2 ha hb
  dsimp only [colV]
  by_cases q1 : a.k = b.k
  rotate_left
  · have HF := Aside.mk (show false = equalC a b by rw [HS.out]; simp [q1])
    have q1' : (a.k == b.k) = false := by simpa using q1
    have q1'' : (a.k != b.k) = true := by simpa using q1
    clear q1
    go_enter Tryz.func30, Tryz.ntmps30; go_wp2_with (go_at_call 85; refine HSM.out.mono ?_; rintro e w2 ⟨rfl, hb2⟩; replace BW := Aside.mk (below_chain BW.out hb2); have hda := HCA.out _ BW.out; have hdb := HCB.out _ BW.out; replace HXA := Aside.mk ((hb2.block _ (lt_of_blk HXA.out)).trans HXA.out); replace HXB := Aside.mk ((hb2.block _ (lt_of_blk HXB.out)).trans HXB.out); obtain ⟨p0, p1, p2, p3, p4, p5, p6, p7⟩ := box8 HXA.out; obtain ⟨q0, q1, q2, q3, q4, q5, q6, q7⟩ := box8 HXB.out; clear hb2); go_ret; exact ⟨ret_bool HF.out, BW.out⟩
  simp only [q1] at BW HXA HXB HSM ⊢
  by_cases q2 : a.s = b.s
  rotate_left
  · have HF := Aside.mk (show false = equalC a b by rw [HS.out]; simp [q2])
    have q2' : (a.s == b.s) = false := by simpa using q2
    have q2'' : (a.s != b.s) = true := by simpa using q2
    clear q2
    go_enter Tryz.func30, Tryz.ntmps30; go_wp2_with (go_at_call 85; refine HSM.out.mono ?_; rintro e w2 ⟨rfl, hb2⟩; replace BW := Aside.mk (below_chain BW.out hb2); have hda := HCA.out _ BW.out; have hdb := HCB.out _ BW.out; replace HXA := Aside.mk ((hb2.block _ (lt_of_blk HXA.out)).trans HXA.out); replace HXB := Aside.mk ((hb2.block _ (lt_of_blk HXB.out)).trans HXB.out); obtain ⟨p0, p1, p2, p3, p4, p5, p6, p7⟩ := box8 HXA.out; obtain ⟨q0, q1, q2, q3, q4, q5, q6, q7⟩ := box8 HXB.out; clear hb2); go_ret; exact ⟨ret_bool HF.out, BW.out⟩
  simp only [q2] at BW HXA HXB HSM ⊢
  by_cases q3 : a.n = b.n
  rotate_left
  · have HF := Aside.mk (show false = equalC a b by rw [HS.out]; simp [q3])
    have q3' : (a.n == b.n) = false := by simpa using q3
    have q3'' : (a.n != b.n) = true := by simpa using q3
    clear q3
    go_enter Tryz.func30, Tryz.ntmps30; go_wp2_with (go_at_call 85; refine HSM.out.mono ?_; rintro e w2 ⟨rfl, hb2⟩; replace BW := Aside.mk (below_chain BW.out hb2); have hda := HCA.out _ BW.out; have hdb := HCB.out _ BW.out; replace HXA := Aside.mk ((hb2.block _ (lt_of_blk HXA.out)).trans HXA.out); replace HXB := Aside.mk ((hb2.block _ (lt_of_blk HXB.out)).trans HXB.out); obtain ⟨p0, p1, p2, p3, p4, p5, p6, p7⟩ := box8 HXA.out; obtain ⟨q0, q1, q2, q3, q4, q5, q6, q7⟩ := box8 HXB.out; clear hb2); go_ret; exact ⟨ret_bool HF.out, BW.out⟩
  simp only [q3] at BW HXA HXB HSM ⊢
  obtain ⟨tm, htm⟩ : ∃ tm, tm = (decide (a.m = b.m) && decide (a.bits = b.bits)) := ⟨_, rfl⟩
  rw [← htm] at HSM
  have H6 := Aside.mk (fun (r : Bool) (hr : r = (tm && (decide (a.data = b.data) && (decide (a.ends = b.ends) && decide (a.words = b.words))))) => show r = equalC a b by
    rw [HS.out, hr, htm, Bool.eq_iff_iff]
    simp [q1, q2, q3, and_assoc])
  clear q1 q2 q3 htm
  cases tm with
  | false =>
    have HF := Aside.mk (H6.out false (by simp))
    go_enter Tryz.func30, Tryz.ntmps30; go_wp2_with (go_at_call 85; refine HSM.out.mono ?_; rintro e w2 ⟨rfl, hb2⟩; replace BW := Aside.mk (below_chain BW.out hb2); have hda := HCA.out _ BW.out; have hdb := HCB.out _ BW.out; replace HXA := Aside.mk ((hb2.block _ (lt_of_blk HXA.out)).trans HXA.out); replace HXB := Aside.mk ((hb2.block _ (lt_of_blk HXB.out)).trans HXB.out); obtain ⟨p0, p1, p2, p3, p4, p5, p6, p7⟩ := box8 HXA.out; obtain ⟨q0, q1, q2, q3, q4, q5, q6, q7⟩ := box8 HXB.out; clear hb2); go_ret; exact ⟨ret_bool HF.out, BW.out⟩
  | true =>
    by_cases r1 : a.data = b.data
    rotate_left
    · have HF := Aside.mk (H6.out false (by simp [r1]))
      have e1 := HDD.out
      rw [decide_eq_false r1] at e1
      have e2 : ((strOfNums a.data).toList != (strOfNums b.data).toList) = true := by rw [bne, e1]; rfl
      clear r1
      generalize strOfNums a.data = sx at *
      generalize strOfNums b.data = sy at *
      go_enter Tryz.func30, Tryz.ntmps30; go_wp2_with (go_at_call 85; refine HSM.out.mono ?_; rintro e w2 ⟨rfl, hb2⟩; replace BW := Aside.mk (below_chain BW.out hb2); have hda := HCA.out _ BW.out; have hdb := HCB.out _ BW.out; replace HXA := Aside.mk ((hb2.block _ (lt_of_blk HXA.out)).trans HXA.out); replace HXB := Aside.mk ((hb2.block _ (lt_of_blk HXB.out)).trans HXB.out); obtain ⟨p0, p1, p2, p3, p4, p5, p6, p7⟩ := box8 HXA.out; obtain ⟨q0, q1, q2, q3, q4, q5, q6, q7⟩ := box8 HXB.out; clear hb2); go_ret; exact ⟨ret_bool HF.out, BW.out⟩
    have e1 := HDD.out
    rw [decide_eq_true r1] at e1
    have e2 : ((strOfNums a.data).toList != (strOfNums b.data).toList) = false := by rw [bne, e1]; rfl
    have H7 := Aside.mk (fun (r : Bool) (hr : r = (decide (a.ends = b.ends) && decide (a.words = b.words))) => H6.out r (by rw [hr]; simp [r1]))
    clear r1 H6 HDD
    generalize strOfNums a.data = sx at *
    generalize strOfNums b.data = sy at *
    by_cases r2 : a.ends.length = b.ends.length
    rotate_left
    · have HF := Aside.mk (H7.out false (by rw [decide_eq_false (fun e => r2 (by rw [e]))]; simp))
      have f1 : ((a.ends.length : Int) == (b.ends.length : Int)) = false := by rw [beq_eq_false_iff_ne]; omega
      have f2 : ((a.ends.length : Int) != (b.ends.length : Int)) = true := by rw [bne, f1]; rfl
      clear r2
      go_enter Tryz.func30, Tryz.ntmps30; go_wp2_with (go_at_call 85; refine HSM.out.mono ?_; rintro e w2 ⟨rfl, hb2⟩; replace BW := Aside.mk (below_chain BW.out hb2); have hda := HCA.out _ BW.out; have hdb := HCB.out _ BW.out; replace HXA := Aside.mk ((hb2.block _ (lt_of_blk HXA.out)).trans HXA.out); replace HXB := Aside.mk ((hb2.block _ (lt_of_blk HXB.out)).trans HXB.out); obtain ⟨p0, p1, p2, p3, p4, p5, p6, p7⟩ := box8 HXA.out; obtain ⟨q0, q1, q2, q3, q4, q5, q6, q7⟩ := box8 HXB.out; clear hb2); go_ret; exact ⟨ret_bool HF.out, BW.out⟩
    have f1 : ((a.ends.length : Int) == (b.ends.length : Int)) = true := by rw [beq_iff_eq]; omega
    have f2 : ((a.ends.length : Int) != (b.ends.length : Int)) = false := by rw [bne, f1]; rfl
    by_cases r3 : a.words.length = b.words.length
    rotate_left
    · have HF := Aside.mk (H7.out false (by rw [decide_eq_false (fun e => r3 (by rw [e]) : ¬ a.words = b.words)]; simp))
      have g1 : ((a.words.length : Int) == (b.words.length : Int)) = false := by rw [beq_eq_false_iff_ne]; omega
      have g2 : ((a.words.length : Int) != (b.words.length : Int)) = true := by rw [bne, g1]; rfl
      clear r2 r3
      go_enter Tryz.func30, Tryz.ntmps30; go_wp2_with (go_at_call 85; refine HSM.out.mono ?_; rintro e w2 ⟨rfl, hb2⟩; replace BW := Aside.mk (below_chain BW.out hb2); have hda := HCA.out _ BW.out; have hdb := HCB.out _ BW.out; replace HXA := Aside.mk ((hb2.block _ (lt_of_blk HXA.out)).trans HXA.out); replace HXB := Aside.mk ((hb2.block _ (lt_of_blk HXB.out)).trans HXB.out); obtain ⟨p0, p1, p2, p3, p4, p5, p6, p7⟩ := box8 HXA.out; obtain ⟨q0, q1, q2, q3, q4, q5, q6, q7⟩ := box8 HXB.out; clear hb2); go_ret; exact ⟨ret_bool HF.out, BW.out⟩
    have g1 : ((a.words.length : Int) == (b.words.length : Int)) = true := by rw [beq_iff_eq]; omega
    have g2 : ((a.words.length : Int) != (b.words.length : Int)) = false := by rw [bne, g1]; rfl
    have R2 := Aside.mk r2
    have R3 := Aside.mk r3
    have hle := HKA.out.le
    have hlw := HKA.out.lw
    clear r2 r3
    go_enter Tryz.func30, Tryz.ntmps30
    go_wp2_with (go_at_call 85; refine HSM.out.mono ?_; rintro e w2 ⟨rfl, hb2⟩; replace BW := Aside.mk (below_chain BW.out hb2); have hda := HCA.out _ BW.out; have hdb := HCB.out _ BW.out; replace HXA := Aside.mk ((hb2.block _ (lt_of_blk HXA.out)).trans HXA.out); replace HXB := Aside.mk ((hb2.block _ (lt_of_blk HXB.out)).trans HXB.out); obtain ⟨p0, p1, p2, p3, p4, p5, p6, p7⟩ := box8 HXA.out; obtain ⟨q0, q1, q2, q3, q4, q5, q6, q7⟩ := box8 HXB.out; clear hb2)
    clear p0 p1 p2 p3 p4 p5 p6 p7 q0 q1 q2 q3 q4 q5 q6 q7 hda hdb HCA HCB f1 f2 g1 g2 e1 e2
    go_loopw [5] (fun iv wr => ∃ i : Nat, i ≤ a.ends.length ∧ iv = .int .i64 (i : Int) ∧ Aside (Below w2.heap.size w2 wr ∧ a.ends.take i = b.ends.take i)) (fun iv _ => a.ends.length - (intOf iv).toNat)
    case atStart => exact ⟨0, by omega, rfl, ⟨Below.refl _ _, rfl⟩⟩
    case round =>
      obtain ⟨i, hi, rfl, hp⟩ := hrel
      obtain ⟨p0, p1, p2, p3, p4, p5, p6, p7⟩ := box8 ((hp.out.1.block _ (lt_of_blk HXA.out)).trans HXA.out)
      obtain ⟨q0, q1, q2, q3, q4, q5, q6, q7⟩ := box8 ((hp.out.1.block _ (lt_of_blk HXB.out)).trans HXB.out)
      by_cases hlt : i < a.ends.length
      · have hlt2 : i < b.ends.length := by have := R2.out; omega
        obtain ⟨g1, o1, k1, hs, hel, hecap, hc⟩ := rd_get (HR.out.ends.below (below_chain BW.out hp.out.1)) i hlt
        simp only [Value.slice.injEq, true_and] at hs
        obtain ⟨hs1, hs2⟩ := hs
        obtain ⟨g2, o2, k2, hs, hel2, hecap2, hd⟩ := rd_get (HR2.out.ends.below (below_chain BW.out hp.out.1)) i hlt2
        simp only [Value.slice.injEq, true_and] at hs
        obtain ⟨hs3, hs4⟩ := hs
        rw [hs1] at p6
        rw [hs3] at q6
        rw [hs2] at p6
        rw [hs4] at q6
        clear hs1 hs2 hs3 hs4
        have hx : a.ends.getD i 0 = a.ends[i] := by simp [List.getD_eq_getElem?_getD, hlt]
        have hy : b.ends.getD i 0 = b.ends[i] := by simp [List.getD_eq_getElem?_getD, hlt2]
        rw [hx] at hc
        rw [hy] at hd
        have HT := Aside.mk (fun e => take_extA hlt hlt2 hp.out.2 e)
        have HU := Aside.mk (fun e => get_nextA hlt hlt2 e)
        clear hx hy
        generalize a.ends[i] = x at *
        generalize b.ends[i] = y at *
        by_cases hq : x = y
        · have h1 : (x == y) = true := by simpa using hq
          have h2 : (x != y) = false := by simpa using hq
          have HT2 := Aside.mk (HT.out hq)
          clear hq HT HU
          go_wp2_with fail
          go_quiet (fail)
          go_wp2_with fail
          exact ⟨⟨i + 1, by omega, by simp, ⟨hp.out.1.trans (below_drewN _ _ _), HT2.out⟩⟩, by simp [intOf]; omega⟩
        · have h1 : (x == y) = false := by simpa using hq
          have h2 : (x != y) = true := by simpa using hq
          have HF := Aside.mk (H7.out false (by simp [HU.out hq]))
          clear hq HT HU
          go_wp2_with fail
          go_quiet (fail)
          go_wp2_with fail
          go_ret
          exact ⟨ret_bool HF.out, below_chain BW.out (hp.out.1.trans (below_drewN _ _ _))⟩
      · obtain rfl : i = a.ends.length := by omega
        have H8 := Aside.mk (fun (r : Bool) (hr : r = decide (a.words = b.words)) => H7.out r (by rw [hr, full_extA R2.out hp.out.2]; simp))
        clear H7
        have BR := Aside.mk (below_chain BW.out hp.out.1)
        replace HXA := Aside.mk ((hp.out.1.block _ (lt_of_blk HXA.out)).trans HXA.out)
        replace HXB := Aside.mk ((hp.out.1.block _ (lt_of_blk HXB.out)).trans HXB.out)
        go_wp2_with fail
        clear p0 p1 p2 p3 p4 p5 p6 p7 q0 q1 q2 q3 q4 q5 q6 q7
        clear hp
        go_loopw [6] (fun iv wz => ∃ i : Nat, i ≤ a.words.length ∧ iv = .int .i64 (i : Int) ∧ Aside (Below wr.heap.size wr wz ∧ a.words.take i = b.words.take i)) (fun iv _ => a.words.length - (intOf iv).toNat)
        case atStart => exact ⟨0, by omega, rfl, ⟨Below.refl _ _, rfl⟩⟩
        case round =>
          obtain ⟨i, hi, rfl, hp⟩ := hrel
          obtain ⟨p0, p1, p2, p3, p4, p5, p6, p7⟩ := box8 ((hp.out.1.block _ (lt_of_blk HXA.out)).trans HXA.out)
          obtain ⟨q0, q1, q2, q3, q4, q5, q6, q7⟩ := box8 ((hp.out.1.block _ (lt_of_blk HXB.out)).trans HXB.out)
          by_cases hlt : i < a.words.length
          · have hlt2 : i < b.words.length := by have := R3.out; omega
            have BZ := Aside.mk (below_chain BR.out hp.out.1)
            obtain ⟨ta, tc, hv, ht⟩ := (HR.out.each.below BZ.out).2 i _ (List.getElem?_eq_getElem hlt)
            obtain ⟨ua, uc, hu, hr⟩ := (HR2.out.each.below BZ.out).2 i _ (List.getElem?_eq_getElem hlt2)
            have hvl := HR.out.each.1
            have hul := HR2.out.each.1
            obtain ⟨g1, o1, k1, hs, hel, hecap, hc⟩ := (HR.out.words.below BZ.out).some_ (by omega)
            simp only [Value.slice.injEq, true_and] at hs
            obtain ⟨hs1, hs2⟩ := hs
            obtain ⟨g2, o2, k2, hs, hel2, hecap2, hd⟩ := (HR2.out.words.below BZ.out).some_ (by omega)
            simp only [Value.slice.injEq, true_and] at hs
            obtain ⟨hs3, hs4⟩ := hs
            rw [hs1] at p7
            rw [hs3] at q7
            rw [hs2] at p7
            rw [hs4] at q7
            clear hs1 hs2 hs3 hs4
            have hc2 := hc i _ hv
            have hd2 := hd i _ hu
            have hcA := fun n => conv_any ta _ tc a.words[i] rfl (wr.drewN n) (ht.below (below_drewN _ _ n))
            have hcB := fun n => conv_any ua _ uc b.words[i] rfl (wr.drewN n) (hr.below (below_drewN _ _ n))
            have HDD := Aside.mk (str_eq (HKA.out.words _ (List.getElem_mem hlt)).1 (HKB.out.words _ (List.getElem_mem hlt2)).1)
            have HT := Aside.mk (fun e => take_extA hlt hlt2 hp.out.2 e)
            have HU := Aside.mk (fun e => get_nextA hlt hlt2 e)
            clear hc hd hv hu ht hr
            generalize a.words[i] = x at *
            generalize b.words[i] = y at *
            generalize strOfNums x = sx at *
            generalize strOfNums y = sy at *
            by_cases hq : x = y
            · have h1 := HDD.out
              rw [decide_eq_true hq] at h1
              have h2 : (sx.toList != sy.toList) = false := by rw [bne, h1]; rfl
              have HT2 := Aside.mk (HT.out hq)
              clear hq HT HU
              go_wp2_with fail
              go_quiet (fail)
              go_wp2_with fail
              exact ⟨⟨i + 1, by omega, by simp, ⟨hp.out.1.trans (below_drewN _ _ _), HT2.out⟩⟩, by simp [intOf]; omega⟩
            · have h1 := HDD.out
              rw [decide_eq_false hq] at h1
              have h2 : (sx.toList != sy.toList) = true := by rw [bne, h1]; rfl
              have HF := Aside.mk (H8.out false (by simp [HU.out hq]))
              clear hq HT HU
              go_wp2_with fail
              go_quiet (fail)
              go_wp2_with fail
              go_ret
              exact ⟨ret_bool HF.out, BZ.out.trans (below_drewN _ _ _)⟩
          · obtain rfl : i = a.words.length := by omega
            have HF := Aside.mk (H8.out true (by rw [full_extA R3.out hp.out.2]; simp))
            go_wp2_with fail
            go_ret
            exact ⟨ret_bool HF.out, below_chain BR.out hp.out.1⟩
end Go.Proofs.YtmhjjhaipcgbiaaGreat


namespace Go.Proofs.YtmhjjhaipcgbiaaGreat
open Go.RowKit
set_option linter.unusedVariables false
set_option linter.unusedSimpArgs false
set_option maxRecDepth 100000
set_option maxHeartbeats 1000000
structure W17 (w : World) (base wb : Nat) (ws : List (List Int)) (wv : Value) (vals : List Value) : Prop where
  blk : w.heap[wb]? = some (.cells #[wv] 148 (0, 0))
  bb : base ≤ wb
  row : Own w base 43 1 wv ws.length vals
  len : vals.length = ws.length
  each : WOwn w base ws.length vals ws
  sep : WSep ws.length vals
  bytes : ∀ t ∈ ws, IsBytes t
theorem W17.keptT {w w' : World} {base wb : Nat} {ws : List (List Int)} {wv : Value} {vals : List Value} {S : Nat → Prop} (h : W17 w base wb ws wv vals) (hk : Kept S w w') (h1 : ∀ E : TypeId, E = 148 ∨ E = 43 → ∀ b, S b → b < w.heap.size → ∀ cs, w.heap[b]? ≠ some (.cells cs E (0, 0))) (h2 : ∀ (j : Nat) v, vals[j]? = some v → ∀ b, v.ownBlock = some b → ¬ S b) : W17 w' base wb ws wv vals := by
  refine ⟨(hk.block _ (lt_of_blk h.blk) (fun e => h1 _ (.inl rfl) wb e (lt_of_blk h.blk) _ h.blk)).trans h.blk, h.bb, h.row.keptT hk (h1 _ (.inr rfl)), h.len, fun j t hj ht => ?_, h.sep, h.bytes⟩
  obtain ⟨a, cap, q1, q2⟩ := h.each j t hj ht
  exact ⟨a, cap, q1, q2.kept hk (h2 j _ q1)⟩
theorem W17.below {w w' : World} {base wb : Nat} {ws : List (List Int)} {wv : Value} {vals : List Value} (h : W17 w base wb ws wv vals) (hb : Below w.heap.size w w') : W17 w' base wb ws wv vals :=
  h.keptT (Kept.of_below (S := fun _ => False) hb) (fun _ _ _ e => e.elim) (fun _ _ _ _ _ e => e)
def FindP (ws : List (List Int)) (t : List Int) (w : World) (e : Ending) (w' : World) : Prop :=
  e = .returned (.tuple #[.int .i64 (if ws.contains t then (codeOf ws t : Int) else 0), .bool (ws.contains t)]) ∧ Below w.heap.size w w'
theorem take_not {ws : List (List Int)} {t : List Int} {i : Nat} (hi : i < ws.length) (h : (ws.take i).contains t = false) (e : ws[i] ≠ t) : (ws.take (i + 1)).contains t = false := by
  rw [List.take_succ_eq_append_getElem hi]
  simp only [List.contains_eq_mem, decide_eq_false_iff_not, List.mem_append, List.mem_singleton] at h ⊢
  rintro (h1 | h1)
  · exact h h1
  · exact e h1.symm
theorem code_at {ws : List (List Int)} {t : List Int} {i : Nat} (hi : i < ws.length) (h : (ws.take i).contains t = false) (e : ws[i] = t) : ws.contains t = true ∧ codeOf ws t = i := by
  have hm : t ∈ ws := e ▸ List.getElem_mem hi
  refine ⟨by simpa using hm, ?_⟩
  have hn : t ∉ ws.take i := by simpa using h
  unfold codeOf
  rw [← List.take_append_drop i ws, List.idxOf_append, if_neg hn, List.drop_eq_getElem_cons hi, e]
  simp [List.length_take]
  omega
theorem find17 (base wb : Nat) (ws : List (List Int)) (wv : Value) (vals : List Value) (t : List Int) (ht : IsBytes t) (hw : ws.length ≤ 100000000) (ta : Option Addr) (tc : Nat) (w : World) (h : W17 w base wb ws wv vals) (hr : Rd w 1 (.slice ta t.length tc) t.length (t.map (.int .u8))) :
    Calls Tryz.prog 147 #[.pointer (some ⟨wb, 0, none⟩), .slice ta t.length tc] w (FindP ws t w) := by
  obtain ⟨wa, wc, rfl⟩ := h.row.form
  have H := Aside.mk h
  have HT := Aside.mk ht
  have HR := Aside.mk hr
  clear h ht hr
  generalize htl : t.length = tl at *
  have HTL := Aside.mk htl
  clear htl
  go_enter Tryz.func147, Tryz.ntmps147
  go_wp2
  go_loopw [6] (fun iv wr => ∃ i : Nat, i ≤ ws.length ∧ iv = .int .i64 (i : Int) ∧ Aside (Below w.heap.size w wr ∧ (ws.take i).contains t = false)) (fun iv _ => ws.length - (intOf iv).toNat)
  case atStart => exact ⟨0, by omega, rfl, ⟨Below.refl _ _, by simp⟩⟩
  case round =>
    obtain ⟨i, hi, rfl, hp⟩ := hrel
    have H2 := Aside.mk (H.out.below hp.out.1)
    have c0 := cell_blk (k := 0) H2.out.blk
    simp at c0
    by_cases hlt : i < ws.length
    · obtain ⟨ua, uc, q1, q2⟩ := H2.out.each i _ hlt (List.getElem?_eq_getElem hlt)
      have hvl := H2.out.len
      obtain ⟨g, off, cp, e, h1, h2, hcc⟩ := H2.out.row.rd.some_ (by omega)
      simp only [Value.slice.injEq, true_and] at e
      obtain ⟨e1, e2⟩ := e
      rw [e1, e2] at c0
      have hcu := hcc i _ q1
      have hcA := fun n => conv_any ua _ uc ws[i] rfl (wr.drewN n) (q2.rd.below (below_drewN _ _ n))
      have hcB := fun n => conv_any ta _ tc t HTL.out (wr.drewN n) ((HR.out.below hp.out.1).below (below_drewN _ _ n))
      have HDD := Aside.mk (str_eq (H.out.bytes _ (List.getElem_mem hlt)) HT.out)
      have HN := Aside.mk (fun e => take_not hlt hp.out.2 e)
      have HC := Aside.mk (fun e => code_at hlt hp.out.2 e)
      clear hcc q1 q2 hvl e1 e2
      generalize ws[i] = x at *
      generalize strOfNums x = sx at *
      generalize strOfNums t = sy at *
      by_cases hq : x = t
      · have d1 := HDD.out
        rw [decide_eq_true hq] at d1
        obtain ⟨k1, k2⟩ := HC.out hq
        have HK := Aside.mk (And.intro k1 k2)
        clear hq k1 k2
        go_wp2_with fail
        go_quiet (fail)
        go_wp2_with fail
        go_ret2
        refine ⟨by rw [HK.out.1, HK.out.2]; simp, hp.out.1.trans (below_drewN _ _ _)⟩
      · have d1 := HDD.out
        rw [decide_eq_false hq] at d1
        have HN2 := Aside.mk (HN.out hq)
        clear hq
        go_wp2_with fail
        go_quiet (fail)
        go_wp2_with fail
        exact ⟨⟨i + 1, by omega, by simp, ⟨hp.out.1.trans (below_drewN _ _ _), HN2.out⟩⟩, by simp [intOf]; omega⟩
    · obtain rfl : i = ws.length := by omega
      have hno := hp.out.2
      rw [List.take_length] at hno
      have HNO := Aside.mk hno
      clear hno
      go_wp2_with fail
      go_ret2
      refine ⟨by rw [HNO.out]; simp, hp.out.1⟩
end Go.Proofs.YtmhjjhaipcgbiaaGreat


namespace Go.Proofs.YtmhjjhaipcgbiaaGreat
open Go.RowKit
set_option linter.unusedVariables false
set_option linter.unusedSimpArgs false
set_option maxRecDepth 100000
set_option maxHeartbeats 1000000
def Code17P (base wb : Nat) (ws : List (List Int)) (t : List Int) (wv : Value) (vals : List Value) (w : World) (e : Ending) (w' : World) : Prop :=
  e = .returned (.int .i64 (codeOf ws t : Int)) ∧ ∃ wv' vals', W17 w' base wb (addWord ws t) wv' vals' ∧ Kept (fun b => b = wb ∨ wv.ownBlock = some b) w w' ∧ ∀ v ∈ vals', v ∈ vals ∨ ∀ b, v.ownBlock = some b → w.heap.size ≤ b
theorem below_app_new {w1 w5 : World} {o1 : Obj} {E : TypeId} {sz m : Nat} {news : List Value} {v : Value} (hA : AppP (w1.drew.alloc o1) w1.heap.size E sz (.slice (some ⟨w1.heap.size, 0, none⟩) 0 0) 0 [] m news v w5) : Below w1.heap.size w1 w5 := by
  have hs1 : (w1.drew.alloc o1).heap.size = w1.heap.size + 1 := by show (w1.drew.alloc o1).heap.size = w1.drew.heap.size + 1; simp
  exact (((below_drewN w1 _ 1).alloc (Nat.le_refl _) o1)).trans (below_of_grown hA.grown (Nat.le_trans (Nat.le_succ _) (Nat.le_of_eq hs1.symm)) (fun k e => by
    have e : k = w1.heap.size := by simpa [Value.ownBlock] using e.symm
    exact Nat.le_of_eq e.symm))
theorem code17_end {base wb : Nat} {ws : List (List Int)} {t : List Int} {wv : Value} {vals : List Value} {w w1 w5 w8 : World} {v2 : Value} {a2 : Option Addr} {c2 : Nat} {o1 : Obj} (h : W17 w base wb ws wv vals) (hn : ws.contains t = false) (ht : IsBytes t) (hb : base ≤ w.heap.size) (h1 : Below w.heap.size w w1)
    (hA : AppP (w1.drew.alloc o1) w1.heap.size 5 1 (.slice (some ⟨w1.heap.size, 0, none⟩) 0 0) 0 [] t.length (t.map (.int .u8)) (.slice a2 t.length c2) w5)
    (hA2 : AppP (w5.alloc (.cells #[.slice a2 t.length c2] 43)) base 43 1 wv ws.length vals 1 [.slice a2 t.length c2] v2 w8) :
    ∃ vals', W17 (w8.setCell ⟨wb, 0, none⟩ v2) base wb (addWord ws t) v2 vals' ∧ Kept (fun b => b = wb ∨ wv.ownBlock = some b) w (w8.setCell ⟨wb, 0, none⟩ v2) ∧ ∀ v ∈ vals', v ∈ vals ∨ ∀ b, v.ownBlock = some b → w.heap.size ≤ b := by
  have b5 := below_app_new hA
  have K8 : Kept (fun b => wv.ownBlock = some b) w5 w8 := (Kept.of_below (below_new w5 _)).trans ((Kept.of_grown hA2.grown).mono (fun b e _ => e.symm)) (fun _ e _ => e)
  have h5 := (h.below h1).below b5
  have b05 : Below w.heap.size w w5 := below_chain h1 b5
  have g8 := (K8.block wb (lt_of_blk h5.blk) (fun e => h5.row.blk_ne h5.blk (by decide) e)).trans h5.blk
  have hnew : Own w5 w1.heap.size 5 1 (.slice a2 t.length c2) t.length (t.map (.int .u8)) := by simpa using hA.own
  have hu8 : ∀ {v : Value} {n b0 : Nat} {xs : List Value}, Own w5 b0 5 1 v n xs → Own (w8.setCell ⟨wb, 0, none⟩ v2) b0 5 1 v n xs := fun {v n b0 xs} ho => by
    have h8 := ho.keptT K8 (fun b e _ cs hc => by
      obtain ⟨cur, hg⟩ := own_blk h5.row e
      rw [hg] at hc; cases hc)
    exact h8.set_other (h8.blk_ne g8 (by decide)) _
  refine ⟨vals ++ [.slice a2 t.length c2], ⟨by simpa using heap_setCell_at (k := 0) g8 v2, h.bb, ?_, ?_, ?_, ?_, ?_⟩, ((Kept.of_below (S := fun b => b = wb ∨ wv.ownBlock = some b) b05).trans K8 (fun b e _ => .inr e)).trans (Kept.setCell w8 ⟨wb, 0, none⟩ v2) (fun b e _ => .inl e), ?_⟩
  · rw [addWord_new hn, List.length_append]
    exact hA2.own.set_other (hA2.own.blk_ne g8 (by decide)) _
  · rw [addWord_new hn]; simp [h.len]
  · rw [addWord_new hn]
    intro j u hj hu
    rcases Nat.lt_or_ge j ws.length with hl | hl
    · rw [List.getElem?_append_left hl] at hu
      obtain ⟨a, cap, q1, q2⟩ := h5.each j u hl hu
      exact ⟨a, cap, by rw [List.getElem?_append_left (by rw [h.len]; exact hl)]; exact q1, hu8 q2⟩
    · rw [List.getElem?_append_right hl] at hu
      have h0 : j - ws.length = 0 := by have := (List.getElem?_eq_some_iff.1 hu).1; simp at this; omega
      rw [h0] at hu
      simp at hu
      subst hu
      exact ⟨a2, c2, by rw [List.getElem?_append_right (by rw [h.len]; exact hl), h.len, h0]; rfl, (hu8 hnew).mono (Nat.le_trans hb h1.size)⟩
  · rw [addWord_new hn]
    intro j j' v v' hjj hj hv hv' b e e2
    rw [List.length_append] at hj
    rcases Nat.lt_or_ge j' ws.length with hl | hl
    · rw [List.getElem?_append_left (by rw [h.len]; omega)] at hv hv'
      exact h.sep j j' v v' hjj hl hv hv' b e e2
    · have hj2 : j' = ws.length := by simp at hj; omega
      subst hj2
      rw [List.getElem?_append_left (by rw [h.len]; omega)] at hv
      rw [List.getElem?_append_right (by rw [h.len]; exact Nat.le_refl _), h.len, Nat.sub_self] at hv'
      simp at hv'
      subst hv'
      obtain ⟨a, cap, q1, q2⟩ := h.each j _ hjj (List.getElem?_eq_getElem hjj)
      rw [hv] at q1
      cases q1
      have := (q2.lt b e).2
      have := (hnew.lt b e2).1
      have := h1.size
      omega
  · exact addWord_bytes h.bytes ht
  · intro v hv
    rcases List.mem_append.1 hv with h2 | h2
    · exact .inl h2
    · simp at h2
      subst h2
      exact .inr (fun b e => Nat.le_trans h1.size (hnew.lt b e).1)
theorem code17 (base wb : Nat) (ws : List (List Int)) (wv : Value) (vals : List Value) (t : List Int) (ht : IsBytes t) (htl : t.length ≤ 100000000) (hw : ws.length ≤ 100000000) (ta : Option Addr) (tc : Nat) (w : World) (hb : base ≤ w.heap.size) (h : W17 w base wb ws wv vals) (hr : Rd w 1 (.slice ta t.length tc) t.length (t.map (.int .u8))) :
    Calls Tryz.prog 76 #[.pointer (some ⟨wb, 0, none⟩), .slice ta t.length tc] w (Code17P base wb ws t wv vals w) := by
  have HF := Aside.mk (find17 base wb ws wv vals t ht hw ta tc w h hr)
  obtain ⟨wa, wc, rfl⟩ := h.row.form
  cases hcon : ws.contains t with
  | true =>
    have HC := Aside.mk hcon
    unfold FindP at HF
    rw [hcon] at HF
    simp only [if_true] at HF
    have H := Aside.mk h
    clear h hcon hr
    go_enter Tryz.func76, Tryz.ntmps76
    go_wp2_with (go_at_call 147; refine HF.out.mono ?_; rintro e w1 ⟨rfl, hb1⟩; have HB1 := Aside.mk hb1; clear hb1)
    go_ret
    refine ⟨rfl, .slice wa ws.length wc, vals, ?_, Kept.of_below HB1.out, fun v hv => .inl hv⟩
    rw [addWord_old HC.out]
    exact H.out.below HB1.out
  | false =>
    have HC := Aside.mk hcon
    unfold FindP at HF
    rw [hcon] at HF
    simp only [Bool.false_eq_true, if_false] at HF
    have H := Aside.mk h
    have HR := Aside.mk hr
    have HTB := Aside.mk ht
    clear h hcon hr ht
    generalize hn : t.length = n at *
    have HN := Aside.mk hn
    clear hn
    go_enter Tryz.func76, Tryz.ntmps76
    go_wp2_with (go_at_call 147; refine HF.out.mono ?_; rintro e w1 ⟨rfl, hb1⟩; have HB1 := Aside.mk hb1; clear hb1)
    have H1 := Aside.mk (H.out.below HB1.out)
    have c0 := cell_blk (k := 0) H1.out.blk
    have f0 := fun k => frozen_blk (k := k) H1.out.blk
    have hlt := lt_of_blk H1.out.blk
    simp at c0
    have HR1 := Aside.mk (HR.out.below HB1.out)
    have hbl := HB1.out.size
    go_region_law (first
      | (refine step_app2 (P := Tryz.prog) (w1.drew.alloc (.cells #[] 5)) (.tmp 20) (.tmp 21) 43 43 (by rfl) (by rfl) w1.heap.size 5 (.int .u8 0) 1 1 Tryz.underlying43 u8info (by rfl) (.slice (some ⟨w1.heap.size, 0, none⟩) 0 0) 0 [] (by rfl) (own_empty w1.drew w1.heap.size w1.heap.size 5 1 rfl (Nat.le_refl _)) (.slice ta n tc) n (t.map (.int .u8)) (by rfl) (((HR1.out.below (below_drewN _ _ 1)).below (below_new _ _)).src Tryz.underlying43 (one_map (fun x : Int => Value.int .u8 x) (fun _ => rfl) t)) (by unfold maxLen; omega) (by omega) (by show w1.drew.heap.size ≤ _; simp) ?_; intro v5 w5 hA; obtain ⟨a5, c5, rfl⟩ := hA.own.form; simp only [Nat.zero_add] at hA ⊢; have HB5 := Aside.mk (below_app_new hA); have HA := Aside.mk hA; have H5 := Aside.mk (H1.out.below HB5.out); clear c0 f0 hlt hA; have c0 := cell_blk (k := 0) H5.out.blk; have f0 := fun k => frozen_blk (k := k) H5.out.blk; have hlt := lt_of_blk H5.out.blk; simp at c0)
      | (refine step_app2 (P := Tryz.prog) (w5.alloc (.cells #[.slice a5 n c5] 43)) (.tmp 19) (.tmp 23) 37 37 (by rfl) (by rfl) base 43 (.slice none 0 0) 1 24 Tryz.underlying37 bytesinfo (by rfl) (.slice wa ws.length wc) ws.length vals (by rfl) (H5.out.row.alloc _) (.slice (some ⟨w5.heap.size, 0, none⟩) 1 1) 1 [.slice a5 n c5] (by rfl) (src_one Tryz.underlying37 _ _ _ rfl rfl) (by unfold maxLen; omega) (by omega) (by have := HB5.out.size; simp; omega) ?_; intro v8 w8 hA; obtain ⟨a8, c8, rfl⟩ := hA.own.form; have K8 := Aside.mk (show Kept (fun b => (Value.slice wa ws.length wc).ownBlock = some b) w5 w8 from (Kept.of_below (below_new w5 _)).trans ((Kept.of_grown hA.grown).mono (fun b e _ => e.symm)) (fun _ e _ => e)); have g8 := (K8.out.block wb hlt (fun e => H5.out.row.blk_ne H5.out.blk (by decide) e)).trans H5.out.blk; clear c0 f0 hlt; have c0 := cell_blk (k := 0) g8; have f0 := fun k => frozen_blk (k := k) g8; simp at c0; have HA2 := Aside.mk hA; clear hA g8))
    all_goals
      obtain ⟨vals', r1, r2, r3⟩ := code17_end H.out HC.out HTB.out hb HB1.out (by rw [HN.out]; exact HA.out) (by rw [HN.out]; exact HA2.out)
      have HE := Aside.mk (And.intro r1 (And.intro r2 r3))
      have hcd := codeOf_new HC.out
      have HCD := Aside.mk hcd
      have q0 := cell_blk (k := 0) r1.blk
      simp at q0
      clear r1 r2 r3 hcd c0
      go_wp2_with fail
      go_ret
      exact ⟨ret_int (by rw [HCD.out]), _, vals', HE.out.1, HE.out.2.1, HE.out.2.2⟩
end Go.Proofs.YtmhjjhaipcgbiaaGreat


namespace Go.Proofs.YtmhjjhaipcgbiaaGreat
open Go.RowKit
set_option linter.unusedVariables false
set_option linter.unusedSimpArgs false
set_option maxRecDepth 100000
set_option maxHeartbeats 2000000
theorem assert_running3 (v : Value) (w : World) : (Instr.typeAssert (.iface 167 v) 159 162 true).run Tryz.prog w = .ok (.tuple #[.agg #[], .bool false]) w := by kernel_rfl
theorem assert_coded3 (v : Value) (w : World) : (Instr.typeAssert (.iface 167 v) 159 167 true).run Tryz.prog w = .ok (.tuple #[v, .bool true]) w := by kernel_rfl
def AddCP (bl lw : Nat) (s : Int) (T : Nat → Prop) (nulls : List Bool) (data ends : List Int) (ws : List (List Int)) (nv dv ev : Value) (X : Nat) (ws2 : List (List Int)) (nl : Bool) (w : World) (e : Ending) (w' : World) : Prop :=
  e = .returned (.tuple #[]) ∧ ∃ nv' dv', IsB w' bl lw 0 16 s (nulls ++ [nl]) (data ++ lows X 4) ends nv' dv' ev ∧ WL w' (fun b => T b ∨ w.heap.size ≤ b ∧ b ≠ bl ∧ nv'.ownBlock ≠ some b ∧ dv'.ownBlock ≠ some b) lw ws2 ∧ Kept (fun b => T b ∨ b = bl ∨ dv.ownBlock = some b ∨ nv.ownBlock = some b) w w' ∧
    (dv'.ownBlock = dv.ownBlock ∨ ∃ b, dv'.ownBlock = some b ∧ w.heap.size ≤ b) ∧ (nv'.ownBlock = nv.ownBlock ∨ ∃ b, nv'.ownBlock = some b ∧ w.heap.size ≤ b)
theorem IsB.kept {w w' : World} {bl lw base : Nat} {k s : Int} {nulls : List Bool} {data ends : List Int} {nv dv ev : Value} {S : Nat → Prop} (h : IsB w bl lw base k s nulls data ends nv dv ev) (hk : Kept S w w') (h1 : ¬ S bl) (h3 : ∀ b, nv.ownBlock = some b ∨ dv.ownBlock = some b ∨ ev.ownBlock = some b → ¬ S b) (hl : ∃ mv : Value × Value, w'.heap[lw]? = some (.cells #[mv.1, mv.2] 212 (0, 0))) : IsB w' bl lw base k s nulls data ends nv dv ev :=
  ⟨(hk.block _ (lt_of_blk h.blk) h1).trans h.blk, hl, h.bbl, h.blw, h.nulls.kept hk (fun b e => h3 b (.inl e)), h.data.kept hk (fun b e => h3 b (.inr (.inl e))), h.ends.kept hk (fun b e => h3 b (.inr (.inr e)))⟩
theorem WL.lst {w : World} {T : Nat → Prop} {lw : Nat} {ws : List (List Int)} (h : WL w T lw ws) : ∃ mv : Value × Value, w.heap[lw]? = some (.cells #[mv.1, mv.2] 212 (0, 0)) := by
  obtain ⟨wv, mb, vals, D, h⟩ := h
  exact ⟨(_, _), h.blk⟩
theorem addC_done {w w3 w4 w9 : World} {bl lw : Nat} {s : Int} {T T3 : Nat → Prop} {nulls : List Bool} {data ends : List Int} {ws2 : List (List Int)} {nv dv ev dv' nv' : Value} {X : Nat} {nl : Bool} {o : Obj}
    (h : IsB w bl lw 0 16 s nulls data ends nv dv ev) (hTs : ∀ b, T b → b ≠ bl ∧ nv.ownBlock ≠ some b ∧ dv.ownBlock ≠ some b) (k3 : Kept T w w3) (hL : WL w3 T3 lw ws2) (h3 : ∀ b, T3 b → b < w3.heap.size → T b ∨ w.heap.size ≤ b)
    (k4 : Kept (fun b => b = bl ∨ dv.ownBlock = some b) w3 w4) (o4 : dv'.ownBlock = dv.ownBlock ∨ ∃ b, dv'.ownBlock = some b ∧ w3.heap.size ≤ b)
    (h9 : IsB w9 bl lw 0 16 s (nulls ++ [nl]) (data ++ lows X 4) ends nv' dv' ev ∧ Kept (fun b => b = bl ∨ nv.ownBlock = some b) w4 w9) (a9 : nv'.ownBlock = nv.ownBlock ∨ ∃ b, nv'.ownBlock = some b ∧ (w4.alloc o).drew.heap.size ≤ b) :
    ∃ nv' dv', IsB w9 bl lw 0 16 s (nulls ++ [nl]) (data ++ lows X 4) ends nv' dv' ev ∧ WL w9 (fun b => T b ∨ w.heap.size ≤ b ∧ b ≠ bl ∧ nv'.ownBlock ≠ some b ∧ dv'.ownBlock ≠ some b) lw ws2 ∧ Kept (fun b => T b ∨ b = bl ∨ dv.ownBlock = some b ∨ nv.ownBlock = some b) w w9 ∧
    (dv'.ownBlock = dv.ownBlock ∨ ∃ b, dv'.ownBlock = some b ∧ w.heap.size ≤ b) ∧ (nv'.ownBlock = nv.ownBlock ∨ ∃ b, nv'.ownBlock = some b ∧ w.heap.size ≤ b) := by
  have hbl := lt_of_blk h.blk
  have hs3 := k3.size
  have hs4 := k4.size
  have e4 : (w4.alloc o).drew.heap.size = w4.heap.size + 1 := by show (w4.alloc o).heap.size = _; simp
  have hnb : ∀ b, T3 b → b < w3.heap.size → b ≠ bl ∧ nv.ownBlock ≠ some b ∧ dv.ownBlock ≠ some b := fun b ht hb => by
    rcases h3 b ht hb with h1 | h1
    · exact hTs b h1
    · exact ⟨by omega, fun e => by have := (h.nulls.lt _ e).2; omega, fun e => by have := (h.data.lt _ e).2; omega⟩
  have hL2 : WL w3 (fun b => T3 b ∧ b < w3.heap.size) lw ws2 := hL.mono (fun b h1 h2 => ⟨h1, h2⟩)
  have hL4 := hL2.kept k4 (fun b ht _ => (fun e => e.elim (hnb b ht.1 ht.2).1 (hnb b ht.1 ht.2).2.2))
  have hL9 := hL4.kept h9.2 (fun b ht _ => (fun e => e.elim (hnb b ht.1 ht.2).1 (hnb b ht.1 ht.2).2.1))
  refine ⟨nv', dv', h9.1, hL9.mono (fun b ht _ => ?_), ?_, ?_, ?_⟩
  · rcases h3 b ht.1 ht.2 with h1 | h1
    · exact .inl h1
    · refine .inr ⟨h1, (hnb b ht.1 ht.2).1, fun e => ?_, fun e => ?_⟩
      · rcases a9 with e' | ⟨b', e', h'⟩
        · exact (hnb b ht.1 ht.2).2.1 (e' ▸ e)
        · rw [e'] at e; cases e; have := ht.2; omega
      · rcases o4 with e' | ⟨b', e', h'⟩
        · exact (hnb b ht.1 ht.2).2.2 (e' ▸ e)
        · rw [e'] at e; cases e; have := ht.2; omega
  · refine ((k3.mono (T := fun b => T b ∨ b = bl ∨ dv.ownBlock = some b ∨ nv.ownBlock = some b) (fun b e _ => .inl e)).trans k4 ?_).trans h9.2 ?_
    · rintro b (e | e) _
      · exact .inr (.inl e)
      · exact .inr (.inr (.inl e))
    · rintro b (e | e) _
      · exact .inr (.inl e)
      · exact .inr (.inr (.inr e))
  · exact o4.imp id (fun ⟨b, e, h⟩ => ⟨b, e, by omega⟩)
  · exact a9.imp id (fun ⟨b, e, h⟩ => ⟨b, e, by omega⟩)
theorem add_coded_null (bl lw : Nat) (s : Int) (T : Nat → Prop) (nulls : List Bool) (data ends : List Int) (ws : List (List Int)) (nv dv ev : Value) (bits : Int) (ta : Option Addr) (tn tc : Nat) (hl : data.length ≤ 100000000) (hl2 : nulls.length ≤ 100000000) (w : World) (h : IsB w bl lw 0 16 s nulls data ends nv dv ev) (hL : WL w T lw ws) (hTs : ∀ b, T b → b ≠ bl ∧ nv.ownBlock ≠ some b ∧ dv.ownBlock ≠ some b) :
    Calls Tryz.prog 72 #[.pointer (some ⟨bl, 0, none⟩), .agg #[.int .u64 bits, .slice ta tn tc, .bool true]] w (AddCP bl lw s T nulls data ends ws nv dv ev 0 ws true w) := by
  have hbs := lt_of_blk h.blk
  have hc0 := cell_blk (k := 0) h.blk
  have hc1 := cell_blk (k := 1) h.blk
  simp at hc0 hc1
  have H0 := Aside.mk h
  have HL := Aside.mk hL
  have HTS := Aside.mk hTs
  clear h hL hTs
  have ta1 := assert_running3
  have ta2 := assert_coded3
  go_enter Tryz.func72, Tryz.ntmps72
  go_wp2_with (first | (go_at_call 86; refine (of_coded s _).mono ?_; rintro e w1 ⟨rfl, rfl⟩))
  have B3 : Below w.heap.size w (((w.alloc (.cells #[.int .u64 bits, .slice ta tn tc, .bool true] 145)).alloc (.cells #[.int .i64 16, .int .i64 s] 23)).alloc (.cells #[.int .i64 4] 167)) := (((Below.refl _ _).alloc (Nat.le_refl _) _).alloc (by simp) _).alloc (by simp; omega) _
  have hv3 : (((w.alloc (.cells #[.int .u64 bits, .slice ta tn tc, .bool true] 145)).alloc (.cells #[.int .i64 16, .int .i64 s] 23)).alloc (.cells #[.int .i64 4] 167)).heap[w.heap.size]? = some (.cells #[.int .u64 bits, .slice ta tn tc, .bool true] 145 (0, 0)) := by
    rw [Below.heap_alloc _ _ _ (by simp; omega), Below.heap_alloc _ _ _ (by simp)]
    exact heap_alloc_new _ _
  have hb3 : (((w.alloc (.cells #[.int .u64 bits, .slice ta tn tc, .bool true] 145)).alloc (.cells #[.int .i64 16, .int .i64 s] 23)).alloc (.cells #[.int .i64 4] 167)).heap[w.heap.size + 1 + 1]? = some (.cells #[.int .i64 4] 167 (0, 0)) := by
    simpa using heap_alloc_new ((w.alloc (.cells #[.int .u64 bits, .slice ta tn tc, .bool true] 145)).alloc (.cells #[.int .i64 16, .int .i64 s] 23)) (.cells #[.int .i64 4] 167)
  generalize hw3 : (((w.alloc (.cells #[.int .u64 bits, .slice ta tn tc, .bool true] 145)).alloc (.cells #[.int .i64 16, .int .i64 s] 23)).alloc (.cells #[.int .i64 4] 167)) = w3 at *
  clear hw3
  have H3 := Aside.mk (H0.out.below B3)
  have HV3 := Aside.mk hv3
  have HB3 := Aside.mk hb3
  have BB3 := Aside.mk B3
  have K3 := Aside.mk (show Kept T w w3 from Kept.of_below B3)
  have L3 := Aside.mk (HL.out.below B3)
  have N3 := Aside.mk (show ∀ b, T b → b < w3.heap.size → T b ∨ w.heap.size ≤ b from fun b h _ => .inl h)
  clear B3 hv3 hb3 hc0 hc1 ta1 ta2
  refine (word_any bl lw 0 16 s nulls data ends nv dv ev 0 4 (by decide) (by omega) hl w3 H3.out (Nat.zero_le _)).mono ?_
  rintro e w4 ⟨rfl, dv', h4, k4, o4⟩
  have hdlt := H0.out.data.lt
  have hvb := lt_of_blk HV3.out
  have hv4 := (k4.block w.heap.size hvb (by
    rintro (e | e)
    · omega
    · have := (hdlt _ e).2; omega)).trans HV3.out
  have hcv := cell_blk (k := 2) hv4
  have hcn := cell_blk (k := 2) h4.blk
  have hfn := frozen_blk (k := 2) h4.blk
  simp at hcv hcn
  obtain ⟨a1, c1, rfl⟩ := h4.nulls.form
  have hbs4 := lt_of_blk h4.blk
  have H4 := Aside.mk h4
  have K4 := Aside.mk k4
  have O4 := Aside.mk o4
  have HV4 := Aside.mk hv4
  clear h4 k4 o4 hdlt hv4 hvb
  generalize hm : nulls.length = m at *
  have HM := Aside.mk hm
  clear hm
  go_wp2_with (fail)
  have hown := Aside.mk (own_in (o := .cells #[.bool true] 4) H4.out HM.out)
  have hsrc := Aside.mk (src_one_drew (P := Tryz.prog) (w := w4) Tryz.underlying140 w4.heap.size (.bool true) 4 rfl rfl)
  have h63 := Aside.mk (show m + 1 ≤ maxLen by unfold maxLen; omega)
  have hby := Aside.mk (show (m + 1) * 1 ≤ 140737488355328 by omega)
  go_region_law ((refine step_app (P := Tryz.prog) ((w4.alloc (.cells #[.bool true] 4)).drew) (by rfl) (.tmp 74) (.tmp 77) 140 140 (by rfl) 0 4 (.bool false) 1 1 Tryz.underlying140 boolinfo (by rfl) (.slice a1 m c1) m (nulls.map .bool) (by rfl) hown.out (.slice (some ⟨w4.heap.size, 0, none⟩) 1 1) 1 [.bool true] (by rfl) hsrc.out h63.out hby.out (Nat.zero_le _) ?_; intro v' w5 hown' hgrow _ hat; obtain ⟨a5, c5, rfl⟩ := hown'.form; have hc5 := cell_blk (k := 2) (blk_grown H4.out hgrow); have hf5 := frozen_blk (k := 2) (blk_grown H4.out hgrow); simp at hc5; have HH := Aside.mk (isB_grown H4.out HM.out hgrow hown'); have HAT := Aside.mk hat; clear hown' hgrow hat))
  all_goals
    go_wp2
    refine bodyPost_ret (v := .tuple #[]) (by simp [results, Tryz.results72, go_sem]) rfl ?_
    exact ⟨rfl, addC_done H0.out HTS.out K3.out L3.out N3.out K4.out O4.out HH.out HAT.out⟩
theorem add_coded_word (bl lw : Nat) (s : Int) (T : Nat → Prop) (nulls : List Bool) (data ends : List Int) (ws : List (List Int)) (nv dv ev : Value) (bits : Int) (tx : List Int) (ta : Option Addr) (tc : Nat) (hl : data.length ≤ 100000000) (hl2 : nulls.length ≤ 100000000) (hlw : ws.length ≤ 100000000) (htb : IsBytes tx) (htl : tx.length ≤ 100000000) (w : World) (h : IsB w bl lw 0 16 s nulls data ends nv dv ev) (hL : WL w T lw ws) (hTs : ∀ b, T b → b ≠ bl ∧ nv.ownBlock ≠ some b ∧ dv.ownBlock ≠ some b) (hTe : ∀ b, T b → ev.ownBlock ≠ some b) (hrt : Rd w 1 (.slice ta tx.length tc) tx.length (tx.map (.int .u8))) :
    Calls Tryz.prog 72 #[.pointer (some ⟨bl, 0, none⟩), .agg #[.int .u64 bits, .slice ta tx.length tc, .bool false]] w (AddCP bl lw s T nulls data ends ws nv dv ev (codeOf ws tx) (addWord ws tx) false w) := by
  have hbs := lt_of_blk h.blk
  have hc0 := cell_blk (k := 0) h.blk
  have hc1 := cell_blk (k := 1) h.blk
  simp at hc0 hc1
  have hcb : codeOf ws tx ≤ 100000000 := Nat.le_trans (codeOf_le ws tx) hlw
  have H0 := Aside.mk h
  have HL := Aside.mk hL
  have HTS := Aside.mk hTs
  have HTE := Aside.mk hTe
  have HRT := Aside.mk hrt
  have HTB := Aside.mk htb
  clear h hL hTs hTe hrt htb
  generalize htn : tx.length = tn at *
  have HTN := Aside.mk htn
  clear htn
  have ta1 := assert_running3
  have ta2 := assert_coded3
  go_enter Tryz.func72, Tryz.ntmps72
  go_wp2_with (first | (go_at_call 86; refine (of_coded s _).mono ?_; rintro e w1 ⟨rfl, rfl⟩))
  have B3 : Below w.heap.size w (((w.alloc (.cells #[.int .u64 bits, .slice ta tn tc, .bool false] 145)).alloc (.cells #[.int .i64 16, .int .i64 s] 23)).alloc (.cells #[.int .i64 4] 167)) := (((Below.refl _ _).alloc (Nat.le_refl _) _).alloc (by simp) _).alloc (by simp; omega) _
  have hv3 : (((w.alloc (.cells #[.int .u64 bits, .slice ta tn tc, .bool false] 145)).alloc (.cells #[.int .i64 16, .int .i64 s] 23)).alloc (.cells #[.int .i64 4] 167)).heap[w.heap.size]? = some (.cells #[.int .u64 bits, .slice ta tn tc, .bool false] 145 (0, 0)) := by
    rw [Below.heap_alloc _ _ _ (by simp; omega), Below.heap_alloc _ _ _ (by simp)]
    exact heap_alloc_new _ _
  have hb3 : (((w.alloc (.cells #[.int .u64 bits, .slice ta tn tc, .bool false] 145)).alloc (.cells #[.int .i64 16, .int .i64 s] 23)).alloc (.cells #[.int .i64 4] 167)).heap[w.heap.size + 1 + 1]? = some (.cells #[.int .i64 4] 167 (0, 0)) := by
    simpa using heap_alloc_new ((w.alloc (.cells #[.int .u64 bits, .slice ta tn tc, .bool false] 145)).alloc (.cells #[.int .i64 16, .int .i64 s] 23)) (.cells #[.int .i64 4] 167)
  generalize hw3 : (((w.alloc (.cells #[.int .u64 bits, .slice ta tn tc, .bool false] 145)).alloc (.cells #[.int .i64 16, .int .i64 s] 23)).alloc (.cells #[.int .i64 4] 167)) = w3 at *
  clear hw3
  have H3 := Aside.mk (H0.out.below B3)
  have HV3 := Aside.mk hv3
  have HB3 := Aside.mk hb3
  have BB3 := Aside.mk B3
  have HL3 := Aside.mk (show WL w3.drew (fun b => T b ∧ b < w.heap.size) lw ws from ((HL.out.mono (T' := fun b => T b ∧ b < w.heap.size) (fun b h1 h2 => ⟨h1, h2⟩)).below B3).below (below_drewN _ _ 1))
  have hcode := Aside.mk (show Calls Tryz.prog 134 #[.pointer (some ⟨lw, 0, none⟩), .slice ta tn tc] w3.drew (CodeP (fun b => T b ∧ b < w.heap.size) lw ws tx w3.drew) by
    have := code_any (fun b => T b ∧ b < w.heap.size) lw ws tx ta tc HTB.out (by rw [HTN.out]; exact htl) hlw w3.drew HL3.out (by rw [HTN.out]; exact (HRT.out.below B3).below (below_drewN _ _ 1))
    rw [HTN.out] at this
    exact this)
  have hc5 := cell_blk (k := 5) H3.out.blk
  have hct := cell_blk (k := 1) HV3.out
  simp at hc5 hct
  have HCE := Aside.mk (show codeOf ws tx = codeOf ws tx from rfl)
  clear B3 hv3 hb3 hc0 hc1 ta1 ta2
  go_region_law ((refine step_call (P := Tryz.prog) w3.drew (by rfl) 134 [.tmp 51, .tmp 53] _ (by rfl) [.pointer (some ⟨lw, 0, none⟩), .slice ta tn tc] (by rfl) (fun _ _ => rfl) hcode.out ?_; rintro e wc ⟨rfl, hlc, hkc⟩; have HLC := Aside.mk hlc; have HKC := Aside.mk (show Kept (fun b => T b ∧ b < w.heap.size) w3 wc from ⟨hkc.os, hkc.tape, hkc.output, hkc.size, hkc.block⟩); clear hlc hkc; have hbc := (HKC.out.block (w.heap.size + 1 + 1) (lt_of_blk HB3.out) (fun h => by have := h.2; omega)).trans HB3.out; have hcw := cell_blk (k := 0) hbc; simp at hcw; clear hbc; refine ⟨_, rfl, ?_⟩))
  all_goals
    have H3C := Aside.mk (show IsB wc bl lw 0 16 s nulls data ends nv dv ev from H3.out.kept HKC.out (fun h => (HTS.out _ h.1).1 rfl) (fun b hb h => by
      rcases hb with e | e | e
      · exact (HTS.out _ h.1).2.1 e
      · exact (HTS.out _ h.1).2.2 e
      · exact HTE.out _ h.1 e) HLC.out.lst)
    have HV3C := Aside.mk ((HKC.out.block w.heap.size (lt_of_blk HV3.out) (fun h => by have := h.2; omega)).trans HV3.out)
    have K3 := Aside.mk (show Kept T w wc from (Kept.of_below BB3.out).trans HKC.out (fun b h _ => h.1))
    have hsz3 := BB3.out.size
    have N3 := Aside.mk (show ∀ b, ((T b ∧ b < w.heap.size) ∨ w3.drew.heap.size ≤ b) → b < wc.heap.size → T b ∨ w.heap.size ≤ b from fun b h _ => h.elim (fun h => .inl h.1) (fun h => .inr (Nat.le_trans hsz3 h)))
    have L3 := HLC
    clear hc5 hct
    go_wp2_with fail
    refine (word_any bl lw 0 16 s nulls data ends nv dv ev (codeOf ws tx) 4 (by decide) (by omega) hl wc H3C.out (Nat.zero_le _)).mono ?_
    rintro e w4 ⟨rfl, dv', h4, k4, o4⟩
    have hdlt := H0.out.data.lt
    have hvb := lt_of_blk HV3C.out
    have hv4 := (k4.block w.heap.size hvb (by
      rintro (e | e)
      · omega
      · have := (hdlt _ e).2; omega)).trans HV3C.out
    have hcv := cell_blk (k := 2) hv4
    have hcn := cell_blk (k := 2) h4.blk
    have hfn := frozen_blk (k := 2) h4.blk
    simp at hcv hcn
    obtain ⟨a1, c1, rfl⟩ := h4.nulls.form
    have hbs4 := lt_of_blk h4.blk
    have H4 := Aside.mk h4
    have K4 := Aside.mk k4
    have O4 := Aside.mk o4
    have HV4 := Aside.mk hv4
    clear h4 k4 o4 hdlt hv4 hvb
    generalize hm : nulls.length = m at *
    have HM := Aside.mk hm
    clear hm
    go_wp2_with (fail)
    have hown := Aside.mk (own_in (o := .cells #[.bool false] 4) H4.out HM.out)
    have hsrc := Aside.mk (src_one_drew (P := Tryz.prog) (w := w4) Tryz.underlying140 w4.heap.size (.bool false) 4 rfl rfl)
    have h63 := Aside.mk (show m + 1 ≤ maxLen by unfold maxLen; omega)
    have hby := Aside.mk (show (m + 1) * 1 ≤ 140737488355328 by omega)
    go_region_law ((refine step_app (P := Tryz.prog) ((w4.alloc (.cells #[.bool false] 4)).drew) (by rfl) (.tmp 74) (.tmp 77) 140 140 (by rfl) 0 4 (.bool false) 1 1 Tryz.underlying140 boolinfo (by rfl) (.slice a1 m c1) m (nulls.map .bool) (by rfl) hown.out (.slice (some ⟨w4.heap.size, 0, none⟩) 1 1) 1 [.bool false] (by rfl) hsrc.out h63.out hby.out (Nat.zero_le _) ?_; intro v' w5 hown' hgrow _ hat; obtain ⟨a5, c5, rfl⟩ := hown'.form; have hc5 := cell_blk (k := 2) (blk_grown H4.out hgrow); have hf5 := frozen_blk (k := 2) (blk_grown H4.out hgrow); simp at hc5; have HH := Aside.mk (isB_grown H4.out HM.out hgrow hown'); have HAT := Aside.mk hat; clear hown' hgrow hat))
    all_goals
      go_wp2
      refine bodyPost_ret (v := .tuple #[]) (by simp [results, Tryz.results72, go_sem]) rfl ?_
      exact ⟨rfl, addC_done H0.out HTS.out K3.out L3.out N3.out K4.out O4.out HH.out HAT.out⟩
end Go.Proofs.YtmhjjhaipcgbiaaGreat


namespace Go.Proofs.YtmhjjhaipcgbiaaGreat
open Go.RowKit
set_option linter.unusedVariables false
set_option linter.unusedSimpArgs false
set_option maxRecDepth 100000
set_option maxHeartbeats 8000000
theorem IsB.app_data0 {wr w5 : World} {bl lw base : Nat} {k s : Int} {nulls : List Bool} {data data' ends : List Int} {nv dv dv' ev : Value} (h : IsB wr bl lw base k s nulls data ends nv dv ev) (hg : wr.grownBy w5 dv.ownBlock) (hown : Own w5 base 5 1 dv' data'.length (data'.map (.int .u8))) :
    IsB (w5.setCell ⟨bl, 3, none⟩ dv') bl lw base k s nulls data' ends nv dv' ev ∧ Kept (fun b => b = bl ∨ dv.ownBlock = some b) wr (w5.setCell ⟨bl, 3, none⟩ dv') := by
  have K1 : Kept (fun b => some b = dv.ownBlock) wr w5 := Kept.of_grown hg
  have hbl := lt_of_blk h.blk
  have nb : dv.ownBlock ≠ some bl := h.data.blk_ne h.blk (by decide)
  have hb5 := (K1.block bl hbl (fun e => nb e.symm)).trans h.blk
  obtain ⟨mv, hl⟩ := h.lst
  have nl : dv.ownBlock ≠ some lw := h.data.blk_ne hl (by decide)
  have hl5 := (K1.block lw (lt_of_blk hl) (fun e => nl e.symm)).trans hl
  have hne : bl ≠ lw := blk_ne h.blk hl (by decide)
  have hn5 : Own w5 base 4 1 nv nulls.length (nulls.map .bool) := h.nulls.kept K1 (fun k hk e => own_ne_own h.nulls h.data (by decide) k hk e.symm)
  have he5 : Own w5 base 3 1 ev ends.length (ends.map (.int .i64)) := h.ends.kept K1 (fun k hk e => own_ne_own h.ends h.data (by decide) k hk e.symm)
  refine ⟨⟨?_, ⟨mv, ?_⟩, h.bbl, h.blw, ?_, ?_, ?_⟩, ?_⟩
  · have := heap_setCell_at (k := 3) hb5 dv'
    simpa using this
  · rw [Below.heap_setCell _ _ _ _ (fun e => hne e.symm)]; exact hl5
  · exact hn5.set_other (hn5.blk_ne hb5 (by decide)) _
  · exact hown.set_other (hown.blk_ne hb5 (by decide)) _
  · exact he5.set_other (he5.blk_ne hb5 (by decide)) _
  · exact (K1.mono (fun k e _ => .inr e.symm)).trans (Kept.setCell _ _ _) (fun k e _ => .inl e)
theorem IsB.app_ends {wr w5 : World} {bl lw base : Nat} {k s : Int} {nulls : List Bool} {data ends ends' : List Int} {nv dv ev ev' : Value} (h : IsB wr bl lw base k s nulls data ends nv dv ev) (hg : wr.grownBy w5 ev.ownBlock) (hown : Own w5 base 3 1 ev' ends'.length (ends'.map (.int .i64))) :
    IsB (w5.setCell ⟨bl, 4, none⟩ ev') bl lw base k s nulls data ends' nv dv ev' ∧ Kept (fun b => b = bl ∨ ev.ownBlock = some b) wr (w5.setCell ⟨bl, 4, none⟩ ev') := by
  have K1 : Kept (fun b => some b = ev.ownBlock) wr w5 := Kept.of_grown hg
  have hbl := lt_of_blk h.blk
  have nb : ev.ownBlock ≠ some bl := h.ends.blk_ne h.blk (by decide)
  have hb5 := (K1.block bl hbl (fun e => nb e.symm)).trans h.blk
  obtain ⟨mv, hl⟩ := h.lst
  have nl : ev.ownBlock ≠ some lw := h.ends.blk_ne hl (by decide)
  have hl5 := (K1.block lw (lt_of_blk hl) (fun e => nl e.symm)).trans hl
  have hne : bl ≠ lw := blk_ne h.blk hl (by decide)
  have hn5 : Own w5 base 4 1 nv nulls.length (nulls.map .bool) := h.nulls.kept K1 (fun k hk e => own_ne_own h.nulls h.ends (by decide) k hk e.symm)
  have hd5 : Own w5 base 5 1 dv data.length (data.map (.int .u8)) := h.data.kept K1 (fun k hk e => own_ne_own h.data h.ends (by decide) k hk e.symm)
  refine ⟨⟨?_, ⟨mv, ?_⟩, h.bbl, h.blw, ?_, ?_, ?_⟩, ?_⟩
  · have := heap_setCell_at (k := 4) hb5 ev'
    simpa using this
  · rw [Below.heap_setCell _ _ _ _ (fun e => hne e.symm)]; exact hl5
  · exact hn5.set_other (hn5.blk_ne hb5 (by decide)) _
  · exact hd5.set_other (hd5.blk_ne hb5 (by decide)) _
  · exact hown.set_other (hown.blk_ne hb5 (by decide)) _
  · exact (K1.mono (fun k e _ => .inr e.symm)).trans (Kept.setCell _ _ _) (fun k e _ => .inl e)
theorem intinfo2 : (Tryz.prog.info? 3).map (fun i => (i.zero, i.size, i.bytes)) = some (some (.int .i64 0), 1, 8) := by kernel_rfl
theorem assert_running2 (v : Value) (w : World) : (Instr.typeAssert (.iface 162 v) 159 162 true).run Tryz.prog w = .ok (.tuple #[v, .bool true]) w := by kernel_rfl
def AddTP (bl lw base : Nat) (s : Int) (nulls : List Bool) (data : List Int) (ends : List Int) (nv dv ev : Value) (tx : List Int) (nl : Bool) (w : World) (e : Ending) (w' : World) : Prop :=
  e = .returned (.tuple #[]) ∧ ∃ nv' dv' ev', IsB w' bl lw base 15 s (nulls ++ [nl]) (data ++ tx) (ends ++ [((data ++ tx).length : Int)]) nv' dv' ev' ∧ Kept (fun b => b = bl ∨ dv.ownBlock = some b ∨ nv.ownBlock = some b ∨ ev.ownBlock = some b) w w' ∧
    (dv'.ownBlock = dv.ownBlock ∨ ∃ b, dv'.ownBlock = some b ∧ w.heap.size ≤ b) ∧ (nv'.ownBlock = nv.ownBlock ∨ ∃ b, nv'.ownBlock = some b ∧ w.heap.size ≤ b) ∧ (ev'.ownBlock = ev.ownBlock ∨ ∃ b, ev'.ownBlock = some b ∧ w.heap.size ≤ b)
theorem addT_done {w w3 w5 w6 w8 w9 : World} {bl lw base : Nat} {s : Int} {nulls : List Bool} {data ends tx : List Int} {nl : Bool} {nv dv ev dv5 ev7 nv9 : Value} {o6 o8 : Obj}
    (hs3 : w.heap.size ≤ w3.heap.size) (b3 : Below w.heap.size w w3) (hg5 : w3.drew.grownBy w5 dv.ownBlock) (a5 : dv5.ownBlock = dv.ownBlock ∨ ∃ b, dv5.ownBlock = some b ∧ w3.drew.heap.size ≤ b)
    (h5 : IsB w6 bl lw base 15 s nulls (data ++ tx) ends nv dv5 ev ∧ Kept (fun b => b = bl ∨ dv.ownBlock = some b) w3.drew w6) (hs6 : w3.heap.size ≤ w6.heap.size)
    (a7 : ev7.ownBlock = ev.ownBlock ∨ ∃ b, ev7.ownBlock = some b ∧ (w6.alloc o6).drew.heap.size ≤ b)
    (h7 : IsB w8 bl lw base 15 s nulls (data ++ tx) (ends ++ [((data ++ tx).length : Int)]) nv dv5 ev7 ∧ Kept (fun b => b = bl ∨ ev.ownBlock = some b) ((w6.alloc o6).drewN 1) w8)
    (k8 : Kept (fun b => b = bl ∨ dv.ownBlock = some b ∨ ev.ownBlock = some b) w3 w8)
    (h9 : IsB w9 bl lw base 15 s (nulls ++ [nl]) (data ++ tx) (ends ++ [((data ++ tx).length : Int)]) nv9 dv5 ev7 ∧ Kept (fun b => b = bl ∨ nv.ownBlock = some b) w8 w9)
    (a9 : nv9.ownBlock = nv.ownBlock ∨ ∃ b, nv9.ownBlock = some b ∧ (w8.alloc o8).drew.heap.size ≤ b) :
    ∃ nv' dv' ev', IsB w9 bl lw base 15 s (nulls ++ [nl]) (data ++ tx) (ends ++ [((data ++ tx).length : Int)]) nv' dv' ev' ∧ Kept (fun b => b = bl ∨ dv.ownBlock = some b ∨ nv.ownBlock = some b ∨ ev.ownBlock = some b) w w9 ∧
    (dv'.ownBlock = dv.ownBlock ∨ ∃ b, dv'.ownBlock = some b ∧ w.heap.size ≤ b) ∧ (nv'.ownBlock = nv.ownBlock ∨ ∃ b, nv'.ownBlock = some b ∧ w.heap.size ≤ b) ∧ (ev'.ownBlock = ev.ownBlock ∨ ∃ b, ev'.ownBlock = some b ∧ w.heap.size ≤ b) := by
  have hs8 := k8.size
  have e3 : w3.drew.heap.size = w3.heap.size := rfl
  have e6 : (w6.alloc o6).drew.heap.size = w6.heap.size + 1 := by show (w6.alloc o6).heap.size = _; simp
  have e8 : (w8.alloc o8).drew.heap.size = w8.heap.size + 1 := by show (w8.alloc o8).heap.size = _; simp
  refine ⟨nv9, dv5, ev7, h9.1, ?_, ?_, ?_, ?_⟩
  · refine ((Kept.of_below b3).trans k8 ?_).trans h9.2 ?_
    · rintro b (e | e | e) _
      · exact .inl e
      · exact .inr (.inl e)
      · exact .inr (.inr (.inr e))
    · rintro b (e | e) _
      · exact .inl e
      · exact .inr (.inr (.inl e))
  · exact a5.imp id (fun ⟨b, e, h⟩ => ⟨b, e, by omega⟩)
  · exact a9.imp id (fun ⟨b, e, h⟩ => ⟨b, e, by omega⟩)
  · exact a7.imp id (fun ⟨b, e, h⟩ => ⟨b, e, by omega⟩)
theorem add_running (bl lw base : Nat) (s : Int) (nulls : List Bool) (data : List Int) (ends : List Int) (nv dv ev : Value) (bits : Int) (ta : Option Addr) (tn tc : Nat) (tx : List Int) (nl : Bool) (hl : data.length + tx.length ≤ 100000000) (hl2 : nulls.length ≤ 100000000) (hl3 : ends.length ≤ 100000000) (w : World) (h : IsB w bl lw base 15 s nulls data ends nv dv ev) (hb : base ≤ w.heap.size) (ht : Rd w 1 (.slice ta tn tc) tn (tx.map (.int .u8))) (htn : tx.length = tn) :
    Calls Tryz.prog 72 #[.pointer (some ⟨bl, 0, none⟩), .agg #[.int .u64 bits, .slice ta tn tc, .bool nl]] w (AddTP bl lw base s nulls data ends nv dv ev tx nl w) := by
  have hbs := lt_of_blk h.blk
  have hc0 := cell_blk (k := 0) h.blk
  have hc1 := cell_blk (k := 1) h.blk
  have hc3 := cell_blk (k := 3) h.blk
  have hf3 := frozen_blk (k := 3) h.blk
  simp at hc0 hc1 hc3
  have H0 := Aside.mk h
  have HT := Aside.mk (And.intro ht htn)
  clear h ht
  have ta1 := assert_running2
  go_enter Tryz.func72, Tryz.ntmps72
  go_wp2_with (first | (go_at_call 86; refine (of_running s _).mono ?_; rintro e w1 ⟨rfl, rfl⟩))
  have B3 : Below w.heap.size w (((w.alloc (.cells #[.int .u64 bits, .slice ta tn tc, .bool nl] 145)).alloc (.cells #[.int .i64 15, .int .i64 s] 23)).alloc (.cells #[] 162)) := (((Below.refl _ _).alloc (Nat.le_refl _) _).alloc (by simp) _).alloc (by simp; omega) _
  have hv3 : ((((w.alloc (.cells #[.int .u64 bits, .slice ta tn tc, .bool nl] 145)).alloc (.cells #[.int .i64 15, .int .i64 s] 23)).alloc (.cells #[] 162))).heap[w.heap.size]? = some (.cells #[.int .u64 bits, .slice ta tn tc, .bool nl] 145 (0, 0)) := by
    rw [Below.heap_alloc _ _ _ (by simp; omega), Below.heap_alloc _ _ _ (by simp)]
    exact heap_alloc_new _ _
  generalize hw3 : (((w.alloc (.cells #[.int .u64 bits, .slice ta tn tc, .bool nl] 145)).alloc (.cells #[.int .i64 15, .int .i64 s] 23)).alloc (.cells #[] 162)) = w3 at *
  clear hw3 hc0 hc1 hc3 hf3 ta1
  have hs3 := B3.size
  have H3 := Aside.mk (H0.out.below B3)
  have hc3 := cell_blk (k := 3) H3.out.blk
  have hf3 := frozen_blk (k := 3) H3.out.blk
  have hcv := cell_blk (k := 1) hv3
  simp at hc3 hcv
  obtain ⟨a1, c1, rfl⟩ := H3.out.data.form
  have hown := Aside.mk (show Own w3.drew base 5 1 (.slice a1 data.length c1) data.length (data.map (.int .u8)) from H3.out.data)
  have hsrc := Aside.mk ((show Rd w3.drew 1 (.slice ta tn tc) tn (tx.map (.int .u8)) from HT.out.1.below (B3.trans (below_drewN w3 _ 1))).src (tx := 43) (P := Tryz.prog) Tryz.underlying43 (fun u hu => by obtain ⟨x, _, rfl⟩ := List.mem_map.1 hu; rfl))
  have hbase := Aside.mk (show base ≤ w3.drew.heap.size from Nat.le_trans hb hs3)
  have h63 := Aside.mk (show data.length + tn ≤ maxLen by unfold maxLen; omega)
  have hby := Aside.mk (show (data.length + tn) * 1 ≤ 140737488355328 by omega)
  have HB3 := Aside.mk B3
  have HV3 := Aside.mk hv3
  clear B3 hv3
  go_region_law ((refine step_app (P := Tryz.prog) w3.drew (by rfl) (.tmp 22) (.tmp 24) 43 43 (by rfl) base 5 (.int .u8 0) 1 1 Tryz.underlying43 u8info (by rfl) (.slice a1 data.length c1) data.length (data.map (.int .u8)) (by rfl) hown.out (.slice ta tn tc) tn (tx.map (.int .u8)) (by rfl) hsrc.out h63.out hby.out hbase.out ?_; intro v' w5 hown' hgrow _ hat; obtain ⟨a5, c5, rfl⟩ := hown'.form; have hb5 := (hgrow.block bl (lt_of_blk H3.out.blk) (fun e => H3.out.data.blk_ne H3.out.blk (by decide) e.symm)).trans H3.out.blk; have hc5 := cell_blk (k := 3) hb5; have hf5 := frozen_blk (k := 3) hb5; simp at hc5; have HG := Aside.mk (And.intro hown' (And.intro hgrow hat)); clear hown' hgrow hat hb5))
  all_goals
    have hown5 : Own w5 base 5 1 (.slice a5 (data.length + tn) c5) (data ++ tx).length ((data ++ tx).map (.int .u8)) := by
      have := HG.out.1
      rw [List.length_append, List.map_append, HT.out.2]
      exact this
    have h5 := (show IsB w3.drew bl lw base 15 s nulls data ends nv (.slice a1 data.length c1) ev from H3.out.drewN 1).app_data0 HG.out.2.1 hown5
    have H5 := Aside.mk h5
    clear h5 hown5
    generalize hw6 : w5.setCell ⟨bl, 3, none⟩ (.slice a5 (data.length + tn) c5) = w6 at *
    clear hc5 hf5 hc3 hf3
    obtain ⟨ea, ec, rfl⟩ := H5.out.1.ends.form
    have hc3 := cell_blk (k := 3) H5.out.1.blk
    have hc4 := cell_blk (k := 4) H5.out.1.blk
    have hf4 := frozen_blk (k := 4) H5.out.1.blk
    simp at hc3 hc4
    have hown6 := Aside.mk (show Own (w6.alloc (.cells #[.int .i64 ((data.length : Int) + tn)] 3)).drew base 3 1 (.slice ea ends.length ec) ends.length (ends.map (.int .i64)) from (H5.out.1.ends.alloc (.cells #[.int .i64 ((data.length : Int) + tn)] 3)))
    have hsrc6 := Aside.mk (src_one_drew (P := Tryz.prog) (w := w6) Tryz.underlying61 w6.heap.size (.int .i64 ((data.length : Int) + tn)) 3 rfl rfl)
    have hbs6 : bl < w6.heap.size := lt_of_blk H5.out.1.blk
    have hs6 : w3.heap.size ≤ w6.heap.size := H5.out.2.size
    have hbase6 := Aside.mk (show base ≤ ((w6.alloc (.cells #[.int .i64 ((data.length : Int) + tn)] 3)).drew).heap.size by show base ≤ (w6.alloc _).heap.size; simp; omega)
    have h636 := Aside.mk (show ends.length + 1 ≤ maxLen by unfold maxLen; omega)
    have hby6 := Aside.mk (show (ends.length + 1) * 8 ≤ 140737488355328 by omega)
    go_wp2
    go_region_law ((refine step_app (P := Tryz.prog) ((w6.alloc (.cells #[.int .i64 ((data.length : Int) + tn)] 3)).drew) (by rfl) (.tmp 32) (.tmp 38) 61 61 (by rfl) base 3 (.int .i64 0) 1 8 Tryz.underlying61 intinfo2 (by rfl) (.slice ea ends.length ec) ends.length (ends.map (.int .i64)) (by rfl) hown6.out (.slice (some ⟨w6.heap.size, 0, none⟩) 1 1) 1 [.int .i64 ((data.length : Int) + tn)] (by rfl) hsrc6.out h636.out hby6.out hbase6.out ?_; intro v' w7 hown' hgrow _ hat; obtain ⟨a7, c7, rfl⟩ := hown'.form; have hb7 := (hgrow.block bl (Nat.lt_of_lt_of_le (lt_of_blk H5.out.1.blk) (by show _ ≤ (w6.alloc _).heap.size; simp)) (fun e => H5.out.1.ends.blk_ne H5.out.1.blk (by decide) e.symm)).trans ((Below.heap_alloc w6 (.cells #[.int .i64 ((data.length : Int) + tn)] 3) _ (lt_of_blk H5.out.1.blk)).trans H5.out.1.blk); have hc7 := cell_blk (k := 4) hb7; have hf7 := frozen_blk (k := 4) hb7; simp at hc7; have HG7 := Aside.mk (And.intro hown' (And.intro hgrow hat)); clear hown' hgrow hat hb7))
    all_goals
      have hown7 : Own w7 base 3 1 (.slice a7 (ends.length + 1) c7) (ends ++ [((data ++ tx).length : Int)]).length ((ends ++ [((data ++ tx).length : Int)]).map (.int .i64)) := by
        have := HG7.out.1
        have e : ((data ++ tx).length : Int) = (data.length : Int) + (tn : Int) := by rw [List.length_append, HT.out.2]; omega
        rw [List.length_append, List.map_append, e]
        exact this
      have h7 := ((H5.out.1.below (below_new w6 (.cells #[.int .i64 ((data.length : Int) + tn)] 3))).drewN 1).app_ends HG7.out.2.1 hown7
      have H7 := Aside.mk h7
      clear h7 hown7 hc7 hf7 hc3 hc4 hf4
      generalize hw8 : w7.setCell ⟨bl, 4, none⟩ (.slice a7 (ends.length + 1) c7) = w8 at *
      clear hw8
      have K8 : Kept (fun b => b = bl ∨ Value.ownBlock (.slice a1 data.length c1) = some b ∨ Value.ownBlock (.slice ea ends.length ec) = some b) w3 w8 :=
        ((Kept.of_below (below_drewN w3 _ 1)).trans H5.out.2 (fun b e _ => e.elim .inl (fun e => .inr (.inl e)))).trans ((Kept.of_below ((below_new w6 (.cells #[.int .i64 ((data.length : Int) + tn)] 3)).trans (below_drewN _ _ 1))).trans H7.out.2 (fun _ e _ => e)) (fun b e _ => e.elim .inl (fun e => .inr (.inr e)))
      have hv8 := (K8.block w.heap.size (lt_of_blk HV3.out) (by
        rintro (e | e | e)
        · have := lt_of_blk H0.out.blk; omega
        · have := (H0.out.data.lt _ e).2; omega
        · have := (H0.out.ends.lt _ e).2; omega)).trans HV3.out
      have HK8 := Aside.mk K8
      have hcv := cell_blk (k := 2) hv8
      simp at hcv
      obtain ⟨na, nc, rfl⟩ := H7.out.1.nulls.form
      have hcn := cell_blk (k := 2) H7.out.1.blk
      have hfn := frozen_blk (k := 2) H7.out.1.blk
      simp at hcn
      have hbs8 := lt_of_blk H7.out.1.blk
      clear hv8 K8
      generalize hm : nulls.length = m at *
      have HM := Aside.mk hm
      clear hm
      go_wp2_with (fail)
      have hown8 := Aside.mk (own_in (o := .cells #[.bool nl] 4) H7.out.1 HM.out)
      have hsrc8 := Aside.mk (src_one_drew (P := Tryz.prog) (w := w8) Tryz.underlying140 w8.heap.size (.bool nl) 4 rfl rfl)
      have hbase8 := Aside.mk (show base ≤ ((w8.alloc (.cells #[.bool nl] 4)).drew).heap.size by have := HK8.out.size; show base ≤ (w8.alloc _).heap.size; simp; omega)
      have h638 := Aside.mk (show m + 1 ≤ maxLen by unfold maxLen; omega)
      have hby8 := Aside.mk (show (m + 1) * 1 ≤ 140737488355328 by omega)
      go_region_law ((refine step_app (P := Tryz.prog) ((w8.alloc (.cells #[.bool nl] 4)).drew) (by rfl) (.tmp 74) (.tmp 77) 140 140 (by rfl) base 4 (.bool false) 1 1 Tryz.underlying140 boolinfo (by rfl) (.slice na m nc) m (nulls.map .bool) (by rfl) hown8.out (.slice (some ⟨w8.heap.size, 0, none⟩) 1 1) 1 [.bool nl] (by rfl) hsrc8.out h638.out hby8.out hbase8.out ?_; intro v' w9 hown' hgrow _ hat; obtain ⟨a9, c9, rfl⟩ := hown'.form; have hc9 := cell_blk (k := 2) (blk_grown H7.out.1 hgrow); have hf9 := frozen_blk (k := 2) (blk_grown H7.out.1 hgrow); simp at hc9; have HH := Aside.mk (isB_grown H7.out.1 HM.out hgrow hown'); have HAT := Aside.mk hat; clear hown' hgrow hat))
      all_goals
        go_wp2
        refine bodyPost_ret (v := .tuple #[]) (by simp [results, Tryz.results72, go_sem]) rfl ?_
        exact ⟨rfl, addT_done hs3 HB3.out HG.out.2.1 HG.out.2.2 H5.out hs6 HG7.out.2.2 H7.out HK8.out HH.out HAT.out⟩
end Go.Proofs.YtmhjjhaipcgbiaaGreat


namespace Go.Proofs.YtmhjjhaipcgbiaaGreat
open Go.RowKit
set_option linter.unusedVariables false
set_option linter.unusedSimpArgs false
set_option maxRecDepth 100000
set_option maxHeartbeats 2000000
theorem conv_rd (v : Value) (n : Nat) (xs : List Int) (hn : xs.length = n) (h0 : 0 < n) (w : World) (h : Rd w 1 v n (xs.map (.int .u8))) : (convert 43 9 v).run Tryz.prog w = .ok (.string (strOfNums xs)) w := by
  obtain ⟨g, o, d, rfl, _, _, hc⟩ := h.some_ (by rw [List.length_map]; omega)
  exact run_convert_bytes_arg w 43 5 Tryz.underlying43 Tryz.underlying5 g o n d xs hn (fun i hi => hc i _ (by
    have : i < xs.length := by omega
    simp [List.getElem?_eq_getElem this, List.getD])) 9 Tryz.underlying9
theorem same_eq (a b : Option Addr) (n ca cb : Nat) (xs : List Int) (hn : xs.length = n) (h0 : 0 < n) (w : World) (ha : Rd w 1 (.slice a n ca) n (xs.map (.int .u8))) (hb : Rd w 1 (.slice b n cb) n (xs.map (.int .u8))) : Calls Tryz.prog 47 #[.slice a n ca, .slice b n cb] w fun e w' => e = .returned (.bool true) ∧ w = w' := by
  have h1 := conv_rd _ n xs hn h0 w ha
  have h2 := conv_rd _ n xs hn h0 w hb
  clear ha hb
  go_enter Tryz.func47, Tryz.ntmps47
  go_wp2
  go_ret
  exact ⟨rfl, rfl⟩
theorem rd_blk {w : World} {g n : Nat} {cs : Array Value} {T : TypeId} {fr : Nat × Nat} (h : w.heap[g]? = some (.cells cs T fr)) (hn : cs.size = n) (hm : n ≤ maxLen) : Rd w 1 (.slice (some ⟨g, 0, none⟩) n n) n cs.toList :=
  ⟨by simp [hn], some ⟨g, 0, none⟩, n, rfl, Nat.le_refl _, hm, (fun e => by cases e), fun j u hu => ⟨g, 0, rfl, by rw [cell_blk h, Nat.zero_add, ← Array.getElem?_toList]; exact hu⟩⟩
theorem num_err (x : Int) (w : World) : Calls Tryz.prog 12 #[.int .i64 x] w fun e w' => e = .returned (.int .i64 x) ∧ w = w' := num_any x w
theorem wakes_any (w : World) : Calls Tryz.prog 14 #[] w fun e w' => e = .returned (.bool true) ∧ Below w.heap.size w w' := by
  go_enter Tryz.func14, Tryz.ntmps14
  go_wp2_with (first | (go_at_call 11; refine (new_yes 6 0 _ (by decide)).mono ?_; rintro e w1 ⟨bl, lw, rfl, h1, b1, _, mvv, hl1⟩; have H1 := Aside.mk h1; have B1 := Aside.mk b1; have HL1 := Aside.mk hl1; clear h1 b1 hl1) | (go_at_call 12; refine (num_any _ _).mono ?_; rintro e wn ⟨rfl, rfl⟩))
  refine (put_fixed bl lw w.heap.size 6 0 (by decide) (by decide) [] [] [] _ _ _ 258 (by decide) (by decide) (by decide) (by decide) w1 H1.out B1.out.size).mono ?_
  rintro e w2 ⟨rfl, _, nv2, dv2, h2, k2, _, _⟩
  have H2 := Aside.mk h2
  have HL2 := Aside.mk (H1.out.lw_kept HL1.out k2)
  have B2 := Aside.mk (B1.out.trans (k2.to_below B1.out.size (by
    rintro b (e | e | e)
    · subst e; exact H1.out.bbl
    · exact (H1.out.data.lt _ e).1
    · exact (H1.out.nulls.lt _ e).1)))
  clear h2 k2
  go_wp2_with (fail)
  refine (null_fixed bl lw w.heap.size 6 0 (by decide) (by decide) _ _ _ _ _ _ (by decide) (by decide) w2 H2.out B2.out.size).mono ?_
  rintro e w3 ⟨rfl, nv3, dv3, h3, k3, _, _⟩
  have H3 := Aside.mk h3
  have HL3 := Aside.mk (H2.out.lw_kept HL2.out k3)
  have B3 := Aside.mk (B2.out.trans (k3.to_below B2.out.size (by
    rintro b (e | e | e)
    · subst e; exact H2.out.bbl
    · exact (H2.out.data.lt _ e).1
    · exact (H2.out.nulls.lt _ e).1)))
  clear h3 k3
  go_wp2_with (fail)
  have hcol := column_any (fun _ v _ => ∃ a n c, v = .slice a n c) bl lw w.heap.size 6 0 _ _ _ _ _ _ w3 H3.out.blk H3.out.nulls H3.out.data H3.out.ends (by decide) (by decide) (by decide) (fun _ v w1 w2 _ h _ => h) (fun w5 hb _ => by
    refine (words_empty lw mvv w5 ((hb.block _ (lt_of_blk HL3.out)).trans HL3.out)).mono ?_
    rintro e w6 ⟨v', rfl, ho, hb6⟩
    obtain ⟨a, c, rfl⟩ := ho.form
    exact ⟨a, 0, c, rfl, hb6, a, 0, c, rfl⟩)
  refine hcol.mono ?_
  clear hcol
  rintro e w4 ⟨mv, dv', ev', wv, rfl, hm, hd, he, ⟨_, _, ⟨wa, wn, wcc, rfl⟩, _⟩, hb4⟩
  have em : mof ([] ++ [false] ++ [true]) = [2] := by decide
  have ed : ([] ++ lows 258 (widthOf 6).toNat ++ lows 0 (widthOf 6).toNat) = [2, 1, 0, 0] := by decide
  rw [em] at hm
  rw [ed] at hd
  obtain ⟨ma, mc, rfl⟩ := hm.form
  obtain ⟨da, dc, rfl⟩ := hd.form
  obtain ⟨ea, ec, rfl⟩ := he.form
  have HM := Aside.mk hm
  have HD := Aside.mk hd
  have B4 := Aside.mk (B3.out.trans (hb4.mono B3.out.size))
  clear hm hd he hb4 H1 H2 H3 B1 B2 B3
  simp only [List.length_append, List.length_cons, List.length_nil]
  go_wp2_with (first | (go_at_call 12; refine (num_any _ _).mono ?_; rintro e wn ⟨rfl, rfl⟩))
  have hB5 : Below w4.heap.size w4 ((w4.alloc (.cells #[.int .i64 6, .int .i64 0, .int .i64 2, .int .i64 2, .slice ma 1 mc, .slice da 4 dc, .slice ea 0 ec, .slice wa wn wcc] 63)).alloc (.cells #[.int .u8 2, .int .u8 1, .int .u8 0, .int .u8 0] 5)) := ((Below.refl _ _).alloc (Nat.le_refl _) _).alloc (by simp) _
  have hB6 : Below w4.heap.size w4 (((w4.alloc (.cells #[.int .i64 6, .int .i64 0, .int .i64 2, .int .i64 2, .slice ma 1 mc, .slice da 4 dc, .slice ea 0 ec, .slice wa wn wcc] 63)).alloc (.cells #[.int .u8 2, .int .u8 1, .int .u8 0, .int .u8 0] 5)).alloc (.cells #[.int .u8 2] 5)) := hB5.alloc (by simp; omega) _
  refine (same_eq da _ 4 dc _ [2, 1, 0, 0] rfl (by decide) _ (HD.out.below hB5).rd ?_).mono ?_
  · have := heap_alloc_new (w4.alloc (.cells #[.int .i64 6, .int .i64 0, .int .i64 2, .int .i64 2, .slice ma 1 mc, .slice da 4 dc, .slice ea 0 ec, .slice wa wn wcc] 63)) (.cells #[.int .u8 2, .int .u8 1, .int .u8 0, .int .u8 0] 5)
    exact rd_blk (n := 4) (by simpa using this) rfl (by decide)
  rintro e w5 ⟨rfl, rfl⟩
  go_wp2_with (fail)
  refine (same_eq ma _ 1 mc _ [2] rfl (by decide) _ (HM.out.below hB6).rd ?_).mono ?_
  · have := heap_alloc_new ((w4.alloc (.cells #[.int .i64 6, .int .i64 0, .int .i64 2, .int .i64 2, .slice ma 1 mc, .slice da 4 dc, .slice ea 0 ec, .slice wa wn wcc] 63)).alloc (.cells #[.int .u8 2, .int .u8 1, .int .u8 0, .int .u8 0] 5)) (.cells #[.int .u8 2] 5)
    exact rd_blk (n := 1) (by simpa using this) rfl (by decide)
  rintro e w6 ⟨rfl, rfl⟩
  go_wp2_with (fail)
  go_ret
  exact ⟨rfl, B4.out.trans (hB6.mono B4.out.size)⟩
end Go.Proofs.YtmhjjhaipcgbiaaGreat


namespace Go.Proofs.YtmhjjhaipcgbiaaGreat
open Go.RowKit
set_option linter.unusedVariables false
set_option linter.unusedSimpArgs false
set_option maxRecDepth 100000
set_option maxHeartbeats 1000000
structure BSx (w : World) (S : Nat → Prop) (bl : Nat) (k s : Int) (c : CS) (lw : Nat) (nv dv ev : Value) (T : Nat → Prop) : Prop where
  b : IsB w bl lw 0 k s c.nulls c.data c.ends nv dv ev
  l : WL w T lw c.words
  ts : ∀ x, T x → S x ∧ x < w.heap.size ∧ x ≠ bl ∧ nv.ownBlock ≠ some x ∧ dv.ownBlock ≠ some x ∧ ev.ownBlock ≠ some x
  sb : S bl
  sn : ∀ x, nv.ownBlock = some x ∨ dv.ownBlock = some x ∨ ev.ownBlock = some x → S x
def BS (w : World) (S : Nat → Prop) (bl : Nat) (k s : Int) (c : CS) : Prop := ∃ lw nv dv ev T, BSx w S bl k s c lw nv dv ev T
theorem BS.kept {w w' : World} {S R : Nat → Prop} {bl : Nat} {k s : Int} {c : CS} (h : BS w S bl k s c) (hk : Kept R w w') (hR : ∀ b, S b → b < w.heap.size → ¬ R b) : BS w' S bl k s c := by
  obtain ⟨lw, nv, dv, ev, T, h⟩ := h
  have hL := h.l.kept hk (fun b hb hlt => hR b (h.ts b hb).1 hlt)
  refine ⟨lw, nv, dv, ev, T, h.b.kept hk (hR bl h.sb (lt_of_blk h.b.blk)) (fun b hb => hR b (h.sn b hb) ?_) hL.lst, hL, fun x hx => ?_, h.sb, h.sn⟩
  · rcases hb with e | e | e
    · exact (h.b.nulls.lt b e).2
    · exact (h.b.data.lt b e).2
    · exact (h.b.ends.lt b e).2
  · obtain ⟨h1, h2, h3⟩ := h.ts x hx
    exact ⟨h1, Nat.lt_of_lt_of_le h2 hk.size, h3⟩
theorem BS.below {w w' : World} {S : Nat → Prop} {bl : Nat} {k s : Int} {c : CS} (h : BS w S bl k s c) (hb : Below w.heap.size w w') : BS w' S bl k s c :=
  h.kept (Kept.of_below (S := fun _ => False) hb) (fun _ _ _ e => e)
theorem BS.mono {w : World} {S S' : Nat → Prop} {bl : Nat} {k s : Int} {c : CS} (h : BS w S bl k s c) (hS : ∀ b, S b → b < w.heap.size → S' b) : BS w S' bl k s c := by
  obtain ⟨lw, nv, dv, ev, T, h⟩ := h
  refine ⟨lw, nv, dv, ev, T, h.b, h.l, fun x hx => ?_, hS bl h.sb (lt_of_blk h.b.blk), fun x hx => hS x (h.sn x hx) ?_⟩
  · obtain ⟨h1, h2, h3⟩ := h.ts x hx
    exact ⟨hS x h1 h2, h2, h3⟩
  · rcases hx with e | e | e
    · exact (h.b.nulls.lt x e).2
    · exact (h.b.data.lt x e).2
    · exact (h.b.ends.lt x e).2
def StepP (S : Nat → Prop) (bl : Nat) (k s : Int) (c' : CS) (r : Value) (w : World) (e : Ending) (w' : World) : Prop :=
  e = .returned r ∧ BS w' (fun b => S b ∨ w.heap.size ≤ b) bl k s c' ∧ Kept S w w'
def Room (c : CS) (v : V) : Prop := c.data.length + v.text.length ≤ 100000000 ∧ c.nulls.length ≤ 100000000 ∧ c.ends.length ≤ 100000000 ∧ c.words.length ≤ 100000000 ∧ IsBytes v.text ∧ v.bits < 18446744073709551616
theorem own_new {v v' : Value} {w : World} {S : Nat → Prop} (h : v'.ownBlock = v.ownBlock ∨ ∃ b, v'.ownBlock = some b ∧ w.heap.size ≤ b) (hS : ∀ x, v.ownBlock = some x → S x) : ∀ x, v'.ownBlock = some x → S x ∨ w.heap.size ≤ x := fun x e => by
  rcases h with h | ⟨b, h, hb⟩
  · exact .inl (hS x (h ▸ e))
  · rw [h] at e; cases e; exact .inr hb
theorem own_apart {v v' : Value} {w : World} {x : Nat} (h : v'.ownBlock = v.ownBlock ∨ ∃ b, v'.ownBlock = some b ∧ w.heap.size ≤ b) (hx : x < w.heap.size) (hn : v.ownBlock ≠ some x) : v'.ownBlock ≠ some x := fun e => by
  rcases h with h | ⟨b, h, hb⟩
  · exact hn (h ▸ e)
  · rw [h] at e; cases e; omega
theorem add_BS (S : Nat → Prop) (bl : Nat) (k s : Int) (c : CS) (v : V) (ta : Option Addr) (tc : Nat) (hr : Room c v) (w : World) (h : BS w S bl k s c) (ht : Rd w 1 (.slice ta v.text.length tc) v.text.length (v.text.map (.int .u8))) :
    Calls Tryz.prog 72 #[.pointer (some ⟨bl, 0, none⟩), .agg #[.int .u64 (v.bits : Int), .slice ta v.text.length tc, .bool v.null]] w (StepP S bl k s (c.add k v) (.tuple #[]) w) := by
  obtain ⟨lw, nv, dv, ev, T, h⟩ := h
  obtain ⟨r1, r2, r3, r4, r5, r6⟩ := hr
  have hn := h.sn
  by_cases h15 : k = 15
  · subst h15
    refine (add_running bl lw 0 s c.nulls c.data c.ends nv dv ev v.bits ta v.text.length tc v.text v.null r1 r2 r3 w h.b (Nat.zero_le _) ht rfl).mono ?_
    rintro e w' ⟨rfl, nv', dv', ev', hb, hk, od, on, oe⟩
    refine ⟨rfl, ⟨lw, nv', dv', ev', T, ?_, ?_, ?_, .inl h.sb, ?_⟩, hk.mono ?_⟩
    · show IsB w' bl lw 0 15 s (CS.add 15 c v).nulls (CS.add 15 c v).data (CS.add 15 c v).ends nv' dv' ev'
      simpa [CS.add] using hb
    · show WL w' T lw (CS.add 15 c v).words
      have : (CS.add 15 c v).words = c.words := by simp [CS.add]
      rw [this]
      exact h.l.kept hk (fun b hb _ e => by
        obtain ⟨_, _, a1, a2, a3, a4⟩ := h.ts b hb
        rcases e with e | e | e | e
        · exact a1 e
        · exact a3 e
        · exact a2 e
        · exact a4 e)
    · intro x hx
      obtain ⟨a0, a5, a1, a2, a3, a4⟩ := h.ts x hx
      exact ⟨.inl a0, Nat.lt_of_lt_of_le a5 hk.size, a1, own_apart on a5 a2, own_apart od a5 a3, own_apart oe a5 a4⟩
    · rintro x (e | e | e)
      · exact own_new on (fun y e => hn y (.inl e)) x e
      · exact own_new od (fun y e => hn y (.inr (.inl e))) x e
      · exact own_new oe (fun y e => hn y (.inr (.inr e))) x e
    · rintro b (e | e | e | e) _
      · rw [e]; exact h.sb
      · exact hn b (.inr (.inl e))
      · exact hn b (.inl e)
      · exact hn b (.inr (.inr e))
  by_cases h16 : k = 16
  · subst h16
    have hts : ∀ b, T b → b ≠ bl ∧ nv.ownBlock ≠ some b ∧ dv.ownBlock ≠ some b := fun b hb => ⟨(h.ts b hb).2.2.1, (h.ts b hb).2.2.2.1, (h.ts b hb).2.2.2.2.1⟩
    have hte : ∀ b, T b → ev.ownBlock ≠ some b := fun b hb => (h.ts b hb).2.2.2.2.2
    have fin : ∀ (X : Nat) (ws2 : List (List Int)) (e : Ending) (w' : World), AddCP bl lw s T c.nulls c.data c.ends c.words nv dv ev X ws2 v.null w e w' → c.add 16 v = ⟨c.nulls ++ [v.null], c.data ++ lows X 4, c.ends, ws2⟩ → StepP S bl 16 s (c.add 16 v) (.tuple #[]) w e w' := by
      rintro X ws2 e w' ⟨rfl, nv', dv', hb, hl, hk, od, on⟩ hc
      rw [hc]
      have hl2 := hl.mono (T' := fun b => (T b ∨ w.heap.size ≤ b ∧ b ≠ bl ∧ nv'.ownBlock ≠ some b ∧ dv'.ownBlock ≠ some b) ∧ b < w'.heap.size) (fun b h1 h2 => ⟨h1, h2⟩)
      refine ⟨rfl, ⟨lw, nv', dv', ev, _, hb, hl2, ?_, .inl h.sb, ?_⟩, hk.mono ?_⟩
      · rintro x ⟨hx | hx, hlt⟩
        · obtain ⟨a0, a5, a1, a2, a3, a4⟩ := h.ts x hx
          exact ⟨.inl a0, hlt, a1, own_apart on a5 a2, own_apart od a5 a3, a4⟩
        · exact ⟨.inr hx.1, hlt, hx.2.1, hx.2.2.1, hx.2.2.2, fun e => by have := (h.b.ends.lt x e).2; omega⟩
      · rintro x (e | e | e)
        · exact own_new on (fun y e => hn y (.inl e)) x e
        · exact own_new od (fun y e => hn y (.inr (.inl e))) x e
        · exact .inl (hn x (.inr (.inr e)))
      · rintro b (e | e | e | e) _
        · exact (h.ts b e).1
        · rw [e]; exact h.sb
        · exact hn b (.inr (.inl e))
        · exact hn b (.inl e)
    cases hv : v.null with
    | true =>
      refine (add_coded_null bl lw s T c.nulls c.data c.ends c.words nv dv ev v.bits ta v.text.length tc (by omega) r2 w h.b h.l hts).mono ?_
      intro e w' hp
      refine fin 0 c.words e w' (by rw [hv]; exact hp) ?_
      simp [CS.add, hv]
    | false =>
      refine (add_coded_word bl lw s T c.nulls c.data c.ends c.words nv dv ev v.bits v.text ta tc (by omega) r2 r4 r5 (by omega) w h.b h.l hts hte ht).mono ?_
      intro e w' hp
      refine fin (codeOf c.words v.text) (addWord c.words v.text) e w' (by rw [hv]; exact hp) ?_
      simp [CS.add, hv]
  · have q1 : (k == 15) = false := by simpa using h15
    have q2 : (k == 16) = false := by simpa using h16
    refine (add_fixed bl lw 0 k s q1 q2 c.nulls c.data c.ends nv dv ev v.bits (.slice ta v.text.length tc) v.null r6 (by omega) r2 w h.b (Nat.zero_le _)).mono ?_
    rintro e w' ⟨rfl, nv', dv', hb, hk, od, on⟩
    have hc : c.add k v = ⟨c.nulls ++ [v.null], c.data ++ lows v.bits (widthOf k).toNat, c.ends, c.words⟩ := by simp [CS.add, h15, h16]
    rw [hc]
    refine ⟨rfl, ⟨lw, nv', dv', ev, T, hb, ?_, ?_, .inl h.sb, ?_⟩, hk.mono ?_⟩
    · exact h.l.kept hk (fun b hb _ e => by
        obtain ⟨_, _, a1, a2, a3, a4⟩ := h.ts b hb
        rcases e with e | e | e
        · exact a1 e
        · exact a3 e
        · exact a2 e)
    · intro x hx
      obtain ⟨a0, a5, a1, a2, a3, a4⟩ := h.ts x hx
      exact ⟨.inl a0, Nat.lt_of_lt_of_le a5 hk.size, a1, own_apart on a5 a2, own_apart od a5 a3, a4⟩
    · rintro x (e | e | e)
      · exact own_new on (fun y e => hn y (.inl e)) x e
      · exact own_new od (fun y e => hn y (.inr (.inl e))) x e
      · exact .inl (hn x (.inr (.inr e)))
    · rintro b (e | e | e) _
      · rw [e]; exact h.sb
      · exact hn b (.inr (.inl e))
      · exact hn b (.inl e)
end Go.Proofs.YtmhjjhaipcgbiaaGreat


namespace Go.Proofs.YtmhjjhaipcgbiaaGreat
open Go.RowKit
set_option linter.unusedVariables false
set_option linter.unusedSimpArgs false
set_option maxRecDepth 100000
set_option maxHeartbeats 1000000
def NewBP (k s : Int) (w : World) (e : Ending) (w' : World) : Prop := ∃ bl, e = .returned (.tuple #[.pointer (some ⟨bl, 0, none⟩), .int .i64 0]) ∧ BS w' (fun b => w.heap.size ≤ b) bl k s CS.zero ∧ Below w.heap.size w w'
theorem new_BS (k s : Int) (w : World) (h : okType k s = true) : Calls Tryz.prog 11 #[.agg #[.int .i64 k, .int .i64 s]] w (NewBP k s w) := by
  refine (new_yes k s w h).mono ?_
  rintro e w' ⟨bl, lw, rfl, hb, hbl, hl, _⟩
  refine ⟨bl, rfl, ⟨lw, _, _, _, _, ⟨hb.blk, hb.lst, Nat.zero_le _, Nat.zero_le _, hb.nulls.mono (Nat.zero_le _), hb.data.mono (Nat.zero_le _), hb.ends.mono (Nat.zero_le _)⟩, hl.mono (T' := fun b => (w.heap.size ≤ b ∧ b ≠ bl) ∧ b < w'.heap.size) (fun b h1 h2 => ⟨h1, h2⟩), ?_, hb.bbl, ?_⟩, hbl⟩
  · rintro x ⟨⟨h1, h2⟩, h3⟩
    exact ⟨h1, h3, h2, by simp [Value.ownBlock], by simp [Value.ownBlock], by simp [Value.ownBlock]⟩
  · rintro x (e | e | e) <;> cases e
theorem null_BS (S : Nat → Prop) (bl : Nat) (k s : Int) (c : CS) (hr : Room c ⟨true, 0, []⟩) (w : World) (h : BS w S bl k s c) :
    Calls Tryz.prog 16 #[.pointer (some ⟨bl, 0, none⟩)] w (StepP S bl k s (c.add k ⟨true, 0, []⟩) (.tuple #[]) w) := by
  have HA := Aside.mk (show Calls Tryz.prog 72 #[.pointer (some ⟨bl, 0, none⟩), .agg #[.int .u64 0, .slice none 0 0, .bool true]] w (StepP S bl k s (c.add k ⟨true, 0, []⟩) (.tuple #[]) w) from add_BS S bl k s c ⟨true, 0, []⟩ none 0 hr w h (Rd.nil w 1))
  clear h
  go_enter Tryz.func16, Tryz.ntmps16
  go_wp2_with (go_at_call 72; refine HA.out.mono ?_; rintro e w1 ⟨rfl, hp⟩; have HP := Aside.mk hp; clear hp)
  exact bodyPost_ret (v := .tuple #[]) (by simp [results, Tryz.results16, go_sem]) rfl ⟨rfl, HP.out⟩
theorem texts_BS (S : Nat → Prop) (bl : Nat) (k s : Int) (c : CS) (w : World) (h : BS w S bl k s c) : Calls Tryz.prog 73 #[.pointer (some ⟨bl, 0, none⟩)] w fun e w' => e = .returned (.bool (wordedB k)) ∧ w = w' := by
  obtain ⟨lw, nv, dv, ev, T, h⟩ := h
  have hc0 := cell_blk (k := 0) h.b.blk
  simp at hc0
  clear h
  cases h15 : (k == 15) with
  | true =>
    have HW := Aside.mk (show true = wordedB k by unfold wordedB; rw [h15]; rfl)
    go_enter Tryz.func73, Tryz.ntmps73
    go_wp2
    go_ret
    exact ⟨ret_bool HW.out, rfl⟩
  | false =>
    have HW := Aside.mk (show (k == 16) = wordedB k by unfold wordedB; rw [h15]; simp)
    go_enter Tryz.func73, Tryz.ntmps73
    go_wp2
    go_ret
    exact ⟨ret_bool HW.out, rfl⟩
def StepBP (S : Nat → Prop) (bl : Nat) (k s : Int) (c' : CS) (r : Value) (w : World) (e : Ending) (w' : World) : Prop :=
  e = .returned r ∧ BS w' (fun b => S b ∨ w.heap.size ≤ b) bl k s c' ∧ Kept S w w'
theorem put_BS (S : Nat → Prop) (bl : Nat) (k s : Int) (c : CS) (X : Nat) (hk : wordedB k = false) (hf : fitsB k s X = true) (hr : Room c ⟨false, X, []⟩) (w : World) (h : BS w S bl k s c) :
    Calls Tryz.prog 17 #[.pointer (some ⟨bl, 0, none⟩), .int .u64 (X : Int)] w (StepP S bl k s (c.add k ⟨false, X, []⟩) (.int .i64 0) w) := by
  have HT := Aside.mk (texts_BS S bl k s c w h)
  have hX : X < 18446744073709551616 := hr.2.2.2.2.2
  have HA := Aside.mk (fun (w2 : World) (hb : Below w.heap.size w w2) => show Calls Tryz.prog 72 #[.pointer (some ⟨bl, 0, none⟩), .agg #[.int .u64 (X : Int), .slice none 0 0, .bool false]] w2 (StepP S bl k s (c.add k ⟨false, X, []⟩) (.tuple #[]) w2) from add_BS S bl k s c ⟨false, X, []⟩ none 0 hr w2 (h.below hb) (Rd.nil w2 1))
  have hc0 : w.cell? ⟨bl, 0, none⟩ = some (.int .i64 k) := by obtain ⟨lw, nv, dv, ev, T, h⟩ := h; rw [cell_blk h.b.blk]; rfl
  have hc1 : w.cell? ⟨bl, 1, none⟩ = some (.int .i64 s) := by obtain ⟨lw, nv, dv, ev, T, h⟩ := h; rw [cell_blk h.b.blk]; rfl
  have HF := Aside.mk hf
  have HK := Aside.mk hk
  clear h hf hk hr
  go_enter Tryz.func17, Tryz.ntmps17
  go_wp2_with (first | (go_at_call 73; refine HT.out.mono ?_; rintro e w1 ⟨rfl, rfl⟩; rw [HK.out]) | (go_at_call 74; refine (fits_any k s X (by omega) (by omega) _).mono ?_; rintro e w2 ⟨rfl, hb2⟩; rw [HF.out]; have B2 := Aside.mk hb2; clear hb2) | (go_at_call 72; refine (HA.out _ B2.out).mono ?_; rintro e w3 ⟨rfl, hp⟩; have HP := Aside.mk hp; clear hp))
  go_ret
  have hs := B2.out.size
  exact ⟨rfl, HP.out.1.mono (fun b hb _ => hb.elim .inl (fun h => .inr (by omega))), (Kept.of_below B2.out).trans HP.out.2 (fun _ e _ => e)⟩
theorem text_BS (S : Nat → Prop) (bl : Nat) (k s : Int) (c : CS) (tx : List Int) (ta : Option Addr) (tc : Nat) (hk : wordedB k = true) (hr : Room c ⟨false, 0, tx⟩) (w : World) (h : BS w S bl k s c) (ht : Rd w 1 (.slice ta tx.length tc) tx.length (tx.map (.int .u8))) :
    Calls Tryz.prog 21 #[.pointer (some ⟨bl, 0, none⟩), .slice ta tx.length tc] w (StepP S bl k s (c.add k ⟨false, 0, tx⟩) (.int .i64 0) w) := by
  have HT := Aside.mk (texts_BS S bl k s c w h)
  have HA := Aside.mk (show Calls Tryz.prog 72 #[.pointer (some ⟨bl, 0, none⟩), .agg #[.int .u64 0, .slice ta tx.length tc, .bool false]] w (StepP S bl k s (c.add k ⟨false, 0, tx⟩) (.tuple #[]) w) from add_BS S bl k s c ⟨false, 0, tx⟩ ta tc hr w h ht)
  have HK := Aside.mk hk
  clear h hk hr ht
  go_enter Tryz.func21, Tryz.ntmps21
  go_wp2_with (first | (go_at_call 73; refine HT.out.mono ?_; rintro e w1 ⟨rfl, rfl⟩; rw [HK.out]) | (go_at_call 72; refine HA.out.mono ?_; rintro e w3 ⟨rfl, hp⟩; have HP := Aside.mk hp; clear hp))
  go_ret
  exact ⟨rfl, HP.out⟩
structure SepC (B D : SL) (vals : List Value) : Prop where
  bd : ∀ b, (Value.slice B.a 0 0).ownBlock = some b → (Value.slice D.a 0 0).ownBlock ≠ some b
  bw : ∀ v ∈ vals, ∀ b, v.ownBlock = some b → (Value.slice B.a 0 0).ownBlock ≠ some b ∧ (Value.slice D.a 0 0).ownBlock ≠ some b
  ww : WSep vals.length vals
theorem own_len00 (a : Option Addr) (x y : Nat) : (Value.slice a x y).ownBlock = (Value.slice a 0 0).ownBlock := by cases a <;> rfl
structure OwnC (w : World) (base : Nat) (c : Col) (B D E W : SL) (vals : List Value) : Prop where
  bits : Own w base 5 1 (.slice B.a c.bits.length B.c) c.bits.length (c.bits.map (.int .u8))
  data : Own w base 5 1 (.slice D.a c.data.length D.c) c.data.length (c.data.map (.int .u8))
  ends : Own w base 3 1 (.slice E.a c.ends.length E.c) c.ends.length (c.ends.map (.int .i64))
  words : Own w base 43 1 (.slice W.a c.words.length W.c) c.words.length vals
  len : vals.length = c.words.length
  each : WOwn w base c.words.length vals c.words
  sep : SepC B D vals
theorem OwnC.rd {w : World} {base : Nat} {c : Col} {B D E W : SL} {vals : List Value} (h : OwnC w base c B D E W vals) : RdC w c B D E W vals :=
  ⟨h.bits.rd, h.data.rd, h.ends.rd, h.words.rd, h.len, fun i t hi => by
    obtain ⟨a, cap, h1, h2⟩ := h.each i t (List.getElem?_eq_some_iff.1 hi).1 hi
    exact ⟨a, cap, h1, h2.rd⟩⟩
def ColBP (c : Col) (w : World) (e : Ending) (w' : World) : Prop := ∃ B D E W vals, e = .returned (colV c B D E W) ∧ OwnC w' w.heap.size c B D E W vals ∧ Below w.heap.size w w'
theorem WOwn.mono {w : World} {base base' i : Nat} {vals : List Value} {ws : List (List Int)} (h : WOwn w base i vals ws) (hb : base' ≤ base) : WOwn w base' i vals ws := fun j t hj ht => by
  obtain ⟨a, cap, h1, h2⟩ := h j t hj ht
  exact ⟨a, cap, h1, h2.mono hb⟩
theorem column_BS (S : Nat → Prop) (bl : Nat) (k s : Int) (c : CS) (h1 : c.nulls.length ≤ 100000000) (h2 : c.data.length ≤ 100000000) (h3 : c.ends.length ≤ 100000000) (h4 : c.words.length ≤ 100000000) (h5 : ∀ t ∈ c.words, t.length ≤ 100000000) (w : World) (h : BS w S bl k s c) :
    Calls Tryz.prog 34 #[.pointer (some ⟨bl, 0, none⟩)] w (ColBP (c.col k s) w) := by
  obtain ⟨lw, nv, dv, ev, T, h⟩ := h
  refine (column_any (fun n v w' => ∃ a cp vals, v = .slice a c.words.length cp ∧ Own w' (w.heap.size + 1) 43 1 (.slice a c.words.length cp) c.words.length vals ∧ vals.length = c.words.length ∧ WOwn w' n c.words.length vals c.words ∧ WSep vals.length vals)
    bl lw 0 k s c.nulls c.data c.ends nv dv ev w h.b.blk h.b.nulls h.b.data h.b.ends h1 (by omega) (by omega) ?_ ?_).mono ?_
  · rintro n v w1 w2 hn ⟨a, cp, vals, rfl, ho, hl, hw, hs⟩ hk
    refine ⟨a, cp, vals, rfl, ho.kept hk (fun b e h => by have := (ho.lt b e).1; omega), hl, fun j t hj ht => ?_, hs⟩
    obtain ⟨a, cap, q1, q2⟩ := hw j t hj ht
    exact ⟨a, cap, q1, q2.kept hk (fun b e h => by have := (q2.lt b e).1; omega)⟩
  · intro w2 hb hsz
    refine (words_any T lw c.words h4 (fun t ht => Nat.le_trans (h5 t ht) (by decide)) w2 (h.l.below hb)).mono ?_
    rintro e w' ⟨a, cp, vals, rfl, ho, hl, hw, hb2, hs⟩
    exact ⟨a, _, cp, rfl, hb2, a, cp, vals, rfl, ho.mono hsz, hl, hw, by rw [hl]; exact hs⟩
  · rintro e w' ⟨mv, dv', ev', wv, rfl, hm, hd, he, ⟨n, hwn, ⟨a, cp, vals, rfl, ho, hl, hw, hs⟩, s1, s2, s3⟩, hb⟩
    obtain ⟨ma, mc, rfl⟩ := hm.form
    obtain ⟨da, dc, rfl⟩ := hd.form
    obtain ⟨ea, ec, rfl⟩ := he.form
    refine ⟨⟨ma, mc⟩, ⟨da, dc⟩, ⟨ea, ec⟩, ⟨a, cp⟩, vals, rfl, ⟨hm, hd, he, ho.mono (by omega), hl, hw.mono (Nat.le_of_lt hwn), ⟨fun b e e2 => ?_, fun v hv b e => ?_, hs⟩⟩, hb⟩
    · rw [← own_len00 ma _ mc] at e
      rw [← own_len00 da _ dc] at e2
      exact s3 b e e2
    · obtain ⟨i, hi, rfl⟩ := List.mem_iff_getElem.1 hv
      obtain ⟨a', cap', q1, q2⟩ := hw i _ (by omega) (List.getElem?_eq_getElem (by omega))
      rw [List.getElem?_eq_getElem hi] at q1
      have q1 := Option.some.inj q1
      rw [q1] at e
      have := (q2.lt b e).1
      refine ⟨fun e2 => ?_, fun e2 => ?_⟩
      · rw [← own_len00 ma _ mc] at e2
        have := s1 b e2; omega
      · rw [← own_len00 da _ dc] at e2
        have := s2 b e2; omega
end Go.Proofs.YtmhjjhaipcgbiaaGreat


namespace Go.Proofs.YtmhjjhaipcgbiaaGreat
open Go.RowKit
set_option linter.unusedVariables false
set_option linter.unusedSimpArgs false
set_option maxRecDepth 100000
set_option maxHeartbeats 2000000
def RdVs (w : World) (A : SL) (l : List V) : Prop :=
  ∃ xs, Rd w 3 (.slice A.a l.length A.c) l.length xs ∧ ∀ (i : Nat) v, l[i]? = some v → ∃ ta tc, xs[i * 3]? = some (.bool v.null) ∧ xs[i * 3 + 1]? = some (.int .u64 (v.bits : Int)) ∧ xs[i * 3 + 2]? = some (.slice ta v.text.length tc) ∧ Rd w 1 (.slice ta v.text.length tc) v.text.length (v.text.map (.int .u8))
theorem RdVs.below {w w' : World} {A : SL} {l : List V} (h : RdVs w A l) (hb : Below w.heap.size w w') : RdVs w' A l := by
  obtain ⟨xs, h1, h2⟩ := h
  exact ⟨xs, h1.below hb, fun i v hi => by obtain ⟨ta, tc, a, b, c, d⟩ := h2 i v hi; exact ⟨ta, tc, a, b, c, d.below hb⟩⟩
theorem RdVs.at {w : World} {A : SL} {l : List V} (h : RdVs w A l) {i : Nat} (hi : i < l.length) : ∃ b off cap ta tc, A.a = some ⟨b, off, none⟩ ∧ A.c = cap ∧ l.length ≤ cap ∧ cap ≤ 9223372036854775807 ∧ w.cell? ⟨b, off + i * 3, none⟩ = some (.bool l[i].null) ∧ w.cell? ⟨b, off + i * 3 + 1, none⟩ = some (.int .u64 (l[i].bits : Int)) ∧ w.cell? ⟨b, off + i * 3 + 2, none⟩ = some (.slice ta l[i].text.length tc) ∧ Rd w 1 (.slice ta l[i].text.length tc) l[i].text.length (l[i].text.map (.int .u8)) := by
  obtain ⟨xs, h1, h2⟩ := h
  obtain ⟨ta, tc, a, b, c, d⟩ := h2 i _ (List.getElem?_eq_getElem hi)
  obtain ⟨g, off, cap, e, q1, q2, hc⟩ := h1.some_ (by rw [h1.len]; omega)
  simp only [Value.slice.injEq, true_and] at e
  obtain ⟨e1, e2⟩ := e
  exact ⟨g, off, cap, ta, tc, e1, e2, q1, q2, hc _ _ a, by rw [Nat.add_assoc]; exact hc _ _ b, by rw [Nat.add_assoc]; exact hc _ _ c, d⟩
def Few (l : List V) : Prop := l.length ≤ 20000 ∧ ∀ v ∈ l, v.text.length ≤ 4900
theorem of_sizes (k : Int) (l : List V) (hl : ∀ v ∈ l, v.text.length ≤ 4900) : (CS.of k l).data.length ≤ l.length * 4900 ∧ (CS.of k l).nulls.length = l.length ∧ (CS.of k l).ends.length ≤ l.length ∧ (CS.of k l).words.length ≤ l.length := by
  induction l using snoc_ind with
  | h0 => exact ⟨Nat.le_refl _, rfl, Nat.le_refl _, Nat.le_refl _⟩
  | h1 l v ih =>
    obtain ⟨h1, h2, h3, h4⟩ := ih (fun v hv => hl v (List.mem_append_left _ hv))
    have hv := hl v (by simp)
    have hw8 : (widthOf k).toNat ≤ 8 := by
      unfold widthOf
      split
      · decide
      split
      · decide
      split
      · decide
      split <;> decide
    rw [CS.of_snoc]
    unfold CS.add
    split
    · refine ⟨?_, ?_, ?_, ?_⟩ <;> simp <;> omega
    split
    · refine ⟨?_, ?_, ?_, ?_⟩
      · simp [lows_len]; omega
      · simp; omega
      · simp; omega
      · dsimp only
        split
        · simp; omega
        · have := addWord_len (CS.of k l).words v.text; simp; omega
    · refine ⟨?_, ?_, ?_, ?_⟩
      · simp [lows_len]; omega
      · simp; omega
      · simp; omega
      · simp; omega
theorem of_words (k : Int) (l : List V) (hl : ∀ v ∈ l, v.text.length ≤ 4900) : ∀ t ∈ (CS.of k l).words, t.length ≤ 4900 := by
  induction l using snoc_ind with
  | h0 => intro t ht; cases ht
  | h1 l v ih =>
    have ih := ih (fun v hv => hl v (List.mem_append_left _ hv))
    have hv := hl v (by simp)
    rw [CS.of_snoc]
    unfold CS.add
    split
    · exact ih
    split
    · dsimp only
      split
      · exact ih
      · unfold addWord
        split
        · exact ih
        · intro t ht
          rcases List.mem_append.1 ht with h | h
          · exact ih t h
          · simp at h; subst h; exact hv
    · exact ih
theorem of_room {k s : Int} {l : List V} (hf : Few l) (hl : ∀ v ∈ l, vOK k s v) {i : Nat} (hi : i < l.length) : Room (CS.of k (l.take i)) l[i] := by
  have hm := List.getElem_mem hi
  obtain ⟨h1, h2, h3, h4⟩ := of_sizes k (l.take i) (fun v hv => hf.2 v (List.mem_of_mem_take hv))
  have h5 := hf.2 _ hm
  have h6 := hf.1
  rw [List.length_take] at h1 h2 h3 h4
  exact ⟨by omega, by omega, by omega, by omega, (hl _ hm).1, (hl _ hm).2.1⟩
theorem of_next (k : Int) (l : List V) {i : Nat} (hi : i < l.length) : CS.of k (l.take (i + 1)) = (CS.of k (l.take i)).add k l[i] := by
  rw [List.take_succ_eq_append_getElem hi, CS.of_snoc]
theorem kept8 (w : World) (b : Nat) (x0 x1 x2 x3 x4 x5 x6 x7 : Value) : Kept (fun k => k = b) w ((((((((w.setCell ⟨b, 0, none⟩ x0).setCell ⟨b, 1, none⟩ x1).setCell ⟨b, 2, none⟩ x2).setCell ⟨b, 3, none⟩ x3).setCell ⟨b, 4, none⟩ x4).setCell ⟨b, 5, none⟩ x5).setCell ⟨b, 6, none⟩ x6).setCell ⟨b, 7, none⟩ x7) := by
  repeat (refine Kept.trans ?_ (Kept.setCell _ _ _) (fun _ e _ => e))
  exact Kept.refl _ _
theorem OwnC.kept {w w' : World} {base : Nat} {c : Col} {B D E W : SL} {vals : List Value} {S : Nat → Prop} (h : OwnC w base c B D E W vals) (hk : Kept S w w') (hS : ∀ b, base ≤ b → ¬ S b) : OwnC w' base c B D E W vals :=
  ⟨h.bits.kept hk (fun b e => hS b (h.bits.lt b e).1), h.data.kept hk (fun b e => hS b (h.data.lt b e).1), h.ends.kept hk (fun b e => hS b (h.ends.lt b e).1), h.words.kept hk (fun b e => hS b (h.words.lt b e).1), h.len, fun i t hi ht => by
    obtain ⟨a, cap, q1, q2⟩ := h.each i t hi ht
    exact ⟨a, cap, q1, q2.kept hk (fun b e => hS b (q2.lt b e).1)⟩, h.sep⟩
theorem OwnC.keptL {w w' : World} {base : Nat} {c : Col} {B D E W : SL} {vals : List Value} {S : Nat → Prop} (h : OwnC w base c B D E W vals) (hk : Kept S w w') (hS : ∀ b, base ≤ b → b < w.heap.size → ¬ S b) : OwnC w' base c B D E W vals :=
  ⟨h.bits.kept hk (fun b e => hS b (h.bits.lt b e).1 (h.bits.lt b e).2), h.data.kept hk (fun b e => hS b (h.data.lt b e).1 (h.data.lt b e).2), h.ends.kept hk (fun b e => hS b (h.ends.lt b e).1 (h.ends.lt b e).2), h.words.kept hk (fun b e => hS b (h.words.lt b e).1 (h.words.lt b e).2), h.len, fun i t hi ht => by
    obtain ⟨a, cap, q1, q2⟩ := h.each i t hi ht
    exact ⟨a, cap, q1, q2.kept hk (fun b e => hS b (q2.lt b e).1 (q2.lt b e).2)⟩, h.sep⟩
theorem OwnC.mono {w : World} {base base' : Nat} {c : Col} {B D E W : SL} {vals : List Value} (h : OwnC w base c B D E W vals) (hb : base' ≤ base) : OwnC w base' c B D E W vals :=
  ⟨h.bits.mono hb, h.data.mono hb, h.ends.mono hb, h.words.mono hb, h.len, WOwn.mono h.each hb, h.sep⟩
theorem OwnC.below {w w' : World} {base : Nat} {c : Col} {B D E W : SL} {vals : List Value} (h : OwnC w base c B D E W vals) (hb : Below w.heap.size w w') : OwnC w' base c B D E W vals :=
  h.kept (Kept.of_below (S := fun _ => False) hb) (fun _ _ e => e)
end Go.Proofs.YtmhjjhaipcgbiaaGreat


namespace Go.Proofs.YtmhjjhaipcgbiaaGreat
open Go.RowKit
set_option linter.unusedVariables false
set_option linter.unusedSimpArgs false
set_option maxRecDepth 100000
set_option maxHeartbeats 1000000
structure LX (w wr : World) (k s : Int) (n : Nat) (c : CS) (nv dv ev wv : Value) (vals : List Value) : Prop where
  bt : wr.heap[w.heap.size]? = some (.cells #[.int .i64 k, .int .i64 s] 23 (0, 0))
  br : wr.heap[w.heap.size + 1]? = some (.cells #[.int .i64 0, .int .i64 0, .int .i64 0, .int .i64 0, .slice none 0 0, .slice none 0 0, .slice none 0 0, .slice none 0 0] 63 (0, 0))
  bc : wr.heap[w.heap.size + 1 + 1]? = some (.cells #[.int .i64 k, .int .i64 s, .int .i64 (n : Int), .int .i64 0, .slice none 0 0, dv, ev, .slice none 0 0] 63 (0, 0))
  words : W17 wr w.heap.size (w.heap.size + 1 + 1 + 1) c.words wv vals
  nulls : Own wr w.heap.size 4 1 nv c.nulls.length (c.nulls.map .bool)
  data : Own wr w.heap.size 5 1 dv c.data.length (c.data.map (.int .u8))
  ends : Own wr w.heap.size 3 1 ev c.ends.length (c.ends.map (.int .i64))
  apart : ∀ v ∈ vals, ∀ b, v.ownBlock = some b → dv.ownBlock ≠ some b
  bel : Below w.heap.size w wr
variable {w wr : World} {k s : Int} {n : Nat} {c : CS} {nv dv ev wv : Value} {vals : List Value}
theorem LX.ty (h : LX w wr k s n c nv dv ev wv vals) {v : Value} {E base : Nat} {m : Nat} {xs : List Value} (ho : Own wr base E 1 v m xs) {F : TypeId} (hE : F ≠ E) : ∀ b, v.ownBlock = some b → b < wr.heap.size → ∀ cs, wr.heap[b]? ≠ some (.cells cs F (0, 0)) := by
  intro b e _ cs hc
  obtain ⟨cur, hg⟩ := own_blk ho e
  rw [hg] at hc
  cases hc
  exact hE rfl
theorem LX.word_lt (h : LX w wr k s n c nv dv ev wv vals) : ∀ v ∈ vals, ∀ b, v.ownBlock = some b → b < wr.heap.size ∧ ∃ cur, wr.heap[b]? = some (.cells cur 5 (0, 0)) := by
  intro v hv b e
  obtain ⟨i, hi, rfl⟩ := List.mem_iff_getElem.1 hv
  have hl := h.words.len
  obtain ⟨a, cap, q1, q2⟩ := h.words.each i _ (by omega) (List.getElem?_eq_getElem (by omega))
  rw [List.getElem?_eq_getElem hi] at q1
  rw [Option.some.inj q1] at e
  exact ⟨(q2.lt b e).2, own_blk q2 e⟩
theorem LX.below {w2 : World} (h : LX w wr k s n c nv dv ev wv vals) (hb : Below wr.heap.size wr w2) : LX w w2 k s n c nv dv ev wv vals :=
  ⟨(hb.block _ (lt_of_blk h.bt)).trans h.bt, (hb.block _ (lt_of_blk h.br)).trans h.br, (hb.block _ (lt_of_blk h.bc)).trans h.bc, h.words.below hb, h.nulls.below hb, h.data.below hb, h.ends.below hb, h.apart, below_chain h.bel hb⟩
theorem LX.null {w5 : World} {o : Obj} {v5 : Value} {b : Bool} (h : LX w wr k s n c nv dv ev wv vals) (hA : AppP (wr.alloc o) w.heap.size 4 1 nv c.nulls.length (c.nulls.map .bool) 1 [.bool b] v5 w5) :
    LX w w5 k s n ⟨c.nulls ++ [b], c.data, c.ends, c.words⟩ v5 dv ev wv vals := by
  have K : Kept (fun b => nv.ownBlock = some b) wr w5 := (Kept.of_below (below_new wr o)).trans ((Kept.of_grown hA.grown).mono (fun b e _ => e.symm)) (fun _ e _ => e)
  have bx : ∀ {i : Nat} {cs : Array Value} {F : TypeId}, wr.heap[i]? = some (.cells cs F (0, 0)) → F ≠ 4 → w5.heap[i]? = some (.cells cs F (0, 0)) := fun {i cs F} hi hF => (K.block _ (lt_of_blk hi) (fun e => h.ty h.nulls hF i e (lt_of_blk hi) _ hi)).trans hi
  refine ⟨bx h.bt (by decide), bx h.br (by decide), bx h.bc (by decide), h.words.keptT K ?_ ?_, ?_, h.data.keptT K (h.ty h.nulls (by decide)), h.ends.keptT K (h.ty h.nulls (by decide)), h.apart, h.bel.trans (K.to_below h.bel.size (fun b e => (h.nulls.lt b e).1))⟩
  · rintro E (rfl | rfl) <;> exact h.ty h.nulls (by decide)
  · intro j v hj b e e2
    obtain ⟨_, cur, hg⟩ := h.word_lt v (List.mem_of_getElem? hj) b e
    exact h.ty h.nulls (by decide) b e2 (lt_of_blk hg) _ hg
  · have := hA.own
    rw [List.length_append, List.map_append]
    exact this
theorem LX.dat {w5 : World} {v5 : Value} {data' : List Int} (h : LX w wr k s n c nv dv ev wv vals) (K : Kept (fun b => dv.ownBlock = some b) wr w5) (ho : Own w5 w.heap.size 5 1 v5 data'.length (data'.map (.int .u8))) (hb : v5.ownBlock = dv.ownBlock ∨ ∃ b, v5.ownBlock = some b ∧ wr.heap.size ≤ b) :
    LX w (w5.setCell ⟨w.heap.size + 1 + 1, 5, none⟩ v5) k s n ⟨c.nulls, data', c.ends, c.words⟩ nv v5 ev wv vals := by
  have bx : ∀ {i : Nat} {cs : Array Value} {F : TypeId}, wr.heap[i]? = some (.cells cs F (0, 0)) → F ≠ 5 → w5.heap[i]? = some (.cells cs F (0, 0)) := fun {i cs F} hi hF => (K.block _ (lt_of_blk hi) (fun e => h.ty h.data hF i e (lt_of_blk hi) _ hi)).trans hi
  have g := bx h.bc (by decide)
  have K2 : Kept (fun b => dv.ownBlock = some b ∨ b = w.heap.size + 1 + 1) wr (w5.setCell ⟨w.heap.size + 1 + 1, 5, none⟩ v5) := (K.mono (fun b e _ => .inl e)).trans (Kept.setCell w5 ⟨w.heap.size + 1 + 1, 5, none⟩ v5) (fun b e _ => .inr e)
  have ty2 : ∀ {F : TypeId}, F ≠ 5 → F ≠ 63 → ∀ b, (dv.ownBlock = some b ∨ b = w.heap.size + 1 + 1) → b < wr.heap.size → ∀ cs, wr.heap[b]? ≠ some (.cells cs F (0, 0)) := by
    rintro F h1 h2 b (e | rfl) hb cs hc
    · exact h.ty h.data h1 b e hb cs hc
    · rw [h.bc] at hc; cases hc; exact h2 rfl
  refine ⟨?_, ?_, by simpa using heap_setCell_at (k := 5) g v5, h.words.keptT K2 ?_ ?_, h.nulls.keptT K2 (ty2 (by decide) (by decide)), ho.set_other (ho.blk_ne g (by decide)) _, h.ends.keptT K2 (ty2 (by decide) (by decide)), ?_, (h.bel.trans (K.to_below h.bel.size (fun b e => (h.data.lt b e).1))).setCell (by simp; omega) _⟩
  · rw [Below.heap_setCell _ _ _ _ (by simp; omega)]; exact bx h.bt (by decide)
  · rw [Below.heap_setCell _ _ _ _ (by simp)]; exact bx h.br (by decide)
  · rintro E (rfl | rfl) <;> exact ty2 (by decide) (by decide)
  · intro j v hj b e e2
    obtain ⟨_, cur, hg⟩ := h.word_lt v (List.mem_of_getElem? hj) b e
    rcases e2 with e2 | rfl
    · exact h.apart v (List.mem_of_getElem? hj) b e e2
    · rw [h.bc] at hg; cases hg
  · intro v hv b e e2
    rcases hb with h1 | ⟨b', h1, h2⟩
    · exact h.apart v hv b e (h1 ▸ e2)
    · rw [h1] at e2; cases e2
      have := (h.word_lt v hv _ e).1; omega
theorem LX.end_ {w5 : World} {o : Obj} {v5 : Value} {y : Int} (h : LX w wr k s n c nv dv ev wv vals) (hA : AppP (wr.alloc o) w.heap.size 3 1 ev c.ends.length (c.ends.map (.int .i64)) 1 [.int .i64 y] v5 w5) :
    LX w (w5.setCell ⟨w.heap.size + 1 + 1, 6, none⟩ v5) k s n ⟨c.nulls, c.data, c.ends ++ [y], c.words⟩ nv dv v5 wv vals := by
  have K : Kept (fun b => ev.ownBlock = some b) wr w5 := (Kept.of_below (below_new wr o)).trans ((Kept.of_grown hA.grown).mono (fun b e _ => e.symm)) (fun _ e _ => e)
  have bx : ∀ {i : Nat} {cs : Array Value} {F : TypeId}, wr.heap[i]? = some (.cells cs F (0, 0)) → F ≠ 3 → w5.heap[i]? = some (.cells cs F (0, 0)) := fun {i cs F} hi hF => (K.block _ (lt_of_blk hi) (fun e => h.ty h.ends hF i e (lt_of_blk hi) _ hi)).trans hi
  have g := bx h.bc (by decide)
  have K2 : Kept (fun b => ev.ownBlock = some b ∨ b = w.heap.size + 1 + 1) wr (w5.setCell ⟨w.heap.size + 1 + 1, 6, none⟩ v5) := (K.mono (fun b e _ => .inl e)).trans (Kept.setCell w5 ⟨w.heap.size + 1 + 1, 6, none⟩ v5) (fun b e _ => .inr e)
  have ty2 : ∀ {F : TypeId}, F ≠ 3 → F ≠ 63 → ∀ b, (ev.ownBlock = some b ∨ b = w.heap.size + 1 + 1) → b < wr.heap.size → ∀ cs, wr.heap[b]? ≠ some (.cells cs F (0, 0)) := by
    rintro F h1 h2 b (e | rfl) hb cs hc
    · exact h.ty h.ends h1 b e hb cs hc
    · rw [h.bc] at hc; cases hc; exact h2 rfl
  refine ⟨?_, ?_, by simpa using heap_setCell_at (k := 6) g v5, h.words.keptT K2 ?_ ?_, h.nulls.keptT K2 (ty2 (by decide) (by decide)), h.data.keptT K2 (ty2 (by decide) (by decide)), ?_, h.apart, (h.bel.trans (K.to_below h.bel.size (fun b e => (h.ends.lt b e).1))).setCell (by simp; omega) _⟩
  · rw [Below.heap_setCell _ _ _ _ (by simp; omega)]; exact bx h.bt (by decide)
  · rw [Below.heap_setCell _ _ _ _ (by simp)]; exact bx h.br (by decide)
  · rintro E (rfl | rfl) <;> exact ty2 (by decide) (by decide)
  · intro j v hj b e e2
    obtain ⟨_, cur, hg⟩ := h.word_lt v (List.mem_of_getElem? hj) b e
    exact ty2 (by decide) (by decide) b e2 (lt_of_blk hg) _ hg
  · have := hA.own.set_other (a := ⟨w.heap.size + 1 + 1, 6, none⟩) (hA.own.blk_ne g (by decide)) v5
    rw [List.length_append, List.map_append]
    exact this
theorem LX.word {w5 : World} {t : List Int} {wv' : Value} {vals' : List Value} (h : LX w wr k s n c nv dv ev wv vals) (hw : W17 w5 w.heap.size (w.heap.size + 1 + 1 + 1) (addWord c.words t) wv' vals') (K : Kept (fun b => b = w.heap.size + 1 + 1 + 1 ∨ wv.ownBlock = some b) wr w5) (hv : ∀ v ∈ vals', v ∈ vals ∨ ∀ b, v.ownBlock = some b → wr.heap.size ≤ b) :
    LX w w5 k s n ⟨c.nulls, c.data, c.ends, addWord c.words t⟩ nv dv ev wv' vals' := by
  have ty2 : ∀ {F : TypeId}, F ≠ 43 → F ≠ 148 → ∀ b, (b = w.heap.size + 1 + 1 + 1 ∨ wv.ownBlock = some b) → b < wr.heap.size → ∀ cs, wr.heap[b]? ≠ some (.cells cs F (0, 0)) := by
    rintro F h1 h2 b (rfl | e) hb cs hc
    · rw [h.words.blk] at hc; cases hc; exact h2 rfl
    · exact h.ty h.words.row h1 b e hb cs hc
  have bx : ∀ {i : Nat} {cs : Array Value} {F : TypeId}, wr.heap[i]? = some (.cells cs F (0, 0)) → F ≠ 43 → F ≠ 148 → w5.heap[i]? = some (.cells cs F (0, 0)) := fun {i cs F} hi h1 h2 => (K.block _ (lt_of_blk hi) (fun e => ty2 h1 h2 i e (lt_of_blk hi) _ hi)).trans hi
  refine ⟨bx h.bt (by decide) (by decide), bx h.br (by decide) (by decide), bx h.bc (by decide) (by decide), hw, h.nulls.keptT K (ty2 (by decide) (by decide)), h.data.keptT K (ty2 (by decide) (by decide)), h.ends.keptT K (ty2 (by decide) (by decide)), ?_, h.bel.trans (K.to_below h.bel.size (fun b e => by
    rcases e with rfl | e
    · omega
    · exact (h.words.row.lt b e).1))⟩
  intro v hv' b e e2
  rcases hv v hv' with h1 | h1
  · exact h.apart v h1 b e e2
  · have := h1 b e
    have := (h.data.lt b e2).2
    omega
end Go.Proofs.YtmhjjhaipcgbiaaGreat


namespace Go.Proofs.YtmhjjhaipcgbiaaGreat
open Go.RowKit Go.Shelf
set_option linter.unusedVariables false
theorem calls_of_marks {P : Program} {f : FuncId} {fn : Func} {c : Code} {args : Array Value} {w : World} {R : Ending → World → Prop} (hf : P.funcs[f]? = some fn) (hb : fn.body = some c)
    (h : c.wp P (bodyPostM Fence.wide 9 P fn R) { tmps := args ++ Array.replicate (fn.ntmps - args.size) undef, defers := [] } w) : Calls P f args w R :=
  callsIn_wide.1 (callsIn_of_wp_marks hf hb trivial (wpIn_wide.2 h) rfl)
theorem left_marks {P : Program} {fn : Func} {tmps : Array Value} {R : Ending → World → Prop} {W : World} {D : Nat} (hK : W.heap[D]? = some (.deferred (some [])))
    {v : Value} (hr : (results fn tmps).run P (W.putObj D (.deferred none)) = .ok v (W.putObj D (.deferred none))) (h : R (.returned v) (W.putObj D (.deferred none))) :
    LeavesInM Fence.wide 9 P fn tmps R [{ target := .collected D, args := #[] }] .returning W :=
  ⟨by simp, .inl ⟨_, _, rfl, run_takeDeferred hK, ⟨v, hr, h⟩⟩⟩
theorem wp_range {P : Program} {α : Type} {g : Operand} {ps : Array Tmp} {assign body : Code} {Q : Exit → Act → World → Prop} {a : Act} {w : World}
    {gf : Nat} {lb : Array Value} (hg : a.eval g = .func (.func gf) #[] lb) (eg : ∀ args w, (callFunc gf args).run P w = .ok (.enter gf args) w)
    {encs : α → Array Value} {Kp : World → World → Prop} {S Sp : List α → Prop} {N : Nat} {w0 : World} (hseq : SeqStopsK Fence.wide 8 P gf lb encs Kp S Sp N w0)
    (hKt : ∀ {A B C : World}, Kp A B → Kp B C → Kp A C) (hKb : ∀ (W : World) (l : Nat) (o o' : Obj), w.heap.size ≤ l → W.heap[l]? = some o → o.isCells = false → o.isWalk = false → Kp W (W.putObj l o')) (hb0 : Below w0.heap.size w0 w) (hps : ∀ x, (encs x).size = ps.size)
    (I : List α → World → Prop) (Ix : Go.Code → List α → World → Prop) (hI : OwnFrom w.heap.size I) (hIx : ∀ c, OwnFrom w.heap.size (Ix c)) (h0 : I [] w) (a₁ : α → Act)
    (hassign : ∀ (l : Nat) (x : α) (W : World) (K : Act → World → Prop), K (a₁ x) W →
      assign.wpIn (Fence.wide.inRound l) 7 P (Exit.then K (fun _ _ _ => False)) { tmps := (ps.zip (encs x)).foldl (fun t (p, v) => t.setIfInBounds p v) a.tmps, defers := [] } W)
    (hbody : ∀ (l : Nat) (pre : List α) (x : α) (W : World), I pre W → pre.length < N → body.wpIn (Fence.wide.inRound l) 7 P (ownPostG w.heap.size Kp I Ix (pre ++ [x]) W) (a₁ x) W)
    (hdone : ∀ (D : Nat) (xs : List α) (W : World), w.heap.size ≤ D → S xs → I xs W → W.heap[D]? = some (.deferred (some [])) → Q .normal { a with defers := { target := .collected D, args := #[] } :: a.defers } W)
    (hstop : ∀ (D : Nat) (c : Go.Code) (pre : List α) (W : World), w.heap.size ≤ D → Sp pre → Ix c pre W → W.heap[D]? = some (.deferred (some [])) → c.wp P Q { a with defers := { target := .collected D, args := #[] } :: a.defers } W) :
    (Code.rangeFunc g ps assign body).wp P Q a w :=
  wpIn_wide.1 (wpIn_rangeFunc_ownG (F := Fence.wide) (n := 9) rfl (by decide) hg trivial eg hseq hKt hKb hb0 hps I Ix hI hIx h0 a₁ hassign hbody hdone (fun D c pre W h1 h2 h3 h4 => wpIn_wide.2 (hstop D c pre W h1 h2 h3 h4)))
theorem Own.from_ {w w' : World} {base : Nat} {E : TypeId} {sz n : Nat} {v : Value} {xs : List Value} {row : Option Nat} (h : Own w base E sz v n xs) (hg : w.grownBy w' row) (hr : ∀ r, row = some r → ∃ o : Obj, w.heap[r]? = some o ∧ o.isCells = false) : Own w' base E sz v n xs := by
  refine h.moved (fun k hk => hg.block k (h.lt k hk).2 (fun e => ?_))
  obtain ⟨o, ho, hc⟩ := hr k e.symm
  rcases h.2 with ⟨rfl, _⟩ | ⟨g, off, cap, cur, rfl, _, hgb, _⟩
  · cases hk
  · cases hk; rw [hgb] at ho; cases ho; cases hc
theorem blk_from {w w' : World} {b : Nat} {cs : Array Value} {T : TypeId} {fr : Nat × Nat} {row : Option Nat} (h : w.heap[b]? = some (.cells cs T fr)) (hg : w.grownBy w' row) (hr : ∀ r, row = some r → ∃ o : Obj, w.heap[r]? = some o ∧ o.isCells = false) : w'.heap[b]? = some (.cells cs T fr) := by
  refine (hg.block b (lt_of_blk h) (fun e => ?_)).trans h
  obtain ⟨o, ho, hc⟩ := hr b e.symm
  rw [h] at ho; cases ho; cases hc
end Go.Proofs.YtmhjjhaipcgbiaaGreat


namespace Go.Proofs.YtmhjjhaipcgbiaaGreat
open Go.RowKit Go.Shelf
set_option linter.unusedVariables false
def SeqV (P : Program) (gf : Nat) (lb : Array Value) (encs : Nat → Value → Array Value) (D : Nat → Value → World → Prop) (Good : World → Prop) (N : Nat) : Prop :=
  ∀ (l : Nat) (J : Nat → World → Prop) (Jx : World → Prop) (W : World),
    (∀ k A B, J k A → Below A.heap.size A B → J k B) → (∀ k A, J k A → Good A) →
    (∀ k v W1, k < N → J k W1 → D k v W1 → YieldAt Fence.wide 7 P l (encs k v) W1 fun e W' => (e = .returned (.bool true) ∧ J (k + 1) W') ∨ (e = .returned (.bool false) ∧ Jx W')) →
    J 0 W → CallsIn Fence.wide 8 P gf (#[.func (.yield l) #[] #[]] ++ lb) W fun e W' => (∃ v, e = .returned v) ∧ (J N W' ∨ Jx W')
def Bk (b : Nat) (A B : World) : Prop := ∀ k, k = b ∨ k = b + 1 → B.heap[k]? = A.heap[k]?
def roundV (b : Nat) (I : World → Prop) (Ix : Code → World → Prop) (A : World) : Exit → Act → World → Prop
  | .normal, _, W' => Bk b A W' ∧ I W'
  | .ret, _, W' => Bk b A W' ∧ Ix .ret W'
  | .exit id, _, W' => Bk b A W' ∧ Ix (.exit id) W'
  | .goto t, _, W' => Bk b A W' ∧ Ix (.goto t) W'
  | .panic _, _, _ => False
  | .outgrown, _, _ => False
def Marks (b : Nat) (W : World) : Prop := (∃ o, W.heap[b]? = some (.deferred o)) ∧ ∃ r, W.heap[b + 1]? = some (.loop r)
theorem Rd.marks {W W' : World} {sz n b : Nat} {v : Value} {xs : List Value} (h : Rd W sz v n xs) (hm : Marks b W) (hk : Kept (fun k => k = b ∨ k = b + 1) W W') : Rd W' sz v n xs := by
  obtain ⟨hl, a, cap, rfl, h1, h2, h3, h4⟩ := h
  refine ⟨hl, a, cap, rfl, h1, h2, h3, fun j u hu => ?_⟩
  obtain ⟨g, off, rfl, hc⟩ := h4 j u hu
  refine ⟨g, off, rfl, hk.cell hc ?_⟩
  obtain ⟨⟨o, ho⟩, r, hr⟩ := hm
  rintro (e | e)
  · simp only at e
    rw [e] at hc
    simp [World.cell?, ho] at hc
  · simp only at e
    rw [e] at hc
    simp [World.cell?, hr] at hc
theorem kept_putObj {W : World} {l b : Nat} {o : Obj} (h : l = b ∨ l = b + 1) : Kept (fun k => k = b ∨ k = b + 1) W (W.putObj l o) :=
  ⟨rfl, rfl, rfl, by simp, fun k hk hn => World.putObj_heap_other (fun e => hn (e ▸ h))⟩
theorem below_two (w : World) (o1 o2 : Obj) : Below w.heap.size w ((w.alloc o1).alloc o2) ∧ ((w.alloc o1).alloc o2).heap.size = w.heap.size + 2 ∧
    ((w.alloc o1).alloc o2).heap[w.heap.size]? = some o1 ∧ ((w.alloc o1).alloc o2).heap[w.heap.size + 1]? = some o2 := by
  refine ⟨((Below.refl _ w).alloc (Nat.le_refl _) _).alloc (by simp) _, by simp, ?_, ?_⟩
  · exact (Below.heap_alloc _ _ _ (by simp)).trans (World.alloc_heap_new w _)
  · have := World.alloc_heap_new (w.alloc o1) o2
    rwa [World.size_alloc] at this
theorem wp_seq {P : Program} {g : Operand} {ps : Array Tmp} {assign body : Code} {Q : Exit → Act → World → Prop} {a : Act} {w : World}
    {gf : Nat} {lb : Array Value} (hg : a.eval g = .func (.func gf) #[] lb) (eg : ∀ args w, (callFunc gf args).run P w = .ok (.enter gf args) w)
    {encs : Nat → Value → Array Value} {D : Nat → Value → World → Prop} {Good : World → Prop} {N : Nat} (hseq : SeqV P gf lb encs D Good N) (hps : ∀ k v, (encs k v).size = ps.size)
    (I : Nat → World → Prop) (Ix : Code → World → Prop) (hIG : ∀ k A, I k A → Good A)
    (hI : ∀ k A B, Kept (fun k => k = w.heap.size ∨ k = w.heap.size + 1) A B → I k A → I k B) (hIx : ∀ c A B, Kept (fun k => k = w.heap.size ∨ k = w.heap.size + 1) A B → Ix c A → Ix c B)
    (h0 : ∀ W, Below w.heap.size w W → W.heap.size = w.heap.size + 2 → I 0 W)
    (hround : ∀ l k v W, k < N → I k W → D k v W → w.heap.size + 1 < W.heap.size → Marks w.heap.size W → assign.wpIn (Fence.wide.inRound l) 7 P (Exit.then (fun a₁ W₁ => Bk w.heap.size W W₁ ∧
        ∀ W₂, Kept (fun k => k = w.heap.size ∨ k = w.heap.size + 1) W₁ W₂ → W₂.heap.size = W₁.heap.size →
          body.wpIn (Fence.wide.inRound l) 7 P (roundV w.heap.size (I (k + 1)) Ix W₂) a₁ W₂) (fun _ _ _ => False))
      { tmps := (ps.zip (encs k v)).foldl (fun t (p, v) => t.setIfInBounds p v) a.tmps, defers := [] } W)
    (hdone : ∀ W, I N W → W.heap[w.heap.size]? = some (.deferred (some [])) → Q .normal { a with defers := { target := .collected w.heap.size, args := #[] } :: a.defers } W)
    (hstop : ∀ c W, Ix c W → W.heap[w.heap.size]? = some (.deferred (some [])) → c.wp P Q { a with defers := { target := .collected w.heap.size, args := #[] } :: a.defers } W) :
    (Code.rangeFunc g ps assign body).wp P Q a w := by
  refine wpIn_wide.1 (wpIn_rangeFunc (F := Fence.wide) (n := 9) fun fn hfn => ?_)
  let rec_ : LoopState → Option Code → Loop := fun st pe => { state := st, pending := pe, fn, tmps := a.tmps, params := ps, assign, body, defers := w.heap.size }
  obtain ⟨t1, t2, t3, t4⟩ := below_two w (.deferred (some [])) (.loop (rec_ .ready none))
  generalize hW1 : (w.alloc (.deferred (some []))).alloc (.loop (rec_ .ready none)) = W1 at t1 t2 t3 t4
  refine ⟨w.heap.size + 1, [{ target := .collected w.heap.size, args := #[] }], W1, { target := .fn (.func gf) lb, args := #[.func (.yield (w.heap.size + 1)) #[] #[]] }, W1, gf,
    #[.func (.yield (w.heap.size + 1)) #[] #[]] ++ lb, W1, ?_, ?_, ?_, ?_, fun _ => by decide, ?_⟩
  · rw [← hW1]; exact run_enterLoop_outer _ _ _ _ _
  · simp only [resolve, hg]
    simp [go_sem]
  · intro f' hf'; trivial
  · simp [invoke, go_sem, eg]
  refine (hseq (w.heap.size + 1) (fun k A => I k A ∧ A.heap[w.heap.size + 1]? = some (.loop (rec_ .ready none)) ∧ A.heap[w.heap.size]? = some (.deferred (some [])))
    (fun A => ∃ c, Ix c A ∧ A.heap[w.heap.size + 1]? = some (.loop (rec_ .done (some c))) ∧ A.heap[w.heap.size]? = some (.deferred (some []))) W1 ?_ (fun k A h => hIG k A h.1) ?_ ⟨h0 W1 t1 t2, t4, t3⟩).mono ?_
  · rintro k A B ⟨h1, h2, h3⟩ hb
    exact ⟨hI k A B (Kept.of_below hb) h1, (hb.block _ (lt_of_blk h2)).trans h2, (hb.block _ (lt_of_blk h3)).trans h3⟩
  · rintro k v A hk ⟨h1, h2, h3⟩ hd
    have hlt := lt_of_blk h2
    refine ⟨fn, _, assign, body, run_yield (P := P) (args := encs k v) h2 (hps k v), roundIn_of_wpIn hfn (wpIn_mono (hround _ k v A hk h1 hd hlt ⟨⟨_, h3⟩, ⟨_, h2⟩⟩) ?_)⟩
    rintro e a1 W₁ hp
    cases e with
    | normal =>
      obtain ⟨hb1, hbody⟩ := hp
      have h2' := (hb1 _ (.inr rfl)).trans h2
      have h3' := (hb1 _ (.inl rfl)).trans h3
      refine ⟨_, run_beginRound h2' rfl, wpIn_mono (hbody _ (kept_putObj (.inr rfl)) (by simp)) ?_⟩
      have hl2 : (W₁.putObj (w.heap.size + 1) (.loop { rec_ .ready none with state := .busy })).heap[w.heap.size + 1]? = some (.loop { rec_ .ready none with state := .busy }) := World.putObj_heap_same (lt_of_blk h2')
      have hk2 : (W₁.putObj (w.heap.size + 1) (.loop { rec_ .ready none with state := .busy })).heap[w.heap.size]? = some (.deferred (some [])) := (World.putObj_heap_other (by omega)).trans h3'
      have fin : ∀ (j : Option Code) (W3 : World), Bk w.heap.size (W₁.putObj (w.heap.size + 1) (.loop { rec_ .ready none with state := .busy })) W3 →
          (Instr.endRound (w.heap.size + 1) j).run P W3 = .ok (.bool j.isNone) (W3.putObj (w.heap.size + 1) (.loop (rec_ (if j.isNone then .ready else .done) j))) ∧
          (W3.putObj (w.heap.size + 1) (.loop (rec_ (if j.isNone then .ready else .done) j))).heap[w.heap.size + 1]? = some (.loop (rec_ (if j.isNone then .ready else .done) j)) ∧
          (W3.putObj (w.heap.size + 1) (.loop (rec_ (if j.isNone then .ready else .done) j))).heap[w.heap.size]? = some (.deferred (some [])) := fun j W3 hb3 => by
        have hl3 := (hb3 _ (.inr rfl)).trans hl2
        exact ⟨run_endRound (P := P) j hl3, World.putObj_heap_same (lt_of_blk hl3), (World.putObj_heap_other (by omega)).trans ((hb3 _ (.inl rfl)).trans hk2)⟩
      rintro e a3 W3 hp3
      cases e with
      | normal => obtain ⟨hb3, hi3⟩ := hp3; obtain ⟨hr, q1, q2⟩ := fin none W3 hb3; exact ⟨_, _, hr, .inl ⟨rfl, hI _ _ _ (kept_putObj (.inr rfl)) hi3, q1, q2⟩⟩
      | ret => obtain ⟨hb3, hi3⟩ := hp3; obtain ⟨hr, q1, q2⟩ := fin (some .ret) W3 hb3; exact ⟨_, _, hr, .inr ⟨rfl, _, hIx _ _ _ (kept_putObj (.inr rfl)) hi3, q1, q2⟩⟩
      | exit id => obtain ⟨hb3, hi3⟩ := hp3; obtain ⟨hr, q1, q2⟩ := fin (some (.exit id)) W3 hb3; exact ⟨_, _, hr, .inr ⟨rfl, _, hIx _ _ _ (kept_putObj (.inr rfl)) hi3, q1, q2⟩⟩
      | goto t => obtain ⟨hb3, hi3⟩ := hp3; obtain ⟨hr, q1, q2⟩ := fin (some (.goto t)) W3 hb3; exact ⟨_, _, hr, .inr ⟨rfl, _, hIx _ _ _ (kept_putObj (.inr rfl)) hi3, q1, q2⟩⟩
      | panic ch => exact hp3.elim
      | outgrown => exact hp3.elim
    | ret => exact hp.elim
    | exit id => exact hp.elim
    | goto t => exact hp.elim
    | panic ch => exact hp.elim
    | outgrown => exact hp.elim
  · rintro e W2 ⟨⟨v, rfl⟩, ⟨h1, h2, h3⟩ | ⟨c, h1, h2, h3⟩⟩
    · have := run_endLoop (P := P) h2 (by simp [rec_])
      refine ⟨none, _, this, ?_⟩
      refine hdone _ (hI _ _ _ (kept_putObj (.inr rfl)) h1) ((World.putObj_heap_other (by omega)).trans h3)
    · have := run_endLoop (P := P) h2 (by simp [rec_])
      refine ⟨some c, _, this, ?_⟩
      exact wpIn_wide.2 (hstop c _ (hIx _ _ _ (kept_putObj (.inr rfl)) h1) ((World.putObj_heap_other (by omega)).trans h3))
end Go.Proofs.YtmhjjhaipcgbiaaGreat


namespace Go.Proofs.YtmhjjhaipcgbiaaGreat
open Go.RowKit
set_option linter.unusedVariables false
set_option linter.unusedSimpArgs false
set_option maxRecDepth 100000
set_option maxHeartbeats 4000000
attribute [local go_sem] Oper.semAt_some
def valC (c : Col) (i : Nat) : V := if nullB c.bits i then ⟨true, 0, []⟩ else ⟨false, (valueC c i).1, (valueC c i).2⟩
def valV (v : V) (ta : Option Addr) (tc : Nat) : Value := .agg #[.int .u64 (v.bits : Int), .slice ta v.text.length tc, .bool v.null]
def EachD (c : Col) (i : Nat) (v : Value) (W : World) : Prop := ∃ ta tc, v = valV (valC c i) ta tc ∧ Rd W 1 (.slice ta (valC c i).text.length tc) (valC c i).text.length ((valC c i).text.map (.int .u8))
def EachG (c : Col) (B D E X : SL) (vals : List Value) (Bs : Nat) (W : World) : Prop := RdC W c B D E X vals ∧ W.heap[Bs]? = some (.cells #[.int .i64 c.k, .int .i64 c.s, .int .i64 c.n, .int .i64 c.m, .slice B.a c.bits.length B.c, .slice D.a c.data.length D.c, .slice E.a c.ends.length E.c, .slice X.a c.words.length X.c] 63 (0, 0))
theorem check_len {c : Col} (h : checkC c = 0) : ∃ N : Nat, c.n = (N : Int) := by
  obtain ⟨_, h2, h3, _⟩ := check_zero h
  have : 0 ≤ c.m := by unfold maskOK at h2; rw [decide_eq_true_eq] at h2; exact h2.1
  exact ⟨c.n.toNat, by omega⟩
theorem eachD_null {c : Col} {i : Nat} (h : nullB c.bits i = true) (W : World) : EachD c i (.agg #[.int .u64 0, .slice none 0 0, .bool true]) W :=
  ⟨none, 0, by simp [valC, h, valV], by simp [valC, h]; exact Rd.nil _ _⟩
theorem eachD_val {c : Col} {i : Nat} (h : nullB c.bits i = false) {W : World} {a : Option Addr} {cap : Nat} (hr : Rd W 1 (.slice a (valueC c i).2.length cap) (valueC c i).2.length ((valueC c i).2.map (.int .u8))) : EachD c i (.agg #[.int .u64 ((valueC c i).1 : Int), .slice a (valueC c i).2.length cap, .bool false]) W :=
  ⟨a, cap, by simp [valC, h, valV], by simpa [valC, h] using hr⟩
theorem box3 {w : World} {b : Nat} {x0 x1 x2 : Value} {T : TypeId} (h : w.heap[b]? = some (.cells #[x0, x1, x2] T (0, 0))) : w.cell? ⟨b, 0, none⟩ = some x0 ∧ w.cell? ⟨b, 1, none⟩ = some x1 ∧ w.cell? ⟨b, 2, none⟩ = some x2 := by
  refine ⟨?_, ?_, ?_⟩ <;> (rw [cell_blk h]; rfl)
theorem box_new (w : World) (x0 x1 x2 : Value) {b : Nat} {o : Obj} (h : w.heap[b]? = some o) :
    Below w.heap.size w (w.alloc (.cells #[x0, x1, x2] 145)) ∧ (w.alloc (.cells #[x0, x1, x2] 145)).heap[w.heap.size]? = some (.cells #[x0, x1, x2] 145 (0, 0)) ∧ (w.alloc (.cells #[x0, x1, x2] 145)).heap[b]? = some o :=
  ⟨(Below.refl _ w).alloc (Nat.le_refl _) _, heap_alloc_new w _, (Below.heap_alloc w _ b (lt_of_blk h)).trans h⟩
theorem each_set {w w3 w4 : World} {v : Value} {n : Nat} {xs : List Value} (hs : w.heap.size < w3.heap.size) (b3 : Below w.heap.size w w3) (b4 : Below w3.heap.size w3 w4) (h : Own w4 w3.heap.size 5 1 v n xs) (x1 x2 x3 : Value) :
    Below w.heap.size w (((w4.setCell ⟨w.heap.size, 0, none⟩ x1).setCell ⟨w.heap.size, 1, none⟩ x2).setCell ⟨w.heap.size, 2, none⟩ x3) ∧ Rd (((w4.setCell ⟨w.heap.size, 0, none⟩ x1).setCell ⟨w.heap.size, 1, none⟩ x2).setCell ⟨w.heap.size, 2, none⟩ x3) 1 v n xs := by
  have hne : v.ownBlock ≠ some w.heap.size := fun e => by have := (h.lt _ e).1; omega
  exact ⟨(((b3.trans (b4.mono b3.size)).setCell (Nat.le_refl _) _).setCell (Nat.le_refl _) _).setCell (Nat.le_refl _) _,
    (((h.set_other (a := ⟨w.heap.size, 0, none⟩) hne _).set_other (a := ⟨w.heap.size, 1, none⟩) hne _).set_other (a := ⟨w.heap.size, 2, none⟩) hne _).rd⟩
theorem of_ck (c : Col) (h : c.k = 16) (w : World) : Calls Tryz.prog 86 #[.agg #[.int .i64 c.k, .int .i64 c.s]] w (IfP (.iface 167 (.agg #[.int .i64 4])) w) := by rw [h]; exact of_c c.s w
theorem of_rk (c : Col) (h : c.k = 15) (w : World) : Calls Tryz.prog 86 #[.agg #[.int .i64 c.k, .int .i64 c.s]] w (IfP (.iface 162 (.agg #[])) w) := by rw [h]; exact of_r c.s w
theorem each1_f (c : Col) (h1 : c.k ≠ 15) (h2 : c.k ≠ 16) {V : Nat} (hW : widthOf c.k = (V : Int)) (hc : COK c) (B D E X : SL) (vals : List Value) (hr : checkC c = 0) (Bs N : Nat) (hn : c.n = (N : Int))
    (hval : ∀ i : Nat, i < N → nullB c.bits i = false → ∀ w2, RdC w2 c B D E X vals → Calls Tryz.prog 221 #[.agg #[.int .i64 (V : Int)], colV c B D E X, .int .i64 (i : Int)] w2 (ValP (valueC c i).1 (valueC c i).2 w2)) :
    SeqV Tryz.prog 150 #[.pointer (some ⟨Bs, 0, none⟩)] (fun k v => #[.int .i64 (k : Int), v]) (EachD c) (EachG c B D E X vals Bs) N := by
  intro l J Jx W hJ hG hY h0
  have HC := Aside.mk hc
  have HR := Aside.mk hr
  have HN := Aside.mk hn
  have hIN : c.n ≤ 9223372036854775807 := hc.n.2
  have hnull := Aside.mk (fun (i : Nat) (hi : i < N) (w2 : World) (h : RdC w2 c B D E X vals) => null_any c B D E X i (check_bits hr (by omega)) hc.bits hc.lb w2 h.bits)
  have hval := Aside.mk hval
  clear hc hr
  dsimp only [colV] at hnull hval
  unfold EachG at hG
  obtain ⟨g1, g2⟩ := hG 0 W h0
  obtain ⟨c0, c1, c2, c3, c4, c5, c6, c7⟩ := box8 g2
  have HG := Aside.mk hG
  have HY := Aside.mk hY
  have HJ := Aside.mk hJ
  have H1 := Aside.mk h1
  have H2 := Aside.mk h2
  have HWW := Aside.mk hW
  clear g1 g2 hG hY hJ h1 h2 hW hn
  show CallsIn Fence.wide 8 Tryz.prog 150 #[.func (.yield l) #[] #[], .pointer (some ⟨Bs, 0, none⟩)] W _
  refine callsIn_of_wp Tryz.func150 rfl trivial ?_ rfl; simp only [Tryz.ntmps150, List.size_toArray, List.length_cons, List.length_nil, Nat.reduceAdd, Nat.reduceSub, Array.replicate_succ, Array.replicate_zero, List.push_toArray, List.append_toArray, List.nil_append, List.cons_append]
  gi_wp2_with (refine ⟨trivial, ?_⟩; gi_at_call 86; refine (callsIn_wide.2 (of_f c.k c.s H1.out H2.out HWW.out _)).mono ?_; rintro e w2 ⟨rfl, hb2⟩; replace h0 := HJ.out _ _ _ h0 hb2; clear c0 c1 c2 c3 c4 c5 c6 c7; obtain ⟨g1, g2⟩ := HG.out 0 w2 h0; obtain ⟨c0, c1, c2, c3, c4, c5, c6, c7⟩ := box8 g2; clear g1 g2)
  gi_loopw [11] (fun i wr => ∃ k : Nat, k ≤ N ∧ i = .int .i64 k ∧ J k wr) (fun i _ => N - (intOf i).toNat)
  case atStart => exact ⟨0, Nat.zero_le _, rfl, h0⟩
  case round =>
    obtain ⟨k, hk, rfl, hJs⟩ := hrel
    clear c0 c1 c2 c3 c4 c5 c6 c7 h0 hb2
    by_cases hlt : k < N
    · have hlt2 : (k : Int) < c.n := by rw [HN.out]; omega
      obtain ⟨g1, g2⟩ := HG.out k wr hJs
      obtain ⟨c0, c1, c2, c3, c4, c5, c6, c7⟩ := box8 g2
      have HGB := Aside.mk g2
      clear g1 g2
      cases hnl : nullB c.bits k with
      | true =>
        have HNL := Aside.mk hnl
        have hnull2 := Aside.mk (hnull.out k hlt)
        rw [hnl] at hnull2
        clear hnl
        obtain ⟨hbA, q, hXA⟩ := box_new wr (.int .u64 0) (.slice none 0 0) (.bool true) HGB.out
        obtain ⟨d0, d1, d2, d3, d4, d5, d6, d7⟩ := box8 hXA
        have HB := Aside.mk hbA
        have HQ := Aside.mk q
        clear hbA q hXA
        gi_wp2_with (refine ⟨trivial, ?_⟩; gi_at_call 129; refine (callsIn_wide.2 (hnull2.out _ (HG.out k _ (HJ.out _ _ _ hJs HB.out)).1)).mono ?_; rintro e w3 ⟨rfl, hb3⟩; obtain ⟨q0, q1, q2⟩ := box3 ((hb3.block _ (lt_of_blk HQ.out)).trans HQ.out); obtain ⟨fn, tmps, assign, body, hy, hR⟩ := HY.out k _ w3 hlt (HJ.out _ _ _ hJs (below_chain HB.out hb3)) (eachD_null HNL.out w3); clear hb3)
        refine hR.mono ?_
        rintro e W3 (⟨rfl, hJ3⟩ | ⟨rfl, hJx3⟩)
        · gi_wp2
          go_roundw
          case rel => exact ⟨k + 1, by omega, by go_num, hJ3⟩
          case measure => simp [intOf]; omega
        · gi_wp2
          refine bodyPost_ret (results_none rfl _ _ _) rfl ?_
          exact ⟨⟨_, rfl⟩, .inr hJx3⟩
      | false =>
        have HNL := Aside.mk hnl
        have hnull2 := Aside.mk (hnull.out k hlt)
        have hval2 := Aside.mk (hval.out k hlt hnl)
        have HED := Aside.mk (fun (W : World) (a : Option Addr) (cap : Nat) => eachD_val (c := c) (i := k) hnl (W := W) (a := a) (cap := cap))
        rw [hnl] at hnull2
        clear hnl
        generalize (valueC c k).1 = vb at hval2 HED
        generalize (valueC c k).2 = vt at hval2 HED
        obtain ⟨hbA, q, hXA⟩ := box_new wr (.int .u64 0) (.slice none 0 0) (.bool true) HGB.out
        obtain ⟨d0, d1, d2, d3, d4, d5, d6, d7⟩ := box8 hXA
        have HB := Aside.mk hbA
        have HQ := Aside.mk q
        have HXA := Aside.mk hXA
        clear hbA q hXA
        have hmeth := meth_f
        gi_wp2_with (first
          | (refine ⟨trivial, ?_⟩; gi_at_call 129; refine (callsIn_wide.2 (hnull2.out _ (HG.out k _ (HJ.out _ _ _ hJs HB.out)).1)).mono ?_; rintro e w3 ⟨rfl, hb3⟩; obtain ⟨e0, e1, e2, e3, e4, e5, e6, e7⟩ := box8 ((hb3.block _ (lt_of_blk HXA.out)).trans HXA.out); have HQ3 := Aside.mk ((hb3.block _ (lt_of_blk HQ.out)).trans HQ.out); have HB3 := Aside.mk (below_chain HB.out hb3); have HS3 := Aside.mk (Nat.lt_of_lt_of_le (lt_of_blk HQ.out) hb3.size); clear hb3)
          | (refine ⟨trivial, ?_⟩; gi_at_call 221; refine (callsIn_wide.2 (hval2.out _ (HG.out k _ (HJ.out _ _ _ hJs HB3.out)).1)).mono ?_; rintro e w4 ⟨va, vc, rfl, ho, hb4⟩; have hq4 := (hb4.block _ (lt_of_blk HQ3.out)).trans HQ3.out; obtain ⟨q0, q1, q2⟩ := box3 hq4; have z0 := frozen_blk (k := 0) hq4; have z1 := frozen_blk (k := 1) hq4; have z2 := frozen_blk (k := 2) hq4; have hlt4 := lt_of_blk hq4; obtain ⟨hJ5, hR5⟩ := each_set HS3.out HB3.out hb4 ho (.int .u64 (vb : Int)) (.slice va vt.length vc) (.bool false); obtain ⟨fn, tmps, assign, body, hy, hR⟩ := HY.out k _ _ hlt (HJ.out _ _ _ hJs hJ5) (HED.out _ _ _ hR5); clear hb4 ho hJ5 hR5 hq4))
        refine hR.mono ?_
        rintro e W3 (⟨rfl, hJ3⟩ | ⟨rfl, hJx3⟩)
        · gi_wp2
          go_roundw
          case rel => exact ⟨k + 1, by omega, by go_num, hJ3⟩
          case measure => simp [intOf]; omega
        · gi_wp2
          refine bodyPost_ret (results_none rfl _ _ _) rfl ?_
          exact ⟨⟨_, rfl⟩, .inr hJx3⟩
    · obtain rfl : k = N := by omega
      have hlt2 : ¬ ((k : Int) < c.n) := by rw [HN.out]; omega
      gi_wp2
      go_end0
      exact ⟨⟨_, rfl⟩, .inl hJs⟩
theorem each1_c (c : Col) (h1 : c.k = 16) (hc : COK c) (B D E X : SL) (vals : List Value) (hr : checkC c = 0) (Bs N : Nat) (hn : c.n = (N : Int))
    (hval : ∀ i : Nat, i < N → nullB c.bits i = false → ∀ w2, RdC w2 c B D E X vals → Calls Tryz.prog 224 #[.agg #[.int .i64 4], colV c B D E X, .int .i64 (i : Int)] w2 (ValP (valueC c i).1 (valueC c i).2 w2)) :
    SeqV Tryz.prog 150 #[.pointer (some ⟨Bs, 0, none⟩)] (fun k v => #[.int .i64 (k : Int), v]) (EachD c) (EachG c B D E X vals Bs) N := by
  intro l J Jx W hJ hG hY h0
  have HC := Aside.mk hc
  have HR := Aside.mk hr
  have HN := Aside.mk hn
  have hIN : c.n ≤ 9223372036854775807 := hc.n.2
  have hnull := Aside.mk (fun (i : Nat) (hi : i < N) (w2 : World) (h : RdC w2 c B D E X vals) => null_any c B D E X i (check_bits hr (by omega)) hc.bits hc.lb w2 h.bits)
  have hval := Aside.mk hval
  clear hc hr
  dsimp only [colV] at hnull hval
  unfold EachG at hG
  obtain ⟨g1, g2⟩ := hG 0 W h0
  obtain ⟨c0, c1, c2, c3, c4, c5, c6, c7⟩ := box8 g2
  have HG := Aside.mk hG
  have HY := Aside.mk hY
  have HJ := Aside.mk hJ
  have H1 := Aside.mk h1
  clear g1 g2 hG hY hJ h1 hn
  show CallsIn Fence.wide 8 Tryz.prog 150 #[.func (.yield l) #[] #[], .pointer (some ⟨Bs, 0, none⟩)] W _
  refine callsIn_of_wp Tryz.func150 rfl trivial ?_ rfl; simp only [Tryz.ntmps150, List.size_toArray, List.length_cons, List.length_nil, Nat.reduceAdd, Nat.reduceSub, Array.replicate_succ, Array.replicate_zero, List.push_toArray, List.append_toArray, List.nil_append, List.cons_append]
  gi_wp2_with (refine ⟨trivial, ?_⟩; gi_at_call 86; refine (callsIn_wide.2 (of_ck c H1.out _)).mono ?_; rintro e w2 ⟨rfl, hb2⟩; replace h0 := HJ.out _ _ _ h0 hb2; clear c0 c1 c2 c3 c4 c5 c6 c7; obtain ⟨g1, g2⟩ := HG.out 0 w2 h0; obtain ⟨c0, c1, c2, c3, c4, c5, c6, c7⟩ := box8 g2; clear g1 g2)
  gi_loopw [11] (fun i wr => ∃ k : Nat, k ≤ N ∧ i = .int .i64 k ∧ J k wr) (fun i _ => N - (intOf i).toNat)
  case atStart => exact ⟨0, Nat.zero_le _, rfl, h0⟩
  case round =>
    obtain ⟨k, hk, rfl, hJs⟩ := hrel
    clear c0 c1 c2 c3 c4 c5 c6 c7 h0 hb2
    by_cases hlt : k < N
    · have hlt2 : (k : Int) < c.n := by rw [HN.out]; omega
      obtain ⟨g1, g2⟩ := HG.out k wr hJs
      obtain ⟨c0, c1, c2, c3, c4, c5, c6, c7⟩ := box8 g2
      have HGB := Aside.mk g2
      clear g1 g2
      cases hnl : nullB c.bits k with
      | true =>
        have HNL := Aside.mk hnl
        have hnull2 := Aside.mk (hnull.out k hlt)
        rw [hnl] at hnull2
        clear hnl
        obtain ⟨hbA, q, hXA⟩ := box_new wr (.int .u64 0) (.slice none 0 0) (.bool true) HGB.out
        obtain ⟨d0, d1, d2, d3, d4, d5, d6, d7⟩ := box8 hXA
        have HB := Aside.mk hbA
        have HQ := Aside.mk q
        clear hbA q hXA
        gi_wp2_with (refine ⟨trivial, ?_⟩; gi_at_call 129; refine (callsIn_wide.2 (hnull2.out _ (HG.out k _ (HJ.out _ _ _ hJs HB.out)).1)).mono ?_; rintro e w3 ⟨rfl, hb3⟩; obtain ⟨q0, q1, q2⟩ := box3 ((hb3.block _ (lt_of_blk HQ.out)).trans HQ.out); obtain ⟨fn, tmps, assign, body, hy, hR⟩ := HY.out k _ w3 hlt (HJ.out _ _ _ hJs (below_chain HB.out hb3)) (eachD_null HNL.out w3); clear hb3)
        refine hR.mono ?_
        rintro e W3 (⟨rfl, hJ3⟩ | ⟨rfl, hJx3⟩)
        · gi_wp2
          go_roundw
          case rel => exact ⟨k + 1, by omega, by go_num, hJ3⟩
          case measure => simp [intOf]; omega
        · gi_wp2
          refine bodyPost_ret (results_none rfl _ _ _) rfl ?_
          exact ⟨⟨_, rfl⟩, .inr hJx3⟩
      | false =>
        have HNL := Aside.mk hnl
        have hnull2 := Aside.mk (hnull.out k hlt)
        have hval2 := Aside.mk (hval.out k hlt hnl)
        have HED := Aside.mk (fun (W : World) (a : Option Addr) (cap : Nat) => eachD_val (c := c) (i := k) hnl (W := W) (a := a) (cap := cap))
        rw [hnl] at hnull2
        clear hnl
        generalize (valueC c k).1 = vb at hval2 HED
        generalize (valueC c k).2 = vt at hval2 HED
        obtain ⟨hbA, q, hXA⟩ := box_new wr (.int .u64 0) (.slice none 0 0) (.bool true) HGB.out
        obtain ⟨d0, d1, d2, d3, d4, d5, d6, d7⟩ := box8 hXA
        have HB := Aside.mk hbA
        have HQ := Aside.mk q
        have HXA := Aside.mk hXA
        clear hbA q hXA
        have hmeth := meth_c
        gi_wp2_with (first
          | (refine ⟨trivial, ?_⟩; gi_at_call 129; refine (callsIn_wide.2 (hnull2.out _ (HG.out k _ (HJ.out _ _ _ hJs HB.out)).1)).mono ?_; rintro e w3 ⟨rfl, hb3⟩; obtain ⟨e0, e1, e2, e3, e4, e5, e6, e7⟩ := box8 ((hb3.block _ (lt_of_blk HXA.out)).trans HXA.out); have HQ3 := Aside.mk ((hb3.block _ (lt_of_blk HQ.out)).trans HQ.out); have HB3 := Aside.mk (below_chain HB.out hb3); have HS3 := Aside.mk (Nat.lt_of_lt_of_le (lt_of_blk HQ.out) hb3.size); clear hb3)
          | (refine ⟨trivial, ?_⟩; gi_at_call 224; refine (callsIn_wide.2 (hval2.out _ (HG.out k _ (HJ.out _ _ _ hJs HB3.out)).1)).mono ?_; rintro e w4 ⟨va, vc, rfl, ho, hb4⟩; have hq4 := (hb4.block _ (lt_of_blk HQ3.out)).trans HQ3.out; obtain ⟨q0, q1, q2⟩ := box3 hq4; have z0 := frozen_blk (k := 0) hq4; have z1 := frozen_blk (k := 1) hq4; have z2 := frozen_blk (k := 2) hq4; have hlt4 := lt_of_blk hq4; obtain ⟨hJ5, hR5⟩ := each_set HS3.out HB3.out hb4 ho (.int .u64 (vb : Int)) (.slice va vt.length vc) (.bool false); obtain ⟨fn, tmps, assign, body, hy, hR⟩ := HY.out k _ _ hlt (HJ.out _ _ _ hJs hJ5) (HED.out _ _ _ hR5); clear hb4 ho hJ5 hR5 hq4))
        refine hR.mono ?_
        rintro e W3 (⟨rfl, hJ3⟩ | ⟨rfl, hJx3⟩)
        · gi_wp2
          go_roundw
          case rel => exact ⟨k + 1, by omega, by go_num, hJ3⟩
          case measure => simp [intOf]; omega
        · gi_wp2
          refine bodyPost_ret (results_none rfl _ _ _) rfl ?_
          exact ⟨⟨_, rfl⟩, .inr hJx3⟩
    · obtain rfl : k = N := by omega
      have hlt2 : ¬ ((k : Int) < c.n) := by rw [HN.out]; omega
      gi_wp2
      go_end0
      exact ⟨⟨_, rfl⟩, .inl hJs⟩
theorem each1_r (c : Col) (h1 : c.k = 15) (hc : COK c) (B D E X : SL) (vals : List Value) (hr : checkC c = 0) (Bs N : Nat) (hn : c.n = (N : Int))
    (hval : ∀ i : Nat, i < N → nullB c.bits i = false → ∀ w2, RdC w2 c B D E X vals → Calls Tryz.prog 219 #[.agg #[], colV c B D E X, .int .i64 (i : Int)] w2 (ValP (valueC c i).1 (valueC c i).2 w2)) :
    SeqV Tryz.prog 150 #[.pointer (some ⟨Bs, 0, none⟩)] (fun k v => #[.int .i64 (k : Int), v]) (EachD c) (EachG c B D E X vals Bs) N := by
  intro l J Jx W hJ hG hY h0
  have HC := Aside.mk hc
  have HR := Aside.mk hr
  have HN := Aside.mk hn
  have hIN : c.n ≤ 9223372036854775807 := hc.n.2
  have hnull := Aside.mk (fun (i : Nat) (hi : i < N) (w2 : World) (h : RdC w2 c B D E X vals) => null_any c B D E X i (check_bits hr (by omega)) hc.bits hc.lb w2 h.bits)
  have hval := Aside.mk hval
  clear hc hr
  dsimp only [colV] at hnull hval
  unfold EachG at hG
  obtain ⟨g1, g2⟩ := hG 0 W h0
  obtain ⟨c0, c1, c2, c3, c4, c5, c6, c7⟩ := box8 g2
  have HG := Aside.mk hG
  have HY := Aside.mk hY
  have HJ := Aside.mk hJ
  have H1 := Aside.mk h1
  clear g1 g2 hG hY hJ h1 hn
  show CallsIn Fence.wide 8 Tryz.prog 150 #[.func (.yield l) #[] #[], .pointer (some ⟨Bs, 0, none⟩)] W _
  refine callsIn_of_wp Tryz.func150 rfl trivial ?_ rfl; simp only [Tryz.ntmps150, List.size_toArray, List.length_cons, List.length_nil, Nat.reduceAdd, Nat.reduceSub, Array.replicate_succ, Array.replicate_zero, List.push_toArray, List.append_toArray, List.nil_append, List.cons_append]
  gi_wp2_with (refine ⟨trivial, ?_⟩; gi_at_call 86; refine (callsIn_wide.2 (of_rk c H1.out _)).mono ?_; rintro e w2 ⟨rfl, hb2⟩; replace h0 := HJ.out _ _ _ h0 hb2; clear c0 c1 c2 c3 c4 c5 c6 c7; obtain ⟨g1, g2⟩ := HG.out 0 w2 h0; obtain ⟨c0, c1, c2, c3, c4, c5, c6, c7⟩ := box8 g2; clear g1 g2)
  gi_loopw [11] (fun i wr => ∃ k : Nat, k ≤ N ∧ i = .int .i64 k ∧ J k wr) (fun i _ => N - (intOf i).toNat)
  case atStart => exact ⟨0, Nat.zero_le _, rfl, h0⟩
  case round =>
    obtain ⟨k, hk, rfl, hJs⟩ := hrel
    clear c0 c1 c2 c3 c4 c5 c6 c7 h0 hb2
    by_cases hlt : k < N
    · have hlt2 : (k : Int) < c.n := by rw [HN.out]; omega
      obtain ⟨g1, g2⟩ := HG.out k wr hJs
      obtain ⟨c0, c1, c2, c3, c4, c5, c6, c7⟩ := box8 g2
      have HGB := Aside.mk g2
      clear g1 g2
      cases hnl : nullB c.bits k with
      | true =>
        have HNL := Aside.mk hnl
        have hnull2 := Aside.mk (hnull.out k hlt)
        rw [hnl] at hnull2
        clear hnl
        obtain ⟨hbA, q, hXA⟩ := box_new wr (.int .u64 0) (.slice none 0 0) (.bool true) HGB.out
        obtain ⟨d0, d1, d2, d3, d4, d5, d6, d7⟩ := box8 hXA
        have HB := Aside.mk hbA
        have HQ := Aside.mk q
        clear hbA q hXA
        gi_wp2_with (refine ⟨trivial, ?_⟩; gi_at_call 129; refine (callsIn_wide.2 (hnull2.out _ (HG.out k _ (HJ.out _ _ _ hJs HB.out)).1)).mono ?_; rintro e w3 ⟨rfl, hb3⟩; obtain ⟨q0, q1, q2⟩ := box3 ((hb3.block _ (lt_of_blk HQ.out)).trans HQ.out); obtain ⟨fn, tmps, assign, body, hy, hR⟩ := HY.out k _ w3 hlt (HJ.out _ _ _ hJs (below_chain HB.out hb3)) (eachD_null HNL.out w3); clear hb3)
        refine hR.mono ?_
        rintro e W3 (⟨rfl, hJ3⟩ | ⟨rfl, hJx3⟩)
        · gi_wp2
          go_roundw
          case rel => exact ⟨k + 1, by omega, by go_num, hJ3⟩
          case measure => simp [intOf]; omega
        · gi_wp2
          refine bodyPost_ret (results_none rfl _ _ _) rfl ?_
          exact ⟨⟨_, rfl⟩, .inr hJx3⟩
      | false =>
        have HNL := Aside.mk hnl
        have hnull2 := Aside.mk (hnull.out k hlt)
        have hval2 := Aside.mk (hval.out k hlt hnl)
        have HED := Aside.mk (fun (W : World) (a : Option Addr) (cap : Nat) => eachD_val (c := c) (i := k) hnl (W := W) (a := a) (cap := cap))
        rw [hnl] at hnull2
        clear hnl
        generalize (valueC c k).1 = vb at hval2 HED
        generalize (valueC c k).2 = vt at hval2 HED
        obtain ⟨hbA, q, hXA⟩ := box_new wr (.int .u64 0) (.slice none 0 0) (.bool true) HGB.out
        obtain ⟨d0, d1, d2, d3, d4, d5, d6, d7⟩ := box8 hXA
        have HB := Aside.mk hbA
        have HQ := Aside.mk q
        have HXA := Aside.mk hXA
        clear hbA q hXA
        have hmeth := meth_r
        gi_wp2_with (first
          | (refine ⟨trivial, ?_⟩; gi_at_call 129; refine (callsIn_wide.2 (hnull2.out _ (HG.out k _ (HJ.out _ _ _ hJs HB.out)).1)).mono ?_; rintro e w3 ⟨rfl, hb3⟩; obtain ⟨e0, e1, e2, e3, e4, e5, e6, e7⟩ := box8 ((hb3.block _ (lt_of_blk HXA.out)).trans HXA.out); have HQ3 := Aside.mk ((hb3.block _ (lt_of_blk HQ.out)).trans HQ.out); have HB3 := Aside.mk (below_chain HB.out hb3); have HS3 := Aside.mk (Nat.lt_of_lt_of_le (lt_of_blk HQ.out) hb3.size); clear hb3)
          | (refine ⟨trivial, ?_⟩; gi_at_call 219; refine (callsIn_wide.2 (hval2.out _ (HG.out k _ (HJ.out _ _ _ hJs HB3.out)).1)).mono ?_; rintro e w4 ⟨va, vc, rfl, ho, hb4⟩; have hq4 := (hb4.block _ (lt_of_blk HQ3.out)).trans HQ3.out; obtain ⟨q0, q1, q2⟩ := box3 hq4; have z0 := frozen_blk (k := 0) hq4; have z1 := frozen_blk (k := 1) hq4; have z2 := frozen_blk (k := 2) hq4; have hlt4 := lt_of_blk hq4; obtain ⟨hJ5, hR5⟩ := each_set HS3.out HB3.out hb4 ho (.int .u64 (vb : Int)) (.slice va vt.length vc) (.bool false); obtain ⟨fn, tmps, assign, body, hy, hR⟩ := HY.out k _ _ hlt (HJ.out _ _ _ hJs hJ5) (HED.out _ _ _ hR5); clear hb4 ho hJ5 hR5 hq4))
        refine hR.mono ?_
        rintro e W3 (⟨rfl, hJ3⟩ | ⟨rfl, hJx3⟩)
        · gi_wp2
          go_roundw
          case rel => exact ⟨k + 1, by omega, by go_num, hJ3⟩
          case measure => simp [intOf]; omega
        · gi_wp2
          refine bodyPost_ret (results_none rfl _ _ _) rfl ?_
          exact ⟨⟨_, rfl⟩, .inr hJx3⟩
    · obtain rfl : k = N := by omega
      have hlt2 : ¬ ((k : Int) < c.n) := by rw [HN.out]; omega
      gi_wp2
      go_end0
      exact ⟨⟨_, rfl⟩, .inl hJs⟩
theorem each1_any (c : Col) (hc : COK c) (B D E X : SL) (vals : List Value) (hr : checkC c = 0) (hDa : D.a = none ∨ ∃ g off, D.a = some ⟨g, off, none⟩) (Bs N : Nat) (hn : c.n = (N : Int)) :
    SeqV Tryz.prog 150 #[.pointer (some ⟨Bs, 0, none⟩)] (fun k v => #[.int .i64 (k : Int), v]) (EachD c) (EachG c B D E X vals Bs) N := by
  obtain ⟨ho, _, _, _⟩ := check_zero hr
  by_cases h15 : c.k = 15
  · refine each1_r c h15 hc B D E X vals hr Bs N hn (fun i hi hnl w h => ?_)
    obtain ⟨hn2, _⟩ := running_facts hr h15
    have hie : i < c.ends.length := by omega
    obtain ⟨f, t, e1, e2, hft, htd⟩ := check_ends hr h15 i hie
    have ev : valueC c i = (0, (c.data.drop f).take (t - f)) := by
      unfold valueC
      rw [if_pos h15, e1, e2, Int.toNat_natCast]
      congr 2
      omega
    rw [ev]
    rcases hDa with hD | ⟨g, off, hD⟩
    · obtain ⟨_, a, cap, e, _, _, h0, _⟩ := h.data
      simp only [Value.slice.injEq, true_and] at e
      have hd0 := (h0 (by rw [← e.1, hD])).1
      obtain rfl : t = 0 := by omega
      obtain rfl : f = 0 := by omega
      have := value_r0 c hc B D E X vals i hie (by simpa using e1) (by simpa using e2) hD w h
      simpa using this
    · exact value_r c hc B D E X vals i f t hie e1 e2 hft htd g off hD w h
  by_cases h16 : c.k = 16
  · refine each1_c c h16 hc B D E X vals hr Bs N hn (fun i hi hnl w h => ?_)
    have hx := check_code hr h16 (by omega) hnl
    have hs := (coded_facts hr h16).1
    have ev : valueC c i = (0, c.words.getD (wordAt c.data (i * 4) 4) []) := by
      unfold valueC
      rw [if_neg h15, if_pos h16]
    rw [ev]
    exact value_c c hc B D E X vals i (sized_room hs i (by omega)) hx w h
  · obtain ⟨W, hW, hW8⟩ := width_eight ho h15
    refine each1_f c h15 h16 hW hc B D E X vals hr Bs N hn (fun i hi hnl w h => ?_)
    have ev : valueC c i = (wordAt c.data (i * W) W, []) := by
      unfold valueC
      rw [if_neg h15, if_neg h16, hW, Int.toNat_natCast]
    rw [ev]
    exact value_f W hW8 c hc B D E X vals i (check_room hr h15 h16 hW (by omega)) w h
theorem each_any (c : Col) (B D E X : SL) (w : World) : Calls Tryz.prog 83 #[colV c B D E X] w fun e w' =>
    e = .returned (.func (.func 150) #[] #[.pointer (some ⟨w.heap.size, 0, none⟩)]) ∧ Below w.heap.size w w' ∧ w'.heap[w.heap.size]? = some (.cells #[.int .i64 c.k, .int .i64 c.s, .int .i64 c.n, .int .i64 c.m, .slice B.a c.bits.length B.c, .slice D.a c.data.length D.c, .slice E.a c.ends.length E.c, .slice X.a c.words.length X.c] 63 (0, 0)) := by
  dsimp only [colV]
  go_enter Tryz.func83, Tryz.ntmps83
  go_wp2
  go_ret
  exact ⟨rfl, (Below.refl _ w).alloc (Nat.le_refl _) _, heap_alloc_new w _⟩
end Go.Proofs.YtmhjjhaipcgbiaaGreat
