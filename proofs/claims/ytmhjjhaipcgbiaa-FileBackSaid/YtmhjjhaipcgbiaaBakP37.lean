/- Texts of this claim, one behind the other: Fg, Gs, Fm. -/
import Derived.Test.YtmhjjhaipcgbiaaBakP28
import Derived.Test.YtmhjjhaipcgbiaaBakP32
import Derived.Test.YtmhjjhaipcgbiaaBakP36
import Derived.Test.YtmhjjhaipcgbiaaBakP33
import Derived.Test.YtmhjjhaipcgbiaaBakP18

namespace Go.Proofs.Ytmhjjhaipcgbiaa
open Go.RowKit
set_option linter.unusedVariables false
set_option linter.unusedSimpArgs false
set_option maxRecDepth 100000
set_option maxHeartbeats 1000000
theorem RdNs.take {w : World} {A : SL} {l : List Nm} (h : RdNs w A l) {n : Nat} (hn : n ≤ l.length) : RdNs w A (l.take n) := by
  obtain ⟨xs, h1, h2⟩ := h
  obtain ⟨hl, a, c, e, q1, q2, q3, q4⟩ := h1
  have hlen : (l.take n).length = n := by rw [List.length_take]; omega
  simp only [Value.slice.injEq, true_and] at e
  obtain ⟨rfl, rfl⟩ := e
  refine ⟨xs.take (n * 3), ⟨by rw [List.length_take, hl, hlen]; omega, _, _, rfl, by rw [hlen]; omega, q2, fun e => ?_, fun j u hu => ?_⟩, fun i v hi => ?_⟩
  · obtain ⟨e1, e2⟩ := q3 e
    exact ⟨by omega, e2⟩
  · rw [List.getElem?_take] at hu
    split at hu
    · exact q4 j u hu
    · cases hu
  · have hin : i < n := by have := (List.getElem?_eq_some_iff.1 hi).1; omega
    rw [List.getElem?_take, if_pos hin] at hi
    obtain ⟨ta, tc, a, b, c, d⟩ := h2 i v hi
    exact ⟨ta, tc, by rw [List.getElem?_take, if_pos (by omega)]; exact a, by rw [List.getElem?_take, if_pos (by omega)]; exact b, by rw [List.getElem?_take, if_pos (by omega)]; exact c, d⟩
theorem RdNs.takeMin {w : World} {A : SL} {l : List Nm} (h : RdNs w A l) (n : Nat) : RdNs w A (l.take n) := by
  by_cases hn : n ≤ l.length
  · exact h.take hn
  · rw [List.take_of_length_le (by omega)]; exact h
def RdRs (w : World) (A : SL) (rows : List (List V)) : Prop :=
  ∃ xs, Rd w 1 (.slice A.a rows.length A.c) rows.length xs ∧ ∀ (i : Nat) r, rows[i]? = some r → ∃ ta tc, xs[i]? = some (.slice ta r.length tc) ∧ RdVs w ⟨ta, tc⟩ r
theorem RdRs.below {w w' : World} {A : SL} {l : List (List V)} (h : RdRs w A l) (hb : Below w.heap.size w w') : RdRs w' A l := by
  obtain ⟨xs, h1, h2⟩ := h
  exact ⟨xs, h1.below hb, fun i v hi => by obtain ⟨ta, tc, a, b⟩ := h2 i v hi; exact ⟨ta, tc, a, b.below hb⟩⟩
theorem RdRs.at {w : World} {A : SL} {l : List (List V)} (h : RdRs w A l) {i : Nat} (hi : i < l.length) : ∃ b off ta tc, A.a = some ⟨b, off, none⟩ ∧ l.length ≤ A.c ∧ A.c ≤ 9223372036854775807 ∧ w.cell? ⟨b, off + i, none⟩ = some (.slice ta l[i].length tc) ∧ RdVs w ⟨ta, tc⟩ l[i] := by
  obtain ⟨xs, h1, h2⟩ := h
  obtain ⟨ta, tc, a, b⟩ := h2 i _ (List.getElem?_eq_getElem hi)
  obtain ⟨g, off, cap, e, q1, q2, hc⟩ := h1.some_ (by rw [h1.len]; omega)
  simp only [Value.slice.injEq, true_and] at e
  obtain ⟨e1, e2⟩ := e
  exact ⟨g, off, ta, tc, e1, e2 ▸ q1, e2 ▸ q2, hc _ _ a, b⟩
def slV (A : SL) (n : Nat) : Value := .slice A.a n A.c
structure TbI (w : World) (b1 b2 b4 b5 : Nat) (sh : Array Value) (hs : List Hd) (ha : Option Addr) (hc : Nat) (n : Int) (tv : Value) (c : Nat → Nat) (L : Nat → List V) (A : Nat → SL) (W : World) : Prop where
  bel : Below w.heap.size w W
  lo : w.heap.size ≤ b1 ∧ w.heap.size ≤ b4 ∧ w.heap.size ≤ b5
  ne : b2 ≠ b4
  res : W.heap[b2]? = some (.cells #[.slice none 0 0, .int .i64 0, .slice none 0 0] 73 (0, 0))
  box : W.heap[b1]? = some (.cells sh 67 (0, 0))
  tab : W.heap[b4]? = some (.cells #[.slice ha hs.length hc, .int .i64 n, tv] 73 (0, 0))
  hd : Own W w.heap.size 137 4 (.slice ha hs.length hc) hs.length (hs.flatMap hdCells)
  vals : ∃ va : List Value, va.length = hs.length ∧ W.heap[b5]? = some (.cells va.toArray 35 (0, 0)) ∧ ∀ k, k < hs.length → va[k]? = some (slV (A k) (L k).length)
  each : ∀ k, k < hs.length → ∃ xs, OwnVs W w.heap.size (A k) (L k) xs
  apart : ∀ j k, j < hs.length → k < hs.length → j ≠ k → ∀ b, (slV (A j) (L j).length).ownBlock = some b → (slV (A k) (L k).length).ownBlock ≠ some b
  len : ∀ k, k < hs.length → (L k).length = c k
  ok : ∀ k (h : k < hs.length), ∀ v ∈ L k, vOK hs[k].k hs[k].s v ∧ v.text.length ≤ 40
section
variable {w W W' : World} {b1 b2 b4 b5 : Nat} {sh : Array Value} {hs : List Hd} {ha : Option Addr} {hc : Nat} {n : Int} {tv : Value} {c : Nat → Nat} {L : Nat → List V} {A : Nat → SL}
theorem TbI.below (h : TbI w b1 b2 b4 b5 sh hs ha hc n tv c L A W) (hb : Below W.heap.size W W') : TbI w b1 b2 b4 b5 sh hs ha hc n tv c L A W' :=
  ⟨below_chain h.bel hb, h.lo, h.ne, (hb.block _ (lt_of_blk h.res)).trans h.res, (hb.block _ (lt_of_blk h.box)).trans h.box, (hb.block _ (lt_of_blk h.tab)).trans h.tab, h.hd.below hb, by obtain ⟨va, a, b, d⟩ := h.vals; exact ⟨va, a, (hb.block _ (lt_of_blk b)).trans b, d⟩, fun k hk => by obtain ⟨xs, x⟩ := h.each k hk; exact ⟨xs, x.below hb⟩, h.apart, h.len, h.ok⟩
theorem TbI.row (h : TbI w b1 b2 b4 b5 sh hs ha hc n tv c L A W) (m : Int) : TbI w b1 b2 b4 b5 sh hs ha hc m tv c L A (W.setCell ⟨b4, 1, none⟩ (.int .i64 m)) := by
  have hk := Kept.setCell W ⟨b4, 1, none⟩ (.int .i64 m)
  have n1 := blk_ne h.box h.tab (by decide)
  have hT := heap_setCell_at (k := 1) h.tab (.int .i64 m)
  refine ⟨h.bel.trans (hk.to_below h.bel.size (fun k e => e ▸ h.lo.2.1)), h.lo, h.ne, (hk.block _ (lt_of_blk h.res) h.ne).trans h.res, (hk.block _ (lt_of_blk h.box) n1).trans h.box, hT, h.hd.kept hk (fun k e e2 => ?_), ?_, fun k hkk => ?_, h.apart, h.len, h.ok⟩
  · dsimp only at e2; subst e2
    exact h.hd.blk_ne h.tab (by decide) e
  · obtain ⟨va, a, b, d⟩ := h.vals
    exact ⟨va, a, (hk.block _ (lt_of_blk b) (blk_ne b h.tab (by decide))).trans b, d⟩
  · obtain ⟨xs, x⟩ := h.each k hkk
    refine ⟨xs, x.row.kept hk (fun b e e2 => ?_), fun i v hi => ?_⟩
    · dsimp only at e2; subst e2
      exact x.row.blk_ne h.tab (by decide) e
    · obtain ⟨ta, tc, q0, q1, q2, q3⟩ := x.each i v hi
      refine ⟨ta, tc, q0, q1, q2, q3.kept hk (fun b e e2 => ?_)⟩
      dsimp only at e2; subst e2
      exact q3.blk_ne h.tab (by decide) e
theorem TbI.step (h : TbI w b1 b2 b4 b5 sh hs ha hc n tv c L A W) {kk : Nat} (hkk : kk < hs.length) {xs : List Value} (ho : OwnVs W w.heap.size (A kk) (L kk) xs) {W3 W5 : World} (hb3 : Below W.heap.size W W3) {v : V} {va : Option Addr} {vc : Nat} (hok : vOK hs[kk].k hs[kk].s v) (h40 : v.text.length ≤ 40) (hov : Own W3 W.heap.size 5 1 (.slice va v.text.length vc) v.text.length (v.text.map (.int .u8)))
    {o : Obj} {a5 : Option Addr} {c5 : Nat} (hA : AppP (W3.alloc o) w.heap.size 49 3 (slV (A kk) (L kk).length) (L kk).length xs 1 [.bool v.null, .int .u64 (v.bits : Int), .slice va v.text.length vc] (.slice a5 ((L kk).length + 1) c5) W5) :
    TbI w b1 b2 b4 b5 sh hs ha hc n tv (fun j => if j = kk then c kk + 1 else c j) (fun j => if j = kk then L kk ++ [v] else L j) (fun j => if j = kk then ⟨a5, c5⟩ else A j) (W5.setCell ⟨b5, kk, none⟩ (.slice a5 ((L kk).length + 1) c5)) := by
  obtain ⟨vl, hvl, hvb, hvk⟩ := h.vals
  have K : Kept (fun b => (slV (A kk) (L kk).length).ownBlock = some b) W W5 := ((Kept.of_below (S := fun b => (slV (A kk) (L kk).length).ownBlock = some b) hb3).trans (Kept.of_below (S := fun b => (slV (A kk) (L kk).length).ownBlock = some b) (below_new W3 o)) (fun _ e _ => e)).trans (Kept.of_grown hA.grown) (fun _ e _ => e.symm)
  have K3 : Kept (fun b => (slV (A kk) (L kk).length).ownBlock = some b) W3 W5 := (Kept.of_below (S := fun b => (slV (A kk) (L kk).length).ownBlock = some b) (below_new W3 o)).trans (Kept.of_grown hA.grown) (fun _ e _ => e.symm)
  have hlt : ∀ b, (slV (A kk) (L kk).length).ownBlock = some b → w.heap.size ≤ b ∧ b < W.heap.size := fun b e => ho.row.lt b e
  have h5 : W5.heap[b5]? = some (.cells vl.toArray 35 (0, 0)) := (K.block _ (lt_of_blk hvb) (fun e => ho.row.blk_ne hvb (by decide) e)).trans hvb
  have K6 : Kept (fun b => (slV (A kk) (L kk).length).ownBlock = some b ∨ b = b5) W (W5.setCell ⟨b5, kk, none⟩ (.slice a5 ((L kk).length + 1) c5)) := (K.mono (fun k e _ => Or.inl e)).trans (Kept.setCell W5 _ _) (fun k e _ => Or.inr e)
  have K36 : Kept (fun b => (slV (A kk) (L kk).length).ownBlock = some b ∨ b = b5) W3 (W5.setCell ⟨b5, kk, none⟩ (.slice a5 ((L kk).length + 1) c5)) := (K3.mono (fun k e _ => Or.inl e)).trans (Kept.setCell W5 _ _) (fun k e _ => Or.inr e)
  have keep : ∀ {b : Nat} {cs : Array Value} {T : TypeId}, W.heap[b]? = some (.cells cs T (0, 0)) → T ≠ 49 → T ≠ 35 → ¬ ((slV (A kk) (L kk).length).ownBlock = some b ∨ b = b5) := fun hb h1 h2 e => e.elim (fun e => ho.row.blk_ne hb h1 e) (fun e => (blk_ne hb hvb h2) e)
  have hsz := h.bel.size
  have hxl : xs.length = (L kk).length * 3 := ho.row.1
  have hb5 := lt_of_blk hvb
  refine ⟨h.bel.trans (K6.to_below hsz (fun k e => e.elim (fun e => (hlt k e).1) (fun e => e ▸ h.lo.2.2))), h.lo, h.ne, (K6.block _ (lt_of_blk h.res) (keep h.res (by decide) (by decide))).trans h.res, (K6.block _ (lt_of_blk h.box) (keep h.box (by decide) (by decide))).trans h.box, (K6.block _ (lt_of_blk h.tab) (keep h.tab (by decide) (by decide))).trans h.tab, h.hd.kept K6 (fun k e => ?_), ?_, fun k hk => ?_, fun j k hj hk hjk b e1 e2 => ?_, fun k hk => ?_, fun k hk u hu => ?_⟩
  · obtain ⟨cur, hcur⟩ := own_blk h.hd e
    exact keep hcur (by decide) (by decide)
  · refine ⟨vl.set kk (.slice a5 ((L kk).length + 1) c5), by simpa using hvl, ?_, fun k hk => ?_⟩
    · have := heap_setCell_at (k := kk) h5 (.slice a5 ((L kk).length + 1) c5)
      rw [this]; simp
    · by_cases e : k = kk
      · subst e
        rw [List.getElem?_set_self (by omega)]
        simp [slV]
      · rw [List.getElem?_set_ne (by omega), if_neg e, if_neg e]; exact hvk k hk
  · by_cases e : k = kk
    · subst e
      rw [if_pos rfl, if_pos rfl]
      have hn5 : ∀ b, (Value.slice a5 ((L k).length + 1) c5).ownBlock = some b → b ≠ b5 := fun b e e2 => hA.own.blk_ne (e2 ▸ h5 : W5.heap[b]? = _) (by decide) e
      refine ⟨xs ++ [.bool v.null, .int .u64 (v.bits : Int), .slice va v.text.length vc], ?_, fun j u hj => ?_⟩
      · have := hA.own.set_other (a := ⟨b5, k, none⟩) (fun e => hn5 _ e rfl) (.slice a5 ((L k).length + 1) c5)
        simpa using this
      · rcases Nat.lt_or_ge j (L k).length with hlt2 | hge
        · rw [List.getElem?_append_left hlt2] at hj
          obtain ⟨ta, tc, q0, q1, q2, q3⟩ := ho.each j u hj
          refine ⟨ta, tc, ?_, ?_, ?_, q3.kept K6 (fun b e => ?_)⟩
          · rw [List.getElem?_append_left (by omega)]; exact q0
          · rw [List.getElem?_append_left (by omega)]; exact q1
          · rw [List.getElem?_append_left (by omega)]; exact q2
          · obtain ⟨cur, hcur⟩ := own_blk q3 e
            exact keep hcur (by decide) (by decide)
        · rw [List.getElem?_append_right hge] at hj
          have h0 : j - (L k).length = 0 := by
            have := (List.getElem?_eq_some_iff.1 hj).1
            simp at this
            omega
          rw [h0] at hj
          simp at hj
          subst hj
          have hj3 : j * 3 = xs.length := by omega
          refine ⟨va, vc, ?_, ?_, ?_, (hov.kept K36 (fun b e h => ?_)).mono (by omega)⟩
          · rw [hj3, List.getElem?_append_right (Nat.le_refl _)]; simp
          · rw [hj3, List.getElem?_append_right (by omega)]; simp
          · rw [hj3, List.getElem?_append_right (by omega)]; simp
          · have := (hov.lt b e).1
            rcases h with h | h
            · have := (hlt b h).2; omega
            · omega
    · rw [if_neg e, if_neg e]
      obtain ⟨ys, hy⟩ := h.each k hk
      refine ⟨ys, hy.row.kept K6 (fun b e1 e2 => ?_), fun i u hi => ?_⟩
      · rcases e2 with e2 | e2
        · exact h.apart k kk hk hkk e b e1 e2
        · subst e2; exact hy.row.blk_ne hvb (by decide) e1
      · obtain ⟨ta, tc, q0, q1, q2, q3⟩ := hy.each i u hi
        refine ⟨ta, tc, q0, q1, q2, q3.kept K6 (fun b e => ?_)⟩
        obtain ⟨cur, hcur⟩ := own_blk q3 e
        exact keep hcur (by decide) (by decide)
  · have old : ∀ m, m < hs.length → m ≠ kk → (slV (A m) (L m).length).ownBlock = some b → (Value.slice a5 ((L kk).length + 1) c5).ownBlock ≠ some b := fun m hm hmk e e' => by
      obtain ⟨ys, hy⟩ := h.each m hm
      rcases hA.blk with q | ⟨b', q, hq⟩
      · rw [q] at e'; exact h.apart m kk hm hkk hmk b e e'
      · rw [q] at e'; cases e'
        have := (hy.row.lt _ e).2
        have := hb3.size
        simp at hq
        omega
    by_cases ej : j = kk
    · have ek : k ≠ kk := fun e => hjk (ej.trans e.symm)
      rw [if_neg ek, if_neg ek] at e2
      rw [if_pos ej, if_pos ej] at e1
      exact old k hk ek e2 (by simpa [slV] using e1)
    · rw [if_neg ej, if_neg ej] at e1
      by_cases ek : k = kk
      · rw [if_pos ek, if_pos ek] at e2
        exact old j hj ej e1 (by simpa [slV] using e2)
      · rw [if_neg ek, if_neg ek] at e2
        exact h.apart j k hj hk hjk b e1 e2
  · by_cases e : k = kk
    · subst e; rw [if_pos rfl, if_pos rfl, List.length_append, h.len k hk]; rfl
    · rw [if_neg e, if_neg e]; exact h.len k hk
  · by_cases e : k = kk
    · subst e
      rw [if_pos rfl] at hu
      rcases List.mem_append.1 hu with h1 | h1
      · exact h.ok k hk u h1
      · rw [List.mem_singleton.1 h1]; exact ⟨hok, h40⟩
    · rw [if_neg e] at hu; exact h.ok k hk u hu
theorem valsinfo : (Try.prog.info? 35).map (fun i => (i.zero, i.size, i.bytes)) = some (some (.slice none 0 0), 1, 24) := by kernel_rfl
theorem vals_make (n : Nat) (hn : n ≤ 100000000) (w : World) : ∃ cs : List Value, cs.length = n ∧ (∀ k, k < n → cs[k]? = some (.slice none 0 0)) ∧ (Instr.makeSlice 141 (.int .i64 (n : Int)) (.int .i64 (n : Int))).run Try.prog w = .ok (.slice (some ⟨w.heap.size, 0, none⟩) n n) (w.alloc (.cells cs.toArray 35)) := by
  obtain ⟨i0, hi, hz0, hz1, hz2⟩ := info_parts valsinfo
  have h := run_make (P := Try.prog) w 141 35 i0 _ Try.underlying141 hi hz0 .i64 .i64 (n : Int) (n : Int) (by omega) (Int.le_refl _) (by rw [hz2]; omega) (by omega)
  rw [hz1, Nat.mul_one, Int.toNat_natCast] at h
  refine ⟨(madeCells (Value.slice none 0 0).cells n).toList, by rw [Array.length_toList, size_madeCells], fun k hk => ?_, ?_⟩
  · rw [show (madeCells (Value.slice none 0 0).cells n).toList = List.replicate n (.slice none 0 0) from toList_madeCells_one _ _, List.getElem?_replicate, if_pos hk]
  · rw [h, Array.toArray_toList]
end
theorem TbI.start {w W : World} {b1 b2 : Nat} {sh : Array Value} {hs : List Hd} {ha : Option Addr} {hc : Nat} {cs : List Value} (hb : Below w.heap.size w W) (h1 : w.heap.size ≤ b1) (hbox : W.heap[b1]? = some (.cells sh 67 (0, 0))) (hres : W.heap[b2]? = some (.cells #[.slice none 0 0, .int .i64 0, .slice none 0 0] 73 (0, 0)))
    (hd : Own W w.heap.size 137 4 (.slice ha hs.length hc) hs.length (hs.flatMap hdCells)) (hcl : cs.length = hs.length) (hck : ∀ k, k < hs.length → cs[k]? = some (.slice none 0 0)) :
    TbI w b1 b2 W.heap.size (W.heap.size + 1) sh hs ha hc 0 (.slice none 0 0) (fun _ => 0) (fun _ => []) (fun _ => ⟨none, 0⟩) ((W.alloc (.cells #[.slice ha hs.length hc, .int .i64 0, .slice none 0 0] 73)).alloc (.cells cs.toArray 35)) := by
  have ha1 := heap_alloc_new W (.cells #[.slice ha hs.length hc, .int .i64 0, .slice none 0 0] 73)
  have ha2 := heap_alloc_new (W.alloc (.cells #[.slice ha hs.length hc, .int .i64 0, .slice none 0 0] 73)) (.cells cs.toArray 35)
  have bb1 := below_new W (.cells #[.slice ha hs.length hc, .int .i64 0, .slice none 0 0] 73)
  have bb2 := below_new (W.alloc (.cells #[.slice ha hs.length hc, .int .i64 0, .slice none 0 0] 73)) (.cells cs.toArray 35)
  have bb := below_chain bb1 bb2
  have hz := hb.size
  have hz2 : (W.alloc (.cells #[.slice ha hs.length hc, .int .i64 0, .slice none 0 0] 73)).heap.size = W.heap.size + 1 := by simp
  have l2 := lt_of_blk hres
  refine ⟨below_chain hb bb, ⟨h1, hz, by omega⟩, by omega, (bb.block _ l2).trans hres, (bb.block _ (lt_of_blk hbox)).trans hbox, (bb2.block _ (lt_of_blk ha1)).trans ha1, hd.below bb, ⟨cs, hcl, hz2 ▸ ha2, fun k hk => hck k hk⟩, fun k hk => ⟨[], Own.nil _ _ _ _, fun i v hi => by simp at hi⟩, fun j k _ _ _ b e => by simp [slV, Value.ownBlock] at e, fun _ _ => rfl, fun k hk v hv => by simp at hv⟩
theorem TbI.congr {w W : World} {b1 b2 b4 b5 : Nat} {sh : Array Value} {hs : List Hd} {ha : Option Addr} {hc : Nat} {n : Int} {tv : Value} {c c' : Nat → Nat} {L : Nat → List V} {A : Nat → SL} (h : TbI w b1 b2 b4 b5 sh hs ha hc n tv c L A W) (e : ∀ k, k < hs.length → c k = c' k) : TbI w b1 b2 b4 b5 sh hs ha hc n tv c' L A W :=
  ⟨h.bel, h.lo, h.ne, h.res, h.box, h.tab, h.hd, h.vals, h.each, h.apart, fun k hk => (h.len k hk).trans (e k hk), h.ok⟩
theorem TbI.other {w W W' : World} {b1 b2 b4 b5 : Nat} {sh : Array Value} {hs : List Hd} {ha : Option Addr} {hc : Nat} {n : Int} {tv : Value} {c : Nat → Nat} {L : Nat → List V} {A : Nat → SL} (h : TbI w b1 b2 b4 b5 sh hs ha hc n tv c L A W) {b8 : Nat} {cs : Array Value} {E : TypeId} {f8 : Nat × Nat} (h8 : W.heap[b8]? = some (.cells cs E f8)) (hE : E ≠ 67 ∧ E ≠ 73 ∧ E ≠ 137 ∧ E ≠ 35 ∧ E ≠ 49 ∧ E ≠ 5) (h0 : w.heap.size ≤ b8) (hk : Kept (fun b => b = b8) W W') : TbI w b1 b2 b4 b5 sh hs ha hc n tv c L A W' := by
  have ne : ∀ {b : Nat} {cs : Array Value} {T : TypeId}, W.heap[b]? = some (.cells cs T (0, 0)) → E ≠ T → ¬ b = b8 := fun hb ht => blk_ne hb h8 (fun e => ht e.symm)
  refine ⟨h.bel.trans (hk.to_below h.bel.size (fun k e => e ▸ h0)), h.lo, h.ne, (hk.block _ (lt_of_blk h.res) (ne h.res hE.2.1)).trans h.res, (hk.block _ (lt_of_blk h.box) (ne h.box hE.1)).trans h.box, (hk.block _ (lt_of_blk h.tab) (ne h.tab hE.2.1)).trans h.tab, h.hd.kept hk (fun k e => ?_), ?_, fun k hkk => ?_, h.apart, h.len, h.ok⟩
  · obtain ⟨cur, hcur⟩ := own_blk h.hd e
    exact ne hcur hE.2.2.1
  · obtain ⟨va, a, b, d⟩ := h.vals
    exact ⟨va, a, (hk.block _ (lt_of_blk b) (ne b hE.2.2.2.1)).trans b, d⟩
  · obtain ⟨xs, x⟩ := h.each k hkk
    refine ⟨xs, x.row.kept hk (fun b e => ?_), fun i v hi => ?_⟩
    · obtain ⟨cur, hcur⟩ := own_blk x.row e
      exact ne hcur hE.2.2.2.2.1
    · obtain ⟨ta, tc, q0, q1, q2, q3⟩ := x.each i v hi
      refine ⟨ta, tc, q0, q1, q2, q3.kept hk (fun b e => ?_)⟩
      obtain ⟨cur, hcur⟩ := own_blk q3 e
      exact ne hcur hE.2.2.2.2.2
def ValB (w : World) (b8 : Nat) (W : World) : Prop := ∃ (nl : Bool) (b : Nat) (t : List Int) (ta : Option Addr) (tc : Nat), b < 18446744073709551616 ∧ IsBytes t ∧ t.length ≤ 9223372036854775807 ∧ Rd w 1 (.slice ta t.length tc) t.length (t.map (.int .u8)) ∧ W.heap[b8]? = some (.cells #[.bool nl, .int .u64 (b : Int), .slice ta t.length tc] 98 (0, 0))
theorem TbI.setC {w W : World} {b1 b2 b4 b5 : Nat} {sh : Array Value} {hs : List Hd} {ha : Option Addr} {hc : Nat} {n : Int} {tv : Value} {c : Nat → Nat} {L : Nat → List V} {A : Nat → SL} (h : TbI w b1 b2 b4 b5 sh hs ha hc n tv c L A W) (tv' : Value) : TbI w b1 b2 b4 b5 sh hs ha hc n tv' c L A (W.setCell ⟨b4, 2, none⟩ tv') := by
  have hk := Kept.setCell W ⟨b4, 2, none⟩ tv'
  have n1 := blk_ne h.box h.tab (by decide)
  have hT := heap_setCell_at (k := 2) h.tab tv'
  refine ⟨h.bel.trans (hk.to_below h.bel.size (fun k e => e ▸ h.lo.2.1)), h.lo, h.ne, (hk.block _ (lt_of_blk h.res) h.ne).trans h.res, (hk.block _ (lt_of_blk h.box) n1).trans h.box, hT, h.hd.kept hk (fun k e e2 => ?_), ?_, fun k hkk => ?_, h.apart, h.len, h.ok⟩
  · dsimp only at e2; subst e2
    exact h.hd.blk_ne h.tab (by decide) e
  · obtain ⟨va, a, b, d⟩ := h.vals
    exact ⟨va, a, (hk.block _ (lt_of_blk b) (blk_ne b h.tab (by decide))).trans b, d⟩
  · obtain ⟨xs, x⟩ := h.each k hkk
    refine ⟨xs, x.row.kept hk (fun b e e2 => ?_), fun i v hi => ?_⟩
    · dsimp only at e2; subst e2
      exact x.row.blk_ne h.tab (by decide) e
    · obtain ⟨ta, tc, q0, q1, q2, q3⟩ := x.each i v hi
      refine ⟨ta, tc, q0, q1, q2, q3.kept hk (fun b e e2 => ?_)⟩
      dsimp only at e2; subst e2
      exact q3.blk_ne h.tab (by decide) e
structure OwnCs (W : World) (base : Nat) (ca : Option Addr) (cc : Nat) (cs : List Col) (ys : List Value) : Prop where
  row : Own W base 43 8 (.slice ca cs.length cc) cs.length ys
  each : ∀ (i : Nat) c, cs[i]? = some c → ∃ B D E X va, (∀ (j : Nat) u, (colL c B D E X)[j]? = some u → ys[i * 8 + j]? = some u) ∧ OwnC W base c B D E X va
theorem own_turn {W W' : World} {base sz n : Nat} {E : TypeId} {v : Value} {xs : List Value} {S : Nat → Prop} (h : Own W base E sz v n xs) (hk : Kept S W W') (hS : ∀ b cs f, W.heap[b]? = some (.cells cs E f) → ¬ S b) : Own W' base E sz v n xs :=
  h.kept hk (fun b e => by obtain ⟨cur, hcur⟩ := own_blk h e; exact hS b _ _ hcur)
theorem OwnC.turnS {W W' : World} {base : Nat} {c : Col} {B D E X : SL} {va : List Value} {S : Nat → Prop} (h : OwnC W base c B D E X va) (hk : Kept S W W') (h1 : ∀ b cs f, W.heap[b]? = some (.cells cs 5 f) → ¬ S b) (h2 : ∀ b cs f, W.heap[b]? = some (.cells cs 3 f) → ¬ S b) (h3 : ∀ b cs f, W.heap[b]? = some (.cells cs 37 f) → ¬ S b) : OwnC W' base c B D E X va :=
  ⟨own_turn h.bits hk h1, own_turn h.data hk h1, own_turn h.ends hk h2, own_turn h.words hk h3, h.len, fun j t hj ht => by
    obtain ⟨a, cap, q1, q2⟩ := h.each j t hj ht
    exact ⟨a, cap, q1, own_turn q2 hk h1⟩, h.sep⟩
theorem OwnCs.below {W W' : World} {base : Nat} {ca : Option Addr} {cc : Nat} {cs : List Col} {ys : List Value} (h : OwnCs W base ca cc cs ys) (hb : Below W.heap.size W W') : OwnCs W' base ca cc cs ys :=
  ⟨h.row.below hb, fun i c hi => by obtain ⟨B, D, E, X, va, a, b⟩ := h.each i c hi; exact ⟨B, D, E, X, va, a, b.below hb⟩⟩
theorem OwnCs.rd {W : World} {base : Nat} {ca : Option Addr} {cc : Nat} {cs : List Col} {ys : List Value} (h : OwnCs W base ca cc cs ys) : RdCs W ⟨ca, cc⟩ cs :=
  ⟨ys, h.row.rd, fun i c hi => by obtain ⟨B, D, E, X, va, a, b⟩ := h.each i c hi; exact ⟨B, D, E, X, va, a, b.rd⟩⟩
end Go.Proofs.Ytmhjjhaipcgbiaa


namespace Go.Proofs.Ytmhjjhaipcgbiaa
open Go.RowKit
set_option linter.unusedVariables false
set_option linter.unusedSimpArgs false
set_option maxRecDepth 100000
set_option maxHeartbeats 1000000
structure OwnDs (W : World) (base : Nat) (C : SL) (cs : List Col) (ys : List Value) : Prop where
  row : Own W base 43 8 (.slice C.a cs.length C.c) cs.length ys
  each : ∀ (i : Nat) c, cs[i]? = some c → ∃ B D E X va, (∀ (j : Nat) u, (colL c B D E X)[j]? = some u → ys[i * 8 + j]? = some u) ∧ OwnD W base c B D E X va
theorem OwnDs.rd {W : World} {base : Nat} {C : SL} {cs : List Col} {ys : List Value} (h : OwnDs W base C cs ys) : RdCs W C cs :=
  ⟨ys, h.row.rd, fun i c hi => by obtain ⟨B, D, E, X, va, a, b⟩ := h.each i c hi; exact ⟨B, D, E, X, va, a, b.rd⟩⟩
theorem OwnDs.kept {W W' : World} {base : Nat} {C : SL} {cs : List Col} {ys : List Value} {S : Nat → Prop} (h : OwnDs W base C cs ys) (hk : Kept S W W') (hS : ∀ k, base ≤ k → k < W.heap.size → ¬ S k) : OwnDs W' base C cs ys :=
  ⟨h.row.kept hk (fun k e => hS k (h.row.lt k e).1 (h.row.lt k e).2), fun i c hi => by obtain ⟨B, D, E, X, va, a, b⟩ := h.each i c hi; exact ⟨B, D, E, X, va, a, b.kept hk hS⟩⟩
theorem OwnDs.turn {W W' : World} {base : Nat} {C : SL} {cs : List Col} {ys : List Value} {S : Nat → Prop} (h : OwnDs W base C cs ys) (hk : Kept S W W') (h1 : ∀ b cs f, W.heap[b]? = some (.cells cs 5 f) → ¬ S b) (h2 : ∀ b cs f, W.heap[b]? = some (.cells cs 3 f) → ¬ S b) (h3 : ∀ b cs f, W.heap[b]? = some (.cells cs 37 f) → ¬ S b) (h4 : ∀ b cs f, W.heap[b]? = some (.cells cs 43 f) → ¬ S b) : OwnDs W' base C cs ys :=
  ⟨own_turn h.row hk h4, fun i c hi => by obtain ⟨B, D, E, X, va, a, b⟩ := h.each i c hi; exact ⟨B, D, E, X, va, a, b.turn hk h1 h2 h3⟩⟩
theorem OwnDs.mono {W : World} {base base' : Nat} {C : SL} {cs : List Col} {ys : List Value} (h : OwnDs W base C cs ys) (hb : base' ≤ base) : OwnDs W base' C cs ys :=
  ⟨h.row.mono hb, fun i c hi => by obtain ⟨B, D, E, X, va, a, b⟩ := h.each i c hi; exact ⟨B, D, E, X, va, a, b.mono hb⟩⟩
theorem OwnDs.nil (W : World) (base : Nat) : OwnDs W base ⟨none, 0⟩ [] [] := ⟨Own.nil _ _ _ _, fun i c hi => by simp at hi⟩
structure DecI (w : World) (rb b tb : Nat) (hs : List Hd) (H : SL) (rows : Int) (cs : List Col) (C : SL) (ys : List Value) (s : RS) (A : SL) (W : World) : Prop where
  res : W.heap[rb]? = some (.cells #[.slice none 0 0, .int .i64 0, .slice none 0 0] 73 (0, 0))
  tab : W.heap[tb]? = some (.cells #[.slice H.a hs.length H.c, .int .i64 rows, .slice C.a cs.length C.c] 73 (0, 0))
  ne : rb ≠ tb
  hd : Own W w.heap.size 137 4 (.slice H.a hs.length H.c) hs.length (hs.flatMap hdCells)
  own : OwnDs W tb C cs ys
  rd : RdR W b A s
  bel : Below w.heap.size w W
  lo : w.heap.size ≤ rb ∧ w.heap.size ≤ b ∧ w.heap.size ≤ tb ∧ rb < b ∧ b < tb
section
variable {w W W' : World} {rb b tb : Nat} {hs : List Hd} {H : SL} {rows : Int} {cs : List Col} {C : SL} {ys : List Value} {s : RS} {A : SL}
theorem DecI.below (h : DecI w rb b tb hs H rows cs C ys s A W) (hb : Below W.heap.size W W') : DecI w rb b tb hs H rows cs C ys s A W' :=
  ⟨(hb.block _ (lt_of_blk h.res)).trans h.res, (hb.block _ (lt_of_blk h.tab)).trans h.tab, h.ne, h.hd.below hb, h.own.kept (Kept.of_below (S := fun _ => False) hb) (fun _ _ _ e => e), h.rd.below hb, below_chain h.bel hb, h.lo⟩
theorem DecI.call (h : DecI w rb b tb hs H rows cs C ys s A W) {s' : RS} {A' : SL} (hr : RdR W' b A' s') (hk : Kept (fun k => k = b) W W') : DecI w rb b tb hs H rows cs C ys s' A' W' := by
  have l0 := h.lo
  have ne : ∀ {T' : TypeId}, T' ≠ 145 → ∀ b' cs f, W.heap[b']? = some (.cells cs T' f) → ¬ b' = b := fun ht b' cs f hb => blk_ne hb h.rd.box ht
  exact ⟨(hk.block _ (lt_of_blk h.res) (by omega)).trans h.res, (hk.block _ (lt_of_blk h.tab) (by omega)).trans h.tab, h.ne, own_turn h.hd hk (ne (by decide)), h.own.turn hk (ne (by decide)) (ne (by decide)) (ne (by decide)) (ne (by decide)), hr, h.bel.trans (hk.to_below h.bel.size (fun k e => by omega)), l0⟩
theorem DecI.setRows (h : DecI w rb b tb hs H rows cs C ys s A W) (r : Int) : DecI w rb b tb hs H r cs C ys s A (W.setCell ⟨tb, 1, none⟩ (.int .i64 r)) := by
  have l0 := h.lo
  have K : Kept (fun k => k = tb) W (W.setCell ⟨tb, 1, none⟩ (.int .i64 r)) := Kept.setCell W ⟨tb, 1, none⟩ _
  have ne : ∀ {T' : TypeId}, T' ≠ 73 → ∀ b' cs f, W.heap[b']? = some (.cells cs T' f) → ¬ b' = tb := fun ht b' cs f hb => blk_ne hb h.tab ht
  have hbx := heap_setCell_at (k := 1) h.tab (.int .i64 r)
  exact ⟨(K.block _ (lt_of_blk h.res) h.ne).trans h.res, by simpa using hbx, h.ne, own_turn h.hd K (ne (by decide)), h.own.turn K (ne (by decide)) (ne (by decide)) (ne (by decide)) (ne (by decide)), h.rd.kept K (fun k e => by omega), h.bel.trans (K.to_below h.bel.size (fun k e => by omega)), l0⟩
theorem DecI.next (h : DecI w rb b tb hs H rows cs C ys s A W) {c : Col} {B D E X : SL} {va : List Value} (hoc : OwnD W tb c B D E X va) {o : Obj} {a5 : Option Addr} {c5 : Nat}
    (hA : AppP (W.alloc o) tb 43 8 (.slice C.a cs.length C.c) cs.length ys 1 (colL c B D E X) (.slice a5 (cs.length + 1) c5) W') :
    DecI w rb b tb hs H rows (cs ++ [c]) ⟨a5, c5⟩ (ys ++ colL c B D E X) s A (W'.setCell ⟨tb, 2, none⟩ (.slice a5 (cs.length + 1) c5)) := by
  have l0 := h.lo
  have hk : Kept (fun k => (Value.slice C.a cs.length C.c).ownBlock = some k) W W' := (Kept.of_below (S := fun k => (Value.slice C.a cs.length C.c).ownBlock = some k) (below_new W o)).trans (Kept.of_grown hA.grown) (fun k e _ => e.symm)
  have K : Kept (fun k => (Value.slice C.a cs.length C.c).ownBlock = some k ∨ k = tb) W (W'.setCell ⟨tb, 2, none⟩ (.slice a5 (cs.length + 1) c5)) := (hk.mono (fun k e _ => Or.inl e)).trans (Kept.setCell W' ⟨tb, 2, none⟩ _) (fun k e _ => Or.inr e)
  have nb : ∀ {b' : Nat} {cs' : Array Value} {T' : TypeId} {f : Nat × Nat}, W.heap[b']? = some (.cells cs' T' f) → T' ≠ 43 → b' ≠ tb → ¬ ((Value.slice C.a cs.length C.c).ownBlock = some b' ∨ b' = tb) := fun hb ht hn e => e.elim (fun e => h.own.row.blk_ne hb ht e) hn
  have nt : ∀ {T' : TypeId}, T' ≠ 43 → T' ≠ 73 → ∀ b' cs' f, W.heap[b']? = some (.cells cs' T' f) → ¬ ((Value.slice C.a cs.length C.c).ownBlock = some b' ∨ b' = tb) := fun ht hn b' cs' f hb => nb hb ht (blk_ne hb h.tab hn)
  have htab := (hk.block _ (lt_of_blk h.tab) (fun e => h.own.row.blk_ne h.tab (by decide) e)).trans h.tab
  have hbx := heap_setCell_at (k := 2) htab (.slice a5 (cs.length + 1) c5)
  have hl : (cs ++ [c]).length = cs.length + 1 := by simp
  have hyl : ys.length = cs.length * 8 := h.own.row.1
  refine ⟨(K.block _ (lt_of_blk h.res) (nb h.res (by decide) h.ne)).trans h.res, by rw [hl]; simpa using hbx, h.ne, own_turn h.hd K (nt (by decide) (by decide)), ⟨?_, fun i u hi => ?_⟩, h.rd.kept K (fun k e => ?_), h.bel.trans (K.to_below h.bel.size (fun k e => ?_)), l0⟩
  · dsimp only
    rw [hl]
    exact hA.own.set_other (fun e => hA.own.blk_ne htab (by decide) e) _
  · rcases Nat.lt_or_ge i cs.length with hlt | hge
    · rw [List.getElem?_append_left hlt] at hi
      obtain ⟨B', D', E', X', va', q1, q2⟩ := h.own.each i u hi
      refine ⟨B', D', E', X', va', fun j x hx => ?_, q2.turn K (nt (by decide) (by decide)) (nt (by decide) (by decide)) (nt (by decide) (by decide))⟩
      have hj := (List.getElem?_eq_some_iff.1 hx).1
      simp [colL] at hj
      rw [List.getElem?_append_left (by omega)]; exact q1 j x hx
    · rw [List.getElem?_append_right hge] at hi
      have h0 : i - cs.length = 0 := by
        have := (List.getElem?_eq_some_iff.1 hi).1
        simp at this
        omega
      rw [h0] at hi
      simp at hi
      subst hi
      have e : i = cs.length := by omega
      subst e
      refine ⟨B, D, E, X, va, fun j x hx => ?_, hoc.turn K (nt (by decide) (by decide)) (nt (by decide) (by decide)) (nt (by decide) (by decide))⟩
      rw [List.getElem?_append_right (by omega), show cs.length * 8 + j - ys.length = j by omega]; exact hx
  · rcases e with e | e
    · have := (h.own.row.lt k e).1
      omega
    · omega
  · rcases e with e | e
    · have := (h.own.row.lt k e).1
      omega
    · omega
structure LopI (w : World) (rb b tb : Nat) (hs : List Hd) (H : SL) (rows : Int) (fin : List Col × RS) (i : Nat) (cs : List Col) (C : SL) (ys : List Value) (s : RS) (A : SL) (W : World) : Prop where
  d : DecI w rb b tb hs H rows cs C ys s A W
  len : cs.length = i
  hd : cs ++ (colsR rows (hs.drop i) s).1 = fin.1
  fi : (colsR rows (hs.drop i) s).2 = fin.2
theorem LopI.next {fin : List Col × RS} {i : Nat} {ys' : List Value} {C' A' : SL} (h : LopI w rb b tb hs H rows fin i cs C ys s A W) (hi : i < hs.length) (hd : DecI w rb b tb hs H rows (cs ++ [(colR hs[i].k hs[i].s rows s).1]) C' ys' (colR hs[i].k hs[i].s rows s).2 A' W') : LopI w rb b tb hs H rows fin (i + 1) (cs ++ [(colR hs[i].k hs[i].s rows s).1]) C' ys' (colR hs[i].k hs[i].s rows s).2 A' W' := by
  have h1 := h.hd
  have h3 := h.fi
  rw [List.drop_eq_getElem_cons hi, colsR] at h1 h3
  exact ⟨hd, by rw [List.length_append, List.length_singleton, h.len], by rw [List.append_assoc]; exact h1, h3⟩
theorem LopI.done {fin : List Col × RS} (h : LopI w rb b tb hs H rows fin hs.length cs C ys s A W) : cs = fin.1 ∧ s = fin.2 := by
  have h1 := h.hd
  have h3 := h.fi
  rw [List.drop_length, colsR] at h1 h3
  simp only [List.append_nil] at h1
  exact ⟨h1, h3⟩
end
end Go.Proofs.Ytmhjjhaipcgbiaa


namespace Go.Proofs.Ytmhjjhaipcgbiaa
open Go.RowKit
set_option linter.unusedVariables false
set_option linter.unusedSimpArgs false
set_option maxRecDepth 100000
set_option maxHeartbeats 1000000
theorem colinfo : (Try.prog.info? 43).map (fun i => (i.zero, i.size, i.bytes)) = some (some (.agg #[.int .i64 0, .int .i64 0, .int .i64 0, .int .i64 0, .slice none 0 0, .slice none 0 0, .slice none 0 0, .slice none 0 0]), 8, 128) := by kernel_rfl
theorem src_col (w : World) (c : Col) (B D E X : SL) : Src Try.prog 8 71 (.slice (some ⟨w.heap.size, 0, none⟩) 1 1) 1 (colL c B D E X) (w.alloc (.cells #[.int .i64 c.k, .int .i64 c.s, .int .i64 c.n, .int .i64 c.m, .slice B.a c.bits.length B.c, .slice D.a c.data.length D.c, .slice E.a c.ends.length E.c, .slice X.a c.words.length X.c] 43)) := by
  refine Src.ofSlice _ Try.underlying71 _ 1 1 _ rfl (fun j u hu => ?_) (by simp [Value.oneCell', colL])
  have hg := heap_alloc_new w (.cells #[.int .i64 c.k, .int .i64 c.s, .int .i64 c.n, .int .i64 c.m, .slice B.a c.bits.length B.c, .slice D.a c.data.length D.c, .slice E.a c.ends.length E.c, .slice X.a c.words.length X.c] 43)
  rw [addr_add, Nat.zero_add, cell_blk hg]
  simpa [colL] using hu
theorem OwnCs.nil (W : World) (base : Nat) : OwnCs W base none 0 [] [] := ⟨Own.nil _ _ _ _, fun i c hi => by simp at hi⟩
theorem OwnCs.app {W W3 W5 : World} {base : Nat} {ca : Option Addr} {cc : Nat} {cs : List Col} {ys : List Value} (h : OwnCs W base ca cc cs ys) (hbase : base ≤ W.heap.size) (hb3 : Below W.heap.size W W3) {c : Col} {B D E X : SL} {va : List Value} (hoc : OwnC W3 W.heap.size c B D E X va)
    {o : Obj} {a5 : Option Addr} {c5 : Nat} (hA : AppP (W3.alloc o) base 43 8 (.slice ca cs.length cc) cs.length ys 1 (colL c B D E X) (.slice a5 (cs.length + 1) c5) W5) {b4 : Nat} {tc : Array Value} (htab : W.heap[b4]? = some (.cells tc 73 (0, 0))) (tv : Value) :
    OwnCs (W5.setCell ⟨b4, 2, none⟩ tv) base a5 c5 (cs ++ [c]) (ys ++ colL c B D E X) := by
  have hlt : ∀ b, (Value.slice ca cs.length cc).ownBlock = some b → base ≤ b ∧ b < W.heap.size := fun b e => h.row.lt b e
  have K3 : Kept (fun b => (Value.slice ca cs.length cc).ownBlock = some b) W3 W5 := (Kept.of_below (S := fun b => (Value.slice ca cs.length cc).ownBlock = some b) (below_new W3 o)).trans (Kept.of_grown hA.grown) (fun _ e _ => e.symm)
  have K : Kept (fun b => (Value.slice ca cs.length cc).ownBlock = some b) W W5 := (Kept.of_below hb3).trans K3 (fun _ e _ => e)
  have K6 : Kept (fun b => (Value.slice ca cs.length cc).ownBlock = some b ∨ b = b4) W (W5.setCell ⟨b4, 2, none⟩ tv) := (K.mono (fun k e _ => Or.inl e)).trans (Kept.setCell W5 _ _) (fun k e _ => Or.inr e)
  have K36 : Kept (fun b => (Value.slice ca cs.length cc).ownBlock = some b ∨ b = b4) W3 (W5.setCell ⟨b4, 2, none⟩ tv) := (K3.mono (fun k e _ => Or.inl e)).trans (Kept.setCell W5 _ _) (fun k e _ => Or.inr e)
  have htab3 := (hb3.block _ (lt_of_blk htab)).trans htab
  have htab5 : W5.heap[b4]? = some (.cells tc 73 (0, 0)) := (K.block _ (lt_of_blk htab) (fun e => h.row.blk_ne htab (by decide) e)).trans htab
  have keep : ∀ {b : Nat} {cs' : Array Value} {T : TypeId} {f : Nat × Nat}, W.heap[b]? = some (.cells cs' T f) → T ≠ 43 → T ≠ 73 → ¬ ((Value.slice ca cs.length cc).ownBlock = some b ∨ b = b4) := fun hb h1 h2 e => e.elim (fun e => h.row.blk_ne hb h1 e) (fun e => (blk_ne hb htab h2) e)
  have keep3 : ∀ {b : Nat} {cs' : Array Value} {T : TypeId} {f : Nat × Nat}, W3.heap[b]? = some (.cells cs' T f) → T ≠ 43 → T ≠ 73 → ¬ ((Value.slice ca cs.length cc).ownBlock = some b ∨ b = b4) := fun hb h1 h2 e => e.elim (fun e => (h.row.below hb3).blk_ne hb h1 e) (fun e => (blk_ne hb htab3 h2) e)
  have hyl : ys.length = cs.length * 8 := h.row.1
  refine ⟨?_, fun i u hi => ?_⟩
  · have := hA.own.set_other (a := ⟨b4, 2, none⟩) (fun e => hA.own.blk_ne htab5 (by decide) e) tv
    simpa using this
  · rcases Nat.lt_or_ge i cs.length with hlt2 | hge
    · rw [List.getElem?_append_left hlt2] at hi
      obtain ⟨B', D', E', X', va', q1, q2⟩ := h.each i u hi
      refine ⟨B', D', E', X', va', fun j x hx => ?_, q2.turnS K6 (fun b cs f hb => keep hb (by decide) (by decide)) (fun b cs f hb => keep hb (by decide) (by decide)) (fun b cs f hb => keep hb (by decide) (by decide))⟩
      have hj := (List.getElem?_eq_some_iff.1 hx).1
      simp [colL] at hj
      rw [List.getElem?_append_left (by omega)]; exact q1 j x hx
    · rw [List.getElem?_append_right hge] at hi
      have h0 : i - cs.length = 0 := by
        have := (List.getElem?_eq_some_iff.1 hi).1
        simp at this
        omega
      rw [h0] at hi
      simp at hi
      subst hi
      have e : i = cs.length := by omega
      subst e
      refine ⟨B, D, E, X, va, fun j x hx => ?_, (hoc.turnS K36 (fun b cs f hb => keep3 hb (by decide) (by decide)) (fun b cs f hb => keep3 hb (by decide) (by decide)) (fun b cs f hb => keep3 hb (by decide) (by decide))).mono hbase⟩
      rw [List.getElem?_append_right (by omega), show cs.length * 8 + j - ys.length = j by omega]; exact hx
theorem TbI.grownCs {w W W' : World} {b1 b2 b4 b5 : Nat} {sh : Array Value} {hs : List Hd} {ha : Option Addr} {hc : Nat} {n : Int} {tv : Value} {c : Nat → Nat} {L : Nat → List V} {A : Nat → SL} (h : TbI w b1 b2 b4 b5 sh hs ha hc n tv c L A W) {v : Value} {k : Nat} {ys : List Value} (ho : Own W w.heap.size 43 8 v k ys) (hk : Kept (fun b => v.ownBlock = some b) W W') : TbI w b1 b2 b4 b5 sh hs ha hc n tv c L A W' := by
  rcases hv : v.ownBlock with _ | b8
  · exact h.below ⟨hk.os, hk.tape, hk.output, hk.size, fun k hk' => hk.block k hk' (by rw [hv]; simp)⟩
  · obtain ⟨cur, hcur⟩ := own_blk ho hv
    exact h.other hcur (by decide) (ho.lt _ hv).1 (hk.mono (fun k e _ => by rw [hv] at e; cases e; rfl))
def ColsI (hs : List Hd) (L : Nat → List V) (m : Nat) (ks : List Col) : Prop := ks.length = m ∧ ∀ j (h : j < ks.length) (h2 : j < hs.length), ks[j] = (CS.of hs[j].k (L j)).col hs[j].k hs[j].s
theorem ColsI.zero (hs : List Hd) (L : Nat → List V) : ColsI hs L 0 [] := ⟨rfl, fun j h => by simp at h⟩
theorem ColsI.step {hs : List Hd} {L : Nat → List V} {m : Nat} {ks : List Col} (h : ColsI hs L m ks) (hcl : m < hs.length) {c : Col} (e : c = (CS.of hs[m].k (L m)).col hs[m].k hs[m].s) : ColsI hs L (m + 1) (ks ++ [c]) := by
  refine ⟨by simp [h.1], fun j hj h2 => ?_⟩
  by_cases hlt : j < ks.length
  · rw [List.getElem_append_left hlt]; exact h.2 j hlt h2
  · have ej : j = m := by have := h.1; simp at hj; omega
    subst ej
    have : (ks ++ [c])[j] = c := by rw [List.getElem_append_right (by omega)]; simp
    rw [this]; exact e
theorem few3 {k s : Int} {r : List V} (h1 : r.length ≤ 120) (h2 : ∀ v ∈ r, vOK k s v ∧ v.text.length ≤ 40) : Few r ∧ ∀ v ∈ r, vOK k s v :=
  ⟨⟨by omega, fun v hv => Nat.le_trans (h2 v hv).2 (by decide)⟩, fun v hv => (h2 v hv).1⟩
def PlainT (t : Tb) : Prop := ∃ (n : Nat) (L : Nat → List V), n ≤ 40 ∧ t.rows = (n : Int) ∧ t.hs.length ≤ 8 ∧ t.cs.length = t.hs.length ∧ SchemaP t.hs ∧ ∀ j (h : j < t.cs.length) (h2 : j < t.hs.length), t.cs[j] = (CS.of t.hs[j].k (L j)).col t.hs[j].k t.hs[j].s ∧ (L j).length = n ∧ ∀ v ∈ L j, vOK t.hs[j].k t.hs[j].s v ∧ v.text.length ≤ 40
def TableR (w : World) (e : Ending) (w' : World) : Prop := ∃ (t : Tb) (H C : SL) (ys : List Value), e = .returned (tbV t H C) ∧ PlainT t ∧ Own w' w.heap.size 137 4 (.slice H.a t.hs.length H.c) t.hs.length (t.hs.flatMap hdCells) ∧ OwnCs w' w.heap.size C.a C.c t.cs ys ∧ Below w.heap.size w w'
theorem PlainT.col {t : Tb} (h : PlainT t) (j : Nat) (hj : j < t.cs.length) (h2 : j < t.hs.length) : ∃ l, BF t.hs[j].k t.hs[j].s l t.cs[j] ∧ (l.length : Int) = t.rows := by
  obtain ⟨n, L, hn, hr, h8, hl, hsp, hc⟩ := h
  obtain ⟨e, q1, q2⟩ := hc j hj h2
  have hf := few3 (by omega) q2
  exact ⟨L j, by rw [e]; exact built_facts (hsp.2.2.2.1 _ (List.getElem_mem h2)) hf.1 hf.2, by rw [hr, q1]⟩
theorem nameB_size {s : ByteArray} (h : nameB s = true) : s.size ≤ 64 := by
  unfold nameB at h
  simp only [Bool.and_eq_true, decide_eq_true_eq] at h
  exact h.1.1.2
theorem PlainT.table {t : Tb} (h : PlainT t) : TableP t ∧ TbOK t := by
  have h0 := h
  obtain ⟨n, L, hn, hr, h8, hl, hsp, hc⟩ := h
  refine ⟨⟨hsp, hl, fun i hi hh => ?_⟩, ⟨by omega, by omega, fun x hx => Nat.le_trans (nameB_size (hsp.2.2.1 x hx)) (by decide), fun c hc => ?_⟩⟩
  · obtain ⟨l, hb, hlr⟩ := h0.col i hi hh
    exact ⟨hb.k, hb.s, hb.n.trans hlr, hb.chk⟩
  · obtain ⟨i, hi, rfl⟩ := List.mem_iff_getElem.1 hc
    obtain ⟨l, hb, _⟩ := h0.col i hi (by omega)
    exact hb.cok
theorem table_end {w W : World} {b1 b2 b4 b5 : Nat} {sh : Array Value} {hs : List Hd} {ha : Option Addr} {hc : Nat} {i : Nat} {ca : Option Addr} {kc : Nat} {ks : List Col} {ys : List Value} {L : Nat → List V} {A : Nat → SL} (h : TbI w b1 b2 b4 b5 sh hs ha hc (i : Int) (.slice ca ks.length kc) (fun _ => i) L A W) (ho : OwnCs W w.heap.size ca kc ks ys) (hk : ColsI hs L hs.length ks) (hb2 : w.heap.size ≤ b2) (hsp : SchemaP hs ∧ hs.length ≤ 8) (hi : i ≤ 40) (u0 u1 u2 : Value) :
    TableR w (.returned (.agg #[.slice ha hs.length hc, .int .i64 (i : Int), .slice ca ks.length kc])) (((W.setCell ⟨b2, 0, none⟩ u0).setCell ⟨b2, 1, none⟩ u1).setCell ⟨b2, 2, none⟩ u2) := by
  have K : Kept (fun b => b = b2) W (((W.setCell ⟨b2, 0, none⟩ u0).setCell ⟨b2, 1, none⟩ u1).setCell ⟨b2, 2, none⟩ u2) := ((Kept.setCell W ⟨b2, 0, none⟩ u0).trans (Kept.setCell _ ⟨b2, 1, none⟩ u1) (fun k e _ => e)).trans (Kept.setCell _ ⟨b2, 2, none⟩ u2) (fun k e _ => e)
  have ne : ∀ {T : TypeId}, T ≠ 73 → ∀ b cs f, W.heap[b]? = some (.cells cs T f) → ¬ b = b2 := fun ht b cs f hb => blk_ne hb h.res ht
  refine ⟨⟨hs, (i : Int), ks⟩, ⟨ha, hc⟩, ⟨ca, kc⟩, ys, rfl, ⟨i, L, hi, rfl, hsp.2, hk.1, hsp.1, fun j hj h2 => ⟨hk.2 j hj h2, h.len j h2, h.ok j h2⟩⟩, own_turn h.hd K (ne (by decide)), ⟨own_turn ho.row K (ne (by decide)), fun j c hj => ?_⟩, h.bel.trans (K.to_below h.bel.size (fun k e => e ▸ hb2))⟩
  obtain ⟨B, D, E, X, va, q1, q2⟩ := ho.each j c hj
  exact ⟨B, D, E, X, va, q1, q2.turnS K (ne (by decide)) (ne (by decide)) (ne (by decide))⟩
end Go.Proofs.Ytmhjjhaipcgbiaa
