/- Texts of this claim, one behind the other: InW, Gd, Lay1. -/
import Derived.Test.YtmhjjhaipcgbiaaBakP28
import Derived.Test.YtmhjjhaipcgbiaaBakP30
import Derived.Test.YtmhjjhaipcgbiaaBakP1
import Derived.Test.YtmhjjhaipcgbiaaBakP19
import Derived.Test.YtmhjjhaipcgbiaaBakP23
import Derived.Test.YtmhjjhaipcgbiaaBakP8
import Derived.BigQuiet

namespace Go.Proofs.Ytmhjjhaipcgbiaa
open Go.RowKit
set_option linter.unusedVariables false
section
variable {P : Program} {ops : Array Oper} {md : Region.Mode}
theorem tkO {Q : Exit → Act → World → Prop} {S : World → Prop} {z k : Nat} {o : Oper} {v : Value} {n : Nat} {l : Array Bool} {a : Act} {w : World} (hk0 : ops[k]? = some o) (hy : YieldsIf P ops S o v a) (hS : S w)
    (h : wpE P md ops (Only Q) S z n (l.setIfInBounds k true) (a.put o.dst v) w) (hs : Region.noSelect ops = true := by kernel_rfl) (hf : Region.free md ops l k = true := by kernel_rfl) (hr : (Region.ready md ops l).contains k = true := by kernel_rfl) (hz : (lastB md ops z && k != z && closedB md ops l) = true := by kernel_rfl) : wpE P md ops (Only Q) S z (n + 1) l a w :=
  wpE_take hk0 hs hf hr hz (fun _ _ _ h => absurd h.1 (by simp)) hy hS h
theorem wpE_two {Q : Exit → Act → World → Prop} {S : World → Prop} {z k j : Nat} {o p : Oper} {n : Nat} {l : Array Bool} {a : Act} {w : World} (hk0 : ops[k]? = some o) (hj0 : ops[j]? = some p) (hr : Region.ready md ops l = [k, j])
    (h1 : ∀ K : Act → World → Prop, Shut (∀ b u, S u → (S u → wpE P md ops Q S z n (l.setIfInBounds k true) b u) → K b u) → if Region.wanted o (yielded ops a.tmps) = true then Oper.wp P o a w K Q else K (a.put o.dst undef) w)
    (h2 : ∀ K : Act → World → Prop, Shut (∀ b u, S u → (S u → wpE P md ops Q S z n (l.setIfInBounds j true) b u) → K b u) → if Region.wanted p (yielded ops a.tmps) = true then Oper.wp P p a w K Q else K (a.put p.dst undef) w) : wpE P md ops Q S z (n + 1) l a w := by
  refine ⟨fun e => (by rw [hr] at e; cases e), fun i hi => ?_⟩
  rw [hr] at hi
  rcases (show i = k ∨ i = j by simpa using hi) with rfl | rfl
  · exact wpOp_step hk0 (fun K hK => h1 K (fun b u hS hW => hK b u ⟨fun _ => hS, hW hS⟩))
  · exact wpOp_step hj0 (fun K hK => h2 K (fun b u hS hW => hK b u ⟨fun _ => hS, hW hS⟩))
end
end Go.Proofs.Ytmhjjhaipcgbiaa


namespace Go.Proofs.Ytmhjjhaipcgbiaa
open Go.RowKit
set_option linter.unusedVariables false
set_option linter.unusedSimpArgs false
set_option maxRecDepth 100000
set_option maxHeartbeats 1000000
theorem box2t {w : World} {b : Nat} {x0 x1 : Value} {T : TypeId} (h : w.heap[b]? = some (.cells #[x0, x1] T (0, 0))) : w.cell? ⟨b, 0, none⟩ = some x0 ∧ w.cell? ⟨b, 1, none⟩ = some x1 := by
  refine ⟨?_, ?_⟩ <;> (rw [cell_blk h]; rfl)
def ColQ (c : Col) (b : Nat) (s : RS) (w : World) (e : Ending) (w' : World) : Prop := ∃ B D E X vals A', e = .returned (colV c B D E X) ∧ OwnD w' w.heap.size c B D E X vals ∧ RdR w' b A' s ∧ Kept (fun k => k = b) w w'
abbrev zCol (T : TypeId) : Obj := .cells #[.int .i64 0, .int .i64 0, .int .i64 0, .int .i64 0, .slice none 0 0, .slice none 0 0, .slice none 0 0, .slice none 0 0] T
theorem col_start {w W W2 : World} {b tb rb cb : Nat} {k sc rows : Int} {s1 : RS} {l : List Int} {T A' : SL} (hb : b < w.heap.size) (h4 : W.heap[tb]? = some (.cells #[.int .i64 k, .int .i64 sc] 23 (0, 0))) (h6 : W.heap[rb]? = some (zCol 43)) (hk : Kept (fun k => k = b) w W)
    (ht : w.heap.size ≤ tb ∧ w.heap.size ≤ rb) (hbox : W2.heap[cb]? = some (.cells #[.int .i64 k, .int .i64 sc, .int .i64 rows, .int .i64 rows, .slice T.a l.length T.c, .slice none 0 0, .slice none 0 0, .slice none 0 0] 43 (0, 0))) (hcb : W.heap.size ≤ cb) (ho : Own W2 W.heap.size 5 1 (.slice T.a l.length T.c) l.length (l.map (.int .u8)))
    (hr : RdR W2 b A' s1) (hk2 : Kept (fun k => k = b) W W2) : ColM w b tb rb cb k sc ⟨k, sc, rows, rows, l, [], [], []⟩ T ⟨none, 0⟩ ⟨none, 0⟩ ⟨none, 0⟩ [] s1 A' W2 := by
  have hsz := hk.size
  have l6 := lt_of_blk h6
  have l4 := lt_of_blk h4
  refine ⟨hbox, (hk2.block _ l4 (by omega)).trans h4, (hk2.block _ l6 (by omega)).trans h6, ⟨ho.mono hsz, Own.nil _ _ _ _, Own.nil _ _ _ _, Own.nil _ _ _ _, rfl, fun i t hi => by cases hi⟩, hr, hk.trans hk2 (fun k e _ => e), hb, ht.1, ht.2, by omega, by omega⟩
theorem set8c {w : World} {b : Nat} {x0 x1 x2 x3 x4 x5 x6 x7 : Value} {T : TypeId} (h : w.heap[b]? = some (.cells #[x0, x1, x2, x3, x4, x5, x6, x7] T (0, 0))) (y0 y1 y2 y3 y4 y5 y6 y7 : Value) :
    ((((((((w.setCell ⟨b, 0, none⟩ y0).setCell ⟨b, 1, none⟩ y1).setCell ⟨b, 2, none⟩ y2).setCell ⟨b, 3, none⟩ y3).setCell ⟨b, 4, none⟩ y4).setCell ⟨b, 5, none⟩ y5).setCell ⟨b, 6, none⟩ y6).setCell ⟨b, 7, none⟩ y7).heap[b]? = some (.cells #[y0, y1, y2, y3, y4, y5, y6, y7] T (0, 0)) := by
  have h := heap_setCell_at (k := 7) (heap_setCell_at (k := 6) (heap_setCell_at (k := 5) (heap_setCell_at (k := 4) (heap_setCell_at (k := 3) (heap_setCell_at (k := 2) (heap_setCell_at (k := 1) (heap_setCell_at (k := 0) h y0) y1) y2) y3) y4) y5) y6) y7
  simpa using h
theorem kept8c (w : World) (b : Nat) (y0 y1 y2 y3 y4 y5 y6 y7 : Value) : Kept (fun k => k = b) w ((((((((w.setCell ⟨b, 0, none⟩ y0).setCell ⟨b, 1, none⟩ y1).setCell ⟨b, 2, none⟩ y2).setCell ⟨b, 3, none⟩ y3).setCell ⟨b, 4, none⟩ y4).setCell ⟨b, 5, none⟩ y5).setCell ⟨b, 6, none⟩ y6).setCell ⟨b, 7, none⟩ y7) := by
  repeat (refine Kept.trans ?_ (Kept.setCell _ _ _) (fun _ e _ => e))
  exact Kept.refl _ _
theorem intinfoG : (Try.prog.info? 3).map (fun i => (i.zero, i.size, i.bytes)) = some (some (.int .i64 0), 1, 8) := by kernel_rfl
structure EndI (w : World) (b tb rb cb : Nat) (k sc rows : Int) (bits : List Int) (T : SL) (fin : List Int × Int × RS) (m : Nat) (es : List Int) (z : Int) (s : RS) (E A : SL) (W : World) : Prop where
  cm : ColM w b tb rb cb k sc ⟨k, sc, rows, rows, bits, [], es, []⟩ T ⟨none, 0⟩ E ⟨none, 0⟩ [] s A W
  hd : es ++ (endsR m s z).1 = fin.1
  fi : (endsR m s z).2 = fin.2
theorem EndI.next {w : World} {b tb rb cb : Nat} {k sc rows : Int} {bits : List Int} {T : SL} {fin : List Int × Int × RS} {m : Nat} {es : List Int} {z : Int} {s : RS} {E A E' A' : SL} {W W' : World} (h : EndI w b tb rb cb k sc rows bits T fin (m + 1) es z s E A W) (hs : s.short = false)
    (h2 : ColM w b tb rb cb k sc ⟨k, sc, rows, rows, bits, [], es ++ [numR s], []⟩ T ⟨none, 0⟩ E' ⟨none, 0⟩ [] (numS s) A' W') : EndI w b tb rb cb k sc rows bits T fin m (es ++ [numR s]) (numR s) (numS s) E' A' W' := by
  have h1 := h.hd
  have h3 := h.fi
  rw [endsR, if_neg (by rw [hs]; decide)] at h1 h3
  exact ⟨h2, by rw [List.append_assoc]; exact h1, h3⟩
theorem EndI.done {w : World} {b tb rb cb : Nat} {k sc rows : Int} {bits : List Int} {T : SL} {fin : List Int × Int × RS} {m : Nat} {es : List Int} {z : Int} {s : RS} {E A : SL} {W : World} (h : EndI w b tb rb cb k sc rows bits T fin m es z s E A W) (hd : m = 0 ∨ s.short = true) : z = fin.2.1 ∧ ColM w b tb rb cb k sc ⟨k, sc, rows, rows, bits, [], fin.1, []⟩ T ⟨none, 0⟩ E ⟨none, 0⟩ [] fin.2.2 A W := by
  have e : endsR m s z = ([], z, s) := by
    rcases hd with rfl | hd
    · rfl
    · cases m with
      | zero => rfl
      | succ m => rw [endsR, if_pos hd]
  have h1 := h.hd
  have h3 := h.fi
  rw [e] at h1 h3
  simp only [List.append_nil] at h1
  rw [← h1, ← h3]
  exact ⟨rfl, h.cm⟩
theorem bytesinfoG : (Try.prog.info? 37).map (fun i => (i.zero, i.size, i.bytes)) = some (some (.slice none 0 0), 1, 24) := by kernel_rfl
structure WordI (w : World) (b tb rb cb : Nat) (k sc rows : Int) (bits data es : List Int) (B D E : SL) (s0 : RS) (fin : List (List Int) × RS) (m : Nat) (ws : List (List Int)) (s : RS) (X : SL) (vals : List Value) (A : SL) (W : World) : Prop where
  cm : ColM w b tb rb cb k sc ⟨k, sc, rows, rows, bits, data, es, ws⟩ B D E X vals s A W
  hd : ws ++ (wordsR m s).1 = fin.1
  fi : (wordsR m s).2 = fin.2
  few : ws.length ≤ s0.rest.length + 1
  few2 : s.short = false → ws.length + s.rest.length ≤ s0.rest.length
theorem WordI.next {w : World} {b tb rb cb : Nat} {k sc rows : Int} {bits data es : List Int} {B D E : SL} {s0 : RS} {fin : List (List Int) × RS} {m : Nat} {ws : List (List Int)} {s : RS} {X X' : SL} {vals vals' : List Value} {A A' : SL} {W W' : World} (h : WordI w b tb rb cb k sc rows bits data es B D E s0 fin (m + 1) ws s X vals A W) (hs : s.short = false)
    (h2 : ColM w b tb rb cb k sc ⟨k, sc, rows, rows, bits, data, es, ws ++ [takeL (numR s) (numS s)]⟩ B D E X' vals' (hS2 s) A' W') : WordI w b tb rb cb k sc rows bits data es B D E s0 fin m (ws ++ [takeL (numR s) (numS s)]) (hS2 s) X' vals' A' W' := by
  have h1 := h.hd
  have h3 := h.fi
  have h4 := h.few2 hs
  rw [wordsR, if_neg (by rw [hs]; decide)] at h1 h3
  refine ⟨h2, by rw [List.append_assoc]; exact h1, h3, by rw [List.length_append, List.length_singleton]; omega, fun e => ?_⟩
  have := (hS2_ok e).1
  rw [List.length_append, List.length_singleton]; omega
theorem WordI.done {w : World} {b tb rb cb : Nat} {k sc rows : Int} {bits data es : List Int} {B D E : SL} {s0 : RS} {fin : List (List Int) × RS} {m : Nat} {ws : List (List Int)} {s : RS} {X : SL} {vals : List Value} {A : SL} {W : World} (h : WordI w b tb rb cb k sc rows bits data es B D E s0 fin m ws s X vals A W) (hd : m = 0 ∨ s.short = true) : ColM w b tb rb cb k sc ⟨k, sc, rows, rows, bits, data, es, fin.1⟩ B D E X vals fin.2 A W := by
  have e : wordsR m s = ([], s) := by
    rcases hd with rfl | hd
    · rfl
    · cases m with
      | zero => rfl
      | succ m => rw [wordsR, if_pos hd]
  have h1 := h.hd
  have h3 := h.fi
  rw [e] at h1 h3
  simp only [List.append_nil] at h1
  rw [← h1, ← h3]
  exact h.cm
theorem column20_any (s : RS) (k sc rows : Int) (hr0 : 0 ≤ rows) (hr1 : rows ≤ 4611686018427387904) (b : Nat) (A : SL) (w : World) (h : RdR w b A s) : Calls Try.prog 84 #[.pointer (some ⟨b, 0, none⟩), .agg #[.int .i64 k, .int .i64 sc], .int .i64 rows] w (ColQ (colR k sc rows s).1 b (colR k sc rows s).2 w) := by
  have H := Aside.mk h
  have HLB := Aside.mk (lt_of_blk h.box)
  have hfew := h.few
  clear h
  go_enter Try.func84, Try.ntmps84
  go_upto_region 1 with fail
  have hb1 := below_new w (.cells #[.int .i64 k, .int .i64 sc] 23)
  have hx1 := heap_alloc_new w (.cells #[.int .i64 k, .int .i64 sc] 23)
  have hz1 : (w.alloc (.cells #[.int .i64 k, .int .i64 sc] 23)).heap.size = w.heap.size + 1 := by simp
  generalize w.alloc (.cells #[.int .i64 k, .int .i64 sc] 23) = w1 at *
  have hb2 := below_new w1 (zCol 43)
  have hx2 := heap_alloc_new w1 (zCol 43)
  rw [hz1] at hx2
  have HX4 := Aside.mk ((hb2.block _ (lt_of_blk hx1)).trans hx1)
  have HX6 := Aside.mk hx2
  have HB := Aside.mk (below_chain hb1 hb2)
  clear hb1 hb2 hx1 hx2 hz1
  generalize w1.alloc (zCol 43) = w2 at *
  replace H := Aside.mk (H.out.below HB.out)
  obtain ⟨rb, hrb⟩ : ∃ x, x = w.heap.size + 1 := ⟨_, rfl⟩
  obtain ⟨tb, htb⟩ : ∃ x, x = w.heap.size := ⟨_, rfl⟩
  rw [← hrb] at HX6 ⊢
  rw [← htb] at HX4 ⊢
  have HLT := Aside.mk (show w.heap.size ≤ tb ∧ w.heap.size ≤ rb by omega)
  have hbr1 : b ≠ rb := by have := HLB.out; omega
  have hbr2 : rb ≠ b := Ne.symm hbr1
  have hbt1 : b ≠ tb := by have := HLB.out; omega
  have hbt2 : tb ≠ b := Ne.symm hbt1
  clear hrb htb
  obtain ⟨Aa, Ac⟩ := A
  obtain ⟨c0, c1⟩ := boxR H.out.box
  have hfz := fun k => frozen_blk (k := k) H.out.box
  obtain ⟨t0, t1⟩ := box2t HX4.out
  obtain ⟨x0, x1, x2, x3, x4, x5, x6, x7⟩ := box8 HX6.out
  have hfx := fun k => frozen_blk (k := k) HX6.out
  by_cases hbig : 8 * (s.rest.length : Int) < rows
  · have hd : decide (8 * (s.rest.length : Int) < rows) = true := decide_eq_true hbig
    have e : colR k sc rows s = (⟨0, 0, 0, 0, [], [], [], []⟩, ⟨s.rest, true⟩) := by unfold colR; rw [if_pos hbig]
    have HE := Aside.mk e
    clear e
    obtain ⟨L, hL⟩ : ∃ L, L = s.rest.length := ⟨_, rfl⟩
    dsimp only at c0
    rw [← hL] at c0 hfew hbig hd
    clear hL
    go_wp2_with fail
    clear c0 c1 hfz t0 t1 x0 x1 x2 x3 x4 x5 x6 x7 hfx
    have HR2 := H.out.fail
    have HX62 := (Kept.block (Kept.setCell w2 ⟨b, 1, none⟩ (.bool true)) _ (lt_of_blk HX6.out) hbr2).trans HX6.out
    have hk0 := Kept.setCell w2 ⟨b, 1, none⟩ (.bool true)
    generalize w2.setCell ⟨b, 1, none⟩ (.bool true) = w3 at *
    have hz9 := set8c HX62 (.int .i64 0) (.int .i64 0) (.int .i64 0) (.int .i64 0) (.slice none 0 0) (.slice none 0 0) (.slice none 0 0) (.slice none 0 0)
    have hk9 := kept8c w3 rb (.int .i64 0) (.int .i64 0) (.int .i64 0) (.int .i64 0) (.slice none 0 0) (.slice none 0 0) (.slice none 0 0) (.slice none 0 0)
    obtain ⟨g0, g1, g2, g3, g4, g5, g6, g7⟩ := box8 hz9
    refine bodyPost_ret (v := .agg #[.int .i64 0, .int .i64 0, .int .i64 0, .int .i64 0, .slice none 0 0, .slice none 0 0, .slice none 0 0, .slice none 0 0]) (by simp [results, Try.results84, go_sem, g0, g1, g2, g3, g4, g5, g6, g7]) rfl ?_
    rw [HE.out]
    have l0 := HLB.out
    have l1 := HLT.out.2
    exact ⟨⟨none, 0⟩, ⟨none, 0⟩, ⟨none, 0⟩, ⟨none, 0⟩, [], ⟨Aa, Ac⟩, rfl, ⟨Own.nil _ _ _ _, Own.nil _ _ _ _, Own.nil _ _ _ _, Own.nil _ _ _ _, rfl, fun i t hi => by cases hi⟩, HR2.kept hk9 (fun k e => by omega), ((Kept.of_below HB.out).trans hk0 (fun k e _ => e)).trans hk9 (fun k e _ => by omega)⟩
  · have hd : decide (8 * (s.rest.length : Int) < rows) = false := decide_eq_false hbig
    have e : colR k sc rows s = (⟨k, sc, rows, rows, takeL ((rows + 7) / 8) s, takeL (colEnds k rows s).2.1 (colEnds k rows s).2.2, (colEnds k rows s).1, (colWords k (colS3 k rows s)).1⟩, (colWords k (colS3 k rows s)).2) := by unfold colR; rw [if_neg hbig]
    have HE := Aside.mk e
    clear e
    have hr2 : rows ≤ 800000000 := by omega
    have hw7 : IntKind.i64.wrap (rows + 7) = rows + 7 := IntWalk.i64_in _ (by omega)
    have hq8 : (rows + 7).tdiv 8 = (rows + 7) / 8 := Int.tdiv_eq_ediv_of_nonneg (by omega)
    have hw8 : IntKind.i64.wrap ((rows + 7) / 8) = (rows + 7) / 8 := IntWalk.i64_in _ (by omega)
    clear hbig hr1
    go_upto_region 4 with fail
    clear c0 c1 hfz x0 x1 x2 x3 x4 x5 x6 x7 hfx
    go_cut [7] from 24 to 33 (fun v wx => ∃ (cb : Nat) (A' T : SL), v = .pointer (some ⟨cb, 0, none⟩) ∧ Aside (ColM w b tb rb cb k sc ⟨k, sc, rows, rows, takeL ((rows + 7) / 8) s, [], [], []⟩ T ⟨none, 0⟩ ⟨none, 0⟩ ⟨none, 0⟩ [] (takeS ((rows + 7) / 8) s) A' wx))
    case first =>
      refine wp_regionO (fun U : World => U.cell? ⟨tb, 0, none⟩ = some (.int .i64 k) ∧ U.cell? ⟨tb, 1, none⟩ = some (.int .i64 sc)) 11 12 (by kernel_rfl) rfl ?_
      have hS : (fun U : World => U.cell? ⟨tb, 0, none⟩ = some (.int .i64 k) ∧ U.cell? ⟨tb, 1, none⟩ = some (.int .i64 sc)) w2.drew := ⟨t0, t1⟩
      clear t0 t1
      refine tkO (k := 0) (o := ⟨some 24, _, _, _, _, _⟩) (v := ?_) rfl (Or.inl ⟨by rfl, ?_⟩) (by assumption) ?_
      rotate_left
      · (intro w hSw; obtain ⟨t0, t1⟩ := hSw; go_simp; (try with_reducible rfl))
      (try simp only [Act.put, List.setIfInBounds_toArray, List.set_cons_zero, List.set_cons_succ])
      refine tkO (k := 1) (o := ⟨some 25, _, _, _, _, _⟩) (v := ?_) rfl (Or.inl ⟨by rfl, ?_⟩) (by assumption) ?_
      rotate_left
      · (intro w hSw; go_simp; (try with_reducible rfl))
      (try simp only [Act.put, List.setIfInBounds_toArray, List.set_cons_zero, List.set_cons_succ])
      refine tkO (k := 2) (o := ⟨some 26, _, _, _, _, _⟩) (v := ?_) rfl (Or.inl ⟨by rfl, ?_⟩) (by assumption) ?_
      rotate_left
      · (intro w hSw; go_simp; (try with_reducible rfl))
      (try simp only [Act.put, List.setIfInBounds_toArray, List.set_cons_zero, List.set_cons_succ])
      refine tkO (k := 3) (o := ⟨some 27, _, _, _, _, _⟩) (v := ?_) rfl (Or.inl ⟨by rfl, ?_⟩) (by assumption) ?_
      rotate_left
      · (intro w hSw; go_simp; (try with_reducible rfl))
      (try simp only [Act.put, List.setIfInBounds_toArray, List.set_cons_zero, List.set_cons_succ])
      refine tkO (k := 4) (o := ⟨some 28, _, _, _, _, _⟩) (v := ?_) rfl (Or.inl ⟨by rfl, ?_⟩) (by assumption) ?_
      rotate_left
      · (intro w hSw; go_simp; (try with_reducible rfl))
      (try simp only [Act.put, List.setIfInBounds_toArray, List.set_cons_zero, List.set_cons_succ])
      refine tkO (k := 5) (o := ⟨some 29, _, _, _, _, _⟩) (v := ?_) rfl (Or.inl ⟨by rfl, ?_⟩) (by assumption) ?_
      rotate_left
      · (intro w hSw; go_simp; (try with_reducible rfl))
      (try simp only [Act.put, List.setIfInBounds_toArray, List.set_cons_zero, List.set_cons_succ])
      refine tkO (k := 6) (o := ⟨some 30, _, _, _, _, _⟩) (v := ?_) rfl (Or.inl ⟨by rfl, ?_⟩) (by assumption) ?_
      rotate_left
      · (intro w hSw; go_simp; (try with_reducible rfl))
      (try simp only [Act.put, List.setIfInBounds_toArray, List.set_cons_zero, List.set_cons_succ])
      have HTK := Aside.mk (fun (U : World) (hU : RdR U b ⟨Aa, Ac⟩ s) => take_any s ((rows + 7) / 8) b ⟨Aa, Ac⟩ U hU)
      generalize hnb : (rows + 7) / 8 = nb at *
      have HNB := Aside.mk hnb
      clear hnb
      clear hw7 hq8 hw8
      refine wpE_two (k := 7) (j := 10) (o := ⟨some 31, _, _, _, _, _⟩) (p := ⟨some 7, _, _, _, _, _⟩) rfl rfl (by kernel_rfl) (fun K hK => ?_) (fun K hK => ?_)
      · refine step_callG (P := Try.prog) w2.drew 80 [.tmp 27, .tmp 30] _ (by rfl) (by kernel_rfl) _ (by rfl) (fun _ _ => rfl) (HTK.out _ (H.out.below (below_drewN w2 _ 1))) ?_
        rintro e w3 ⟨T, A', rfl, ho, hr, hk⟩
        refine ⟨_, rfl, ?_⟩
        have hx4 := (hk.block _ (lt_of_blk HX4.out) hbt2).trans HX4.out
        refine hK.out _ _ (box2t hx4) (fun hS => ?_)
        clear hK K
        try simp only [Act.put, List.setIfInBounds_toArray, List.set_cons_zero, List.set_cons_succ]
        refine tkO (k := 8) (o := ⟨some 32, _, _, _, _, _⟩) (v := ?_) rfl (Or.inl ⟨by rfl, ?_⟩) (by assumption) ?_
        rotate_left
        · (intro w hSw; go_simp; (try with_reducible rfl))
        (try simp only [Act.put, List.setIfInBounds_toArray, List.set_cons_zero, List.set_cons_succ])
        refine tkO (k := 9) (o := ⟨some 33, _, _, _, _, _⟩) (v := ?_) rfl (Or.inl ⟨by rfl, ?_⟩) (by assumption) ?_
        rotate_left
        · (intro w hSw; go_simp; (try with_reducible rfl))
        (try simp only [Act.put, List.setIfInBounds_toArray, List.set_cons_zero, List.set_cons_succ])
        refine wpE_one (k := 10) (o := ⟨some 7, _, _, _, _, _⟩) rfl (by kernel_rfl) (fun K hK => ?_)
        go_simp
        have hb8 := below_new w3 (zCol 43)
        have hz8 := heap_alloc_new w3 (zCol 43)
        refine hK.out _ _ (box2t ((hb8.block _ (lt_of_blk hx4)).trans hx4)) (fun hS => ?_)
        clear hK K
        try simp only [Act.put, List.setIfInBounds_toArray, List.set_cons_zero, List.set_cons_succ]
        refine wpE_last (k := 11) (o := ⟨none, _, _, _, _, _⟩) rfl (by kernel_rfl) (by kernel_rfl) rfl (fun K hK => ?_)
        go_simp
        refine hK.out _ _ ?_
        clear hK K hS hb8 hz8
        refine ⟨rfl, ?_⟩
        have hb9 := below_new w3 (.cells #[.int .i64 k, .int .i64 sc, .int .i64 rows, .int .i64 rows, .slice T.a (takeL nb s).length T.c, .slice none 0 0, .slice none 0 0, .slice none 0 0] 43)
        have hz9 := heap_alloc_new w3 (.cells #[.int .i64 k, .int .i64 sc, .int .i64 rows, .int .i64 rows, .slice T.a (takeL nb s).length T.c, .slice none 0 0, .slice none 0 0, .slice none 0 0] 43)
        have HC := Aside.mk (col_start (W := w2.drew) HLB.out HX4.out HX6.out (Kept.of_below (below_chain HB.out (below_drewN w2 _ 1))) HLT.out hz9 hk.size (ho.below hb9) (hr.below hb9) (hk.trans (Kept.of_below hb9) (fun k e _ => e)))
        clear ho hr hk hx4 hb9 hz9
        go_wp2_with fail
        go_meet
        exact ⟨w3.heap.size, A', T, rfl, HC⟩
      · go_simp
        have hb3 : Below w2.heap.size w2 (w2.alloc (zCol 43)).drew := (below_new w2 (zCol 43)).trans (below_drewN _ _ 1)
        have hz3 : (w2.alloc (zCol 43)).drew.heap[w2.heap.size]? = some (zCol 43) := heap_alloc_new w2 (zCol 43)
        have HX43 := Aside.mk ((hb3.block _ (lt_of_blk HX4.out)).trans HX4.out)
        refine hK.out _ _ (box2t HX43.out) (fun hS => ?_)
        clear hK K
        have HZ3 := Aside.mk hz3
        have HB3 := Aside.mk hb3
        obtain ⟨cb, hcb⟩ : ∃ x, x = w2.heap.size := ⟨_, rfl⟩
        have hcb2 : cb ≠ b := by have := lt_of_blk H.out.box; omega
        have HCB := Aside.mk (show w2.heap.size ≤ cb by omega)
        rw [← hcb] at HZ3 ⊢
        clear hz3 hb3 hcb
        generalize (w2.alloc (zCol 43)).drew = w3 at *
        try simp only [Act.put, List.setIfInBounds_toArray, List.set_cons_zero, List.set_cons_succ]
        refine wpE_one (k := 7) (o := ⟨some 31, _, _, _, _, _⟩) rfl (by kernel_rfl) (fun K hK => ?_)
        refine step_callG (P := Try.prog) w3 80 [.tmp 27, .tmp 30] _ (by rfl) (by kernel_rfl) _ (by rfl) (fun _ _ => rfl) (HTK.out _ (H.out.below HB3.out)) ?_
        rintro e w4 ⟨T, A', rfl, ho, hr, hk⟩
        refine ⟨_, rfl, ?_⟩
        have hx4 := (hk.block _ (lt_of_blk HX43.out) hbt2).trans HX43.out
        refine hK.out _ _ (box2t hx4) (fun hS => ?_)
        clear hK K
        try simp only [Act.put, List.setIfInBounds_toArray, List.set_cons_zero, List.set_cons_succ]
        refine tkO (k := 8) (o := ⟨some 32, _, _, _, _, _⟩) (v := ?_) rfl (Or.inl ⟨by rfl, ?_⟩) (by assumption) ?_
        rotate_left
        · (intro w hSw; go_simp; (try with_reducible rfl))
        (try simp only [Act.put, List.setIfInBounds_toArray, List.set_cons_zero, List.set_cons_succ])
        refine tkO (k := 9) (o := ⟨some 33, _, _, _, _, _⟩) (v := ?_) rfl (Or.inl ⟨by rfl, ?_⟩) (by assumption) ?_
        rotate_left
        · (intro w hSw; go_simp; (try with_reducible rfl))
        (try simp only [Act.put, List.setIfInBounds_toArray, List.set_cons_zero, List.set_cons_succ])
        have hz4 := (hk.block _ (lt_of_blk HZ3.out) hcb2).trans HZ3.out
        obtain ⟨y0, y1, y2, y3, y4, y5, y6, y7⟩ := box8 hz4
        have hfz := fun k => frozen_blk (k := k) hz4
        refine wpE_last (k := 11) (o := ⟨none, _, _, _, _, _⟩) rfl (by kernel_rfl) (by kernel_rfl) rfl (fun K hK => ?_)
        go_simp
        refine hK.out _ _ ?_
        clear hK K hS
        refine ⟨rfl, ?_⟩
        have hz9 := set8c hz4 (.int .i64 k) (.int .i64 sc) (.int .i64 rows) (.int .i64 rows) (.slice T.a (takeL nb s).length T.c) (.slice none 0 0) (.slice none 0 0) (.slice none 0 0)
        have hk9 := kept8c w4 cb (.int .i64 k) (.int .i64 sc) (.int .i64 rows) (.int .i64 rows) (.slice T.a (takeL nb s).length T.c) (.slice none 0 0) (.slice none 0 0) (.slice none 0 0)
        have hlb := lt_of_blk H.out.box
        have hcb3 := HCB.out
        have hl3 := lt_of_blk HZ3.out
        have HC := Aside.mk (col_start (W := w2) HLB.out HX4.out HX6.out (Kept.of_below HB.out) HLT.out hz9 (by omega) ((ho.mono HB3.out.size).kept hk9 (fun k e e' => by have := (ho.lt k e).1; have := HCB.out; omega)) (hr.kept hk9 (fun k e => by omega)) (((Kept.of_below HB3.out).trans hk (fun k e _ => e)).trans hk9 (fun k e _ => by omega)))
        clear ho hr hk hx4 hz9 hk9 y0 y1 y2 y3 y4 y5 y6 y7 hfz
        go_wp2_with fail
        go_meet
        exact ⟨cb, A', T, rfl, HC⟩
    case rest =>
    obtain ⟨cb, A', T, rfl, HM⟩ := hcut
    clear HX4 HX6 H HB t0 t1 hbr1 hbr2 hbt1 hbt2 hw7 hq8 hw8
    obtain ⟨t0, t1⟩ := box2t HM.out.tbox
    obtain ⟨wd, hwd, hwd8⟩ := width_nat k
    have hwm : 0 ≤ rows * widthOf k ∧ rows * widthOf k ≤ 6400000000 := by
      rw [hwd]
      exact ⟨Int.mul_nonneg hr0 (by omega), Int.le_trans (Int.mul_le_mul hr2 (show (wd : Int) ≤ 8 by omega) (by omega) (by omega)) (by decide)⟩
    have hmul : IntKind.i64.wrap (rows * widthOf k) = rows * widthOf k := IntWalk.i64_in _ (by omega)
    clear hwd hwd8 wd
    go_upto_region 6 with (go_at_call 12; refine (width_any _ _).mono ?_; rintro e w4 ⟨rfl, rfl⟩)
    go_cut [41] from 39 to 41 (fun v wx => ∃ d : Bool, v = .bool d ∧ Aside (d = decide (k = 15)) ∧ wx = wc)
    case first =>
      go_wp2_with fail
      go_meet
      exact ⟨_, rfl, ⟨rfl⟩, rfl⟩
    case rest =>
    obtain ⟨d, rfl, hd15, rfl⟩ := hcut
    go_step
    go_cut [8] from 42 to 61 (fun v wx => ∃ (E A2 : SL), v = .int .i64 (colEnds k rows s).2.1 ∧ Aside (ColM w b tb rb cb k sc ⟨k, sc, rows, rows, takeL ((rows + 7) / 8) s, [], (colEnds k rows s).1, []⟩ T ⟨none, 0⟩ E ⟨none, 0⟩ [] (colEnds k rows s).2.2 A2 wx))
    case first =>
      clear t0 t1 hmul
      by_cases h15 : k = 15
      · obtain rfl : d = true := by rw [hd15.out, decide_eq_true h15]
        have hce : colEnds k rows s = endsR rows.toNat (takeS ((rows + 7) / 8) s) (rows * widthOf k) := by unfold colEnds; rw [if_pos h15]
        obtain ⟨m, rfl⟩ := Int.eq_ofNat_of_zero_le hr0
        have HI := Aside.mk (show EndI w b tb rb cb k sc (m : Int) (takeL (((m : Int) + 7) / 8) s) T (colEnds k (m : Int) s) m [] ((m : Int) * widthOf k) (takeS (((m : Int) + 7) / 8) s) ⟨none, 0⟩ A' wc from ⟨HM.out, by rw [hce]; rfl, by rw [hce]; rfl⟩)
        clear hce HM hd15 hd h15
        generalize (m : Int) * widthOf k = z0 at *
        generalize colEnds k (m : Int) s = fin at *
        generalize takeS (((m : Int) + 7) / 8) s = s1 at *
        generalize takeL (((m : Int) + 7) / 8) s = bits at *
        go_wp2_with fail
        go_loopw [8, 9] (fun zv iv wr => ∃ (i : Nat) (es : List Int) (z : Int) (s : RS) (E A : SL), i ≤ m ∧ iv = .int .i64 (i : Int) ∧ zv = .int .i64 z ∧ es.length ≤ i ∧ Aside (EndI w b tb rb cb k sc (m : Int) bits T fin (m - i) es z s E A wr)) (fun _ iv _ => m - (intOf iv).toNat)
        case atStart => exact ⟨0, [], _, s1, ⟨none, 0⟩, A', Nat.zero_le _, rfl, rfl, Nat.le_refl _, HI⟩
        case round =>
          clear HI
          obtain ⟨i, es, z, s2, E, A1, hi, rfl, rfl, hel, HI⟩ := hrel
          have hfz := fun k => frozen_blk (k := k) HI.out.cm.rd.box
          obtain ⟨c0, c1⟩ := boxR HI.out.cm.rd.box
          by_cases hlt : i < m
          · have hd : decide ((i : Int) < (m : Int)) = true := decide_eq_true (by omega)
            cases hsh : s2.short with
            | true =>
              rw [hsh] at c1
              obtain ⟨hz, HE⟩ := HI.out.done (.inr hsh)
              have HE' := Aside.mk HE
              have HZ := Aside.mk hz
              clear hsh hz HE
              go_wp2_with fail
              go_meet
              exact ⟨E, A1, by rw [HZ.out], HE'⟩
            | false =>
              rw [hsh] at c1
              have HSH := Aside.mk hsh
              clear hsh
              go_upto_region 11 with (go_at_call 82; refine (number_any _ _ _ _ HI.out.cm.rd).mono ?_; rintro e w3 ⟨rfl, A3, hr, hk⟩; have HM := Aside.mk (HI.out.cm.call hr hk); clear hr hk c0 c1 hfz)
              obtain ⟨x0, x1, x2, x3, x4, x5, x6, x7⟩ := box8 HM.out.box
              have hw1 : IntKind.i64.wrap ((i : Int) + 1) = (i : Int) + 1 := IntWalk.i64_in _ (by omega)
              dsimp only at x6
              go_wp2_with (at_builtin; refine wpList_app2 _ rfl _ _ 40 40 rfl w.heap.size 3 (.int .i64 0) 1 8 Try.underlying40 intinfoG rfl (.slice E.a es.length E.c) es.length _ rfl (HM.out.own.ends.alloc _) _ 1 [.int .i64 (numR s2)] rfl (src_one Try.underlying40 _ _ _ rfl rfl) (by unfold maxLen; omega) (by omega) (by have := HM.out.kept.size; simp; omega) ?_; intro v' w10 hA; obtain ⟨a8, c8, rfl⟩ := hA.own.form; have HA := Aside.mk hA; have hcx := (HM.out.grow HM.out.own.ends ⟨by decide, by decide, by decide⟩ ((Kept.of_below (S := fun k => (Value.slice E.a es.length E.c).ownBlock = some k) (below_new w3 _)).trans (Kept.of_grown hA.grown) (fun k e _ => e.symm)) 6 (.slice a8 (es.length + 1) c8)).2.2.2.2.2; obtain ⟨y0, y1, y2, y3, y4, y5, y6, y7⟩ := box8 hcx; have hfy := fun k => frozen_blk (k := k) hcx; clear hA hcx x0 x1 x2 x3 x4 x5 x6 x7)
              have HN := Aside.mk ((show EndI w b tb rb cb k sc (m : Int) bits T fin (m - (i + 1) + 1) es z s2 E A1 wr from by rw [show m - (i + 1) + 1 = m - i by omega]; exact HI.out).next HSH.out (HM.out.addEnd HA.out))
              clear HA HM y0 y1 y2 y3 y4 y5 y6 y7 hfy
              go_roundw
              case rel => exact ⟨i + 1, es ++ [numR s2], numR s2, numS s2, ⟨a8, c8⟩, A3, by omega, by go_num, rfl, by rw [List.length_append, List.length_singleton]; omega, HN⟩
              case measure => simp [intOf]; omega
          · obtain rfl : i = m := by omega
            have hd : decide ((i : Int) < (i : Int)) = false := decide_eq_false (by omega)
            obtain ⟨hz, HE⟩ := HI.out.done (.inl (by omega))
            have HE' := Aside.mk HE
            have HZ := Aside.mk hz
            clear hz HE
            go_wp2_with fail
            go_meet
            exact ⟨E, A1, by rw [HZ.out], HE'⟩
      · obtain rfl : d = false := by rw [hd15.out, decide_eq_false h15]
        have hce : colEnds k rows s = ([], rows * widthOf k, takeS ((rows + 7) / 8) s) := by unfold colEnds; rw [if_neg h15]
        have HCE := Aside.mk hce
        clear hce
        go_wp2_with fail
        go_meet
        exact ⟨⟨none, 0⟩, A', by rw [HCE.out], by rw [HCE.out]; exact HM⟩
    case rest =>
    obtain ⟨E, A2, rfl, HM2⟩ := hcut
    clear HM hd15 hmul hwm t0 t1
    go_step
    have HTK := Aside.mk (take_any (colEnds k rows s).2.2 (colEnds k rows s).2.1 b A2 _ HM2.out.rd)
    go_upto_region 13 with (go_at_call 80; refine HTK.out.mono ?_; rintro e w5 ⟨D, A3, rfl, ho, hr, hk⟩; have HM3 := Aside.mk (HM2.out.call hr hk); have HDO := Aside.mk (ho.mono HM2.out.kept.size); obtain ⟨x0, x1, x2, x3, x4, x5, x6, x7⟩ := box8 HM3.out.box; have hfx := fun k => frozen_blk (k := k) HM3.out.box; clear hr hk ho HTK)
    replace HM3 := Aside.mk (show ColM w b tb rb cb k sc ⟨k, sc, rows, rows, takeL ((rows + 7) / 8) s, takeL (colEnds k rows s).2.1 (colEnds k rows s).2.2, (colEnds k rows s).1, []⟩ T D E ⟨none, 0⟩ [] (colS3 k rows s) A3 _ from HM3.out.setData HDO.out)
    clear HDO HM2 x0 x1 x2 x3 x4 x5 x6 x7 hfx
    generalize w5.setCell ⟨cb, 5, none⟩ (.slice D.a (takeL (colEnds k rows s).2.1 (colEnds k rows s).2.2).length D.c) = w6 at *
    obtain ⟨t0, t1⟩ := box2t HM3.out.tbox
    go_cut [68] from 66 to 68 (fun v wx => ∃ d2 : Bool, v = .bool d2 ∧ Aside (d2 = decide (k = 16)) ∧ wx = w6)
    case first =>
      go_wp2_with fail
      go_meet
      exact ⟨_, rfl, ⟨rfl⟩, rfl⟩
    case rest =>
    obtain ⟨d2, rfl, hd16, rfl⟩ := hcut
    clear t0 t1
    go_step
    have hlen3 : (colS3 k rows s).rest.length ≤ 100000000 := HM3.out.rd.few
    generalize takeL (colEnds k rows s).2.1 (colEnds k rows s).2.2 = data at *
    generalize (colEnds k rows s).1 = es at *
    generalize takeL ((rows + 7) / 8) s = bits at *
    generalize colS3 k rows s = s3 at *
    obtain ⟨fin, hfin⟩ : ∃ f, f = colWords k s3 := ⟨_, rfl⟩
    rw [← hfin] at HE
    go_cut [] from 69 to 91 (fun wx => ∃ (X : SL) (vals : List Value) (A4 : SL), Aside (ColM w b tb rb cb k sc ⟨k, sc, rows, rows, bits, data, es, fin.1⟩ T D E X vals fin.2 A4 wx))
    case first =>
      by_cases h16 : k = 16
      · obtain rfl : d2 = true := by rw [hd16.out, decide_eq_true h16]
        have hcw : fin = wordsR (numR s3).toNat (numS s3) := by rw [hfin]; unfold colWords; rw [if_pos h16]
        have HCW := Aside.mk hcw
        clear hcw hd16 h16 hfin
        have hnb := numR_bd s3
        have HNM := Aside.mk (number_any s3 b A3 _ HM3.out.rd)
        have hln := numS_le s3
        generalize hn : numR s3 = n at *
        obtain ⟨m, rfl⟩ := Int.eq_ofNat_of_zero_le hnb.1
        have hm1 : (m : Int) ≤ 4611686018427387904 := hnb.2
        simp only [Int.toNat_natCast] at HCW
        generalize numS s3 = s0 at *
        have HLN := Aside.mk (show s0.rest.length ≤ 100000000 by omega)
        clear hn hnb hln
        go_wp2_with (go_at_call 82; refine HNM.out.mono ?_; rintro e w7 ⟨rfl, A4, hr, hk⟩; have HI := Aside.mk (show WordI w b tb rb cb k sc rows bits data es T D E s0 fin m [] s0 ⟨none, 0⟩ [] A4 w7 from ⟨HM3.out.call hr hk, by rw [HCW.out]; rfl, by rw [HCW.out], Nat.zero_le _, fun _ => by simp⟩); clear hr hk HNM HM3)
        go_loopw [11] (fun iv wr => ∃ (i : Nat) (ws : List (List Int)) (s : RS) (X : SL) (vals : List Value) (A : SL), i ≤ m ∧ iv = .int .i64 (i : Int) ∧ Aside (WordI w b tb rb cb k sc rows bits data es T D E s0 fin (m - i) ws s X vals A wr)) (fun iv _ => m - (intOf iv).toNat)
        case atStart => exact ⟨0, [], s0, ⟨none, 0⟩, [], A4, Nat.zero_le _, rfl, HI⟩
        case round =>
          clear HI
          obtain ⟨i, ws, s2, X, vals, A5, hi, rfl, HI⟩ := hrel
          have hfz := fun k => frozen_blk (k := k) HI.out.cm.rd.box
          obtain ⟨c0, c1⟩ := boxR HI.out.cm.rd.box
          by_cases hlt : i < m
          · have hd : decide ((i : Int) < (m : Int)) = true := decide_eq_true (by omega)
            cases hsh : s2.short with
            | true =>
              rw [hsh] at c1
              have HE' := Aside.mk (HI.out.done (.inr hsh))
              clear hsh
              go_wp2_with fail
              go_meet
              exact ⟨X, vals, A5, HE'⟩
            | false =>
              rw [hsh] at c1
              have HSH := Aside.mk hsh
              clear hsh
              go_upto_region 18 with fail
              clear c0 c1 hfz
              obtain ⟨x0, x1, x2, x3, x4, x5, x6, x7⟩ := box8 HI.out.cm.box
              dsimp only at x7
              clear x0 x1 x2 x3 x4 x5 x6
              have hw1 : IntKind.i64.wrap ((i : Int) + 1) = (i : Int) + 1 := IntWalk.i64_in _ (by omega)
              refine wp_regionO (fun U : World => U.cell? ⟨cb, 7, none⟩ = some (.slice X.a ws.length X.c)) 9 10 (by kernel_rfl) rfl ?_
              have hS : (fun U : World => U.cell? ⟨cb, 7, none⟩ = some (.slice X.a ws.length X.c)) wr.drew := x7
              clear x7
              refine tkO (k := 0) (o := ⟨some 83, _, _, _, _, _⟩) (v := ?_) rfl (Or.inl ⟨by rfl, ?_⟩) (by assumption) ?_
              rotate_left
              · (intro w hSw; go_simp; (try with_reducible rfl))
              (try simp only [Act.put, List.setIfInBounds_toArray, List.set_cons_zero, List.set_cons_succ])
              refine tkO (k := 1) (o := ⟨some 84, _, _, _, _, _⟩) (v := ?_) rfl (Or.inl ⟨by rfl, ?_⟩) (by assumption) ?_
              rotate_left
              · (intro w hSw; go_simp; (try with_reducible rfl))
              (try simp only [Act.put, List.setIfInBounds_toArray, List.set_cons_zero, List.set_cons_succ])
              refine tkO (k := 2) (o := ⟨some 85, _, _, _, _, _⟩) (v := ?_) rfl (Or.inl ⟨by rfl, ?_⟩) (by assumption) ?_
              rotate_left
              · (intro w hSw; go_simp; (try with_reducible rfl))
              (try simp only [Act.put, List.setIfInBounds_toArray, List.set_cons_zero, List.set_cons_succ])
              refine tkO (k := 3) (o := ⟨some 86, _, _, _, _, _⟩) (v := ?_) rfl (Or.inl ⟨by rfl, ?_⟩) (by assumption) ?_
              rotate_left
              · (intro w hSw; go_simp; (try with_reducible rfl))
              (try simp only [Act.put, List.setIfInBounds_toArray, List.set_cons_zero, List.set_cons_succ])
              refine wpE_one (k := 4) (o := ⟨some 87, _, _, _, _, _⟩) rfl (by kernel_rfl) (fun K hK => ?_)
              refine step_callG (P := Try.prog) wr.drew 82 [.tmp 86] _ (by rfl) (by kernel_rfl) _ (by rfl) (fun _ _ => rfl) (number_any s2 b A5 wr.drew (HI.out.cm.rd.below (below_drewN wr _ 1))) ?_
              rintro e w8 ⟨rfl, A6, hr, hk⟩
              refine ⟨_, rfl, ?_⟩
              have HM := Aside.mk ((HI.out.cm.below (below_drewN wr _ 1)).call hr hk)
              clear hr hk
              refine hK.out _ _ ((box8 HM.out.box).2.2.2.2.2.2.2) (fun hS => ?_)
              clear hK K
              try simp only [Act.put, List.setIfInBounds_toArray, List.set_cons_zero, List.set_cons_succ]
              refine wpE_one (k := 5) (o := ⟨some 88, _, _, _, _, _⟩) rfl (by kernel_rfl) (fun K hK => ?_)
              refine step_callG (P := Try.prog) w8 80 [.tmp 85, .tmp 87] _ (by rfl) (by kernel_rfl) _ (by rfl) (fun _ _ => rfl) (take_any (numS s2) (numR s2) b A6 w8 HM.out.rd) ?_
              rintro e w9 ⟨Tw, A7, rfl, ho, hr, hk⟩
              refine ⟨_, rfl, ?_⟩
              have HTO := Aside.mk (ho.mono HM.out.kept.size)
              replace HM := Aside.mk (show ColM w b tb rb cb k sc ⟨k, sc, rows, rows, bits, data, es, ws⟩ T D E X vals (hS2 s2) A7 w9 from HM.out.call hr hk)
              clear hr hk ho
              refine hK.out _ _ ((box8 HM.out.box).2.2.2.2.2.2.2) (fun hS => ?_)
              clear hK K
              try simp only [Act.put, List.setIfInBounds_toArray, List.set_cons_zero, List.set_cons_succ]
              generalize htw : takeL (numR s2) (numS s2) = tw at *
              have HTW := Aside.mk htw
              clear htw
              refine wpE_one (k := 6) (o := ⟨some 89, _, _, _, _, _⟩) rfl (by kernel_rfl) (fun K hK => ?_)
              go_simp
              refine hK.out _ _ ((box8 (HM.out.below (below_new w9 (.cells #[.slice Tw.a tw.length Tw.c] 37))).box).2.2.2.2.2.2.2) (fun hS => ?_)
              clear hK K
              try simp only [Act.put, List.setIfInBounds_toArray, List.set_cons_zero, List.set_cons_succ]
              have hwl : ws.length ≤ 100000001 := by have := HI.out.few; have := HLN.out; omega
              refine wpE_one (k := 7) (o := ⟨some 90, _, _, _, _, _⟩) rfl (by kernel_rfl) (fun K hK => ?_)
              (refine step_app2 (P := Try.prog) (w9.alloc (.cells #[.slice Tw.a tw.length Tw.c] 37)) (.tmp 84) (.tmp 89) 41 41 (by rfl) (by rfl) w.heap.size 37 (.slice none 0 0) 1 24 Try.underlying41 bytesinfoG (by rfl) (.slice X.a ws.length X.c) ws.length vals (by rfl) (HM.out.own.words.alloc _) (.slice (some ⟨w9.heap.size, 0, none⟩) 1 1) 1 [.slice Tw.a tw.length Tw.c] (by rfl) (src_one Try.underlying41 _ _ _ rfl rfl) (by unfold maxLen; omega) (by omega) (by have := HM.out.kept.size; simp; omega) ?_; intro v' w10 hA)
              obtain ⟨a8, c8, rfl⟩ := hA.own.form
              have HA := Aside.mk hA
              have hcx := (HM.out.grow HM.out.own.words ⟨by decide, by decide, by decide⟩ ((Kept.of_below (S := fun k => (Value.slice X.a ws.length X.c).ownBlock = some k) (below_new w9 _)).trans (Kept.of_grown hA.grown) (fun k e _ => e.symm)) 7 (.slice a8 (ws.length + 1) c8)).2.2.2.2.2
              obtain ⟨y0, y1, y2, y3, y4, y5, y6, y7⟩ := box8 hcx
              have hfy := fun k => frozen_blk (k := k) hcx
              clear hA hcx
              refine hK.out _ _ y7 (fun hS => ?_)
              clear hK K
              try simp only [Act.put, List.setIfInBounds_toArray, List.set_cons_zero, List.set_cons_succ]
              refine tkO (k := 8) (o := ⟨some 91, _, _, _, _, _⟩) (v := ?_) rfl (Or.inl ⟨by rfl, ?_⟩) (by assumption) ?_
              rotate_left
              · (intro w hSw; go_simp; (try with_reducible rfl))
              (try simp only [Act.put, List.setIfInBounds_toArray, List.set_cons_zero, List.set_cons_succ])
              refine wpE_last (k := 9) (o := ⟨none, _, _, _, _, _⟩) rfl (by kernel_rfl) (by kernel_rfl) rfl (fun K hK => ?_)
              go_simp
              refine hK.out _ _ ?_
              clear hK K hS
              refine ⟨rfl, ?_⟩
              have HN := Aside.mk ((show WordI w b tb rb cb k sc rows bits data es T D E s0 fin (m - (i + 1) + 1) ws s2 X vals A5 wr from by rw [show m - (i + 1) + 1 = m - i by omega]; exact HI.out).next HSH.out (by rw [HTW.out]; exact HM.out.addWord HTO.out HA.out))
              clear HA HM y0 y1 y2 y3 y4 y5 y6 y7 hfy HTO
              go_wp2_with fail
              go_roundw
              case rel => exact ⟨i + 1, ws ++ [takeL (numR s2) (numS s2)], hS2 s2, ⟨a8, c8⟩, _, A7, by omega, by go_num, HN⟩
              case measure => simp [intOf]; omega
          · obtain rfl : i = m := by omega
            have hd : decide ((i : Int) < (i : Int)) = false := decide_eq_false (by omega)
            have HE' := Aside.mk (HI.out.done (.inl (by omega)))
            go_wp2_with fail
            go_meet
            exact ⟨X, vals, A5, HE'⟩
      · obtain rfl : d2 = false := by rw [hd16.out, decide_eq_false h16]
        have hcw : fin = ([], s3) := by rw [hfin]; unfold colWords; rw [if_neg h16]
        have HCW := Aside.mk hcw
        clear hcw hfin
        go_wp2_with fail
        go_meet
        exact ⟨⟨none, 0⟩, [], A3, by rw [HCW.out]; exact HM3⟩
    case rest =>
    obtain ⟨X, vals, A4, HM4⟩ := hcut
    clear HM3 hd16 hfin
    obtain ⟨x0, x1, x2, x3, x4, x5, x6, x7⟩ := box8 HM4.out.box
    obtain ⟨y0, y1, y2, y3, y4, y5, y6, y7⟩ := box8 HM4.out.rbox
    have hfy := fun k => frozen_blk (k := k) HM4.out.rbox
    have hrc1 := HM4.out.lo.2.2.2.2
    have hrc2 := Ne.symm hrc1
    dsimp only at x0 x1 x2 x3 x4 x5 x6 x7
    go_wp2_with fail
    clear x0 x1 x2 x3 x4 x5 x6 x7 y0 y1 y2 y3 y4 y5 y6 y7 hfy
    have hz9 := set8c HM4.out.rbox (.int .i64 k) (.int .i64 sc) (.int .i64 rows) (.int .i64 rows) (.slice T.a bits.length T.c) (.slice D.a data.length D.c) (.slice E.a es.length E.c) (.slice X.a fin.1.length X.c)
    have hk9 := kept8c wc rb (.int .i64 k) (.int .i64 sc) (.int .i64 rows) (.int .i64 rows) (.slice T.a bits.length T.c) (.slice D.a data.length D.c) (.slice E.a es.length E.c) (.slice X.a fin.1.length X.c)
    generalize ((((((((wc.setCell ⟨rb, 0, none⟩ (.int .i64 k)).setCell ⟨rb, 1, none⟩ (.int .i64 sc)).setCell ⟨rb, 2, none⟩ (.int .i64 rows)).setCell ⟨rb, 3, none⟩ (.int .i64 rows)).setCell ⟨rb, 4, none⟩ (.slice T.a bits.length T.c)).setCell ⟨rb, 5, none⟩ (.slice D.a data.length D.c)).setCell ⟨rb, 6, none⟩ (.slice E.a es.length E.c)).setCell ⟨rb, 7, none⟩ (.slice X.a fin.1.length X.c)) = w9 at *
    obtain ⟨g0, g1, g2, g3, g4, g5, g6, g7⟩ := box8 hz9
    refine bodyPost_ret (v := .agg #[.int .i64 k, .int .i64 sc, .int .i64 rows, .int .i64 rows, .slice T.a bits.length T.c, .slice D.a data.length D.c, .slice E.a es.length E.c, .slice X.a fin.1.length X.c]) (by simp [results, Try.results84, go_sem, g0, g1, g2, g3, g4, g5, g6, g7]) rfl ?_
    rw [HE.out]
    have l0 := HLB.out
    have l1 := HLT.out.2
    have ne : ∀ {T' : TypeId}, T' ≠ 43 → ∀ b cs f, wc.heap[b]? = some (.cells cs T' f) → ¬ b = rb := fun ht b cs f hb => blk_ne hb HM4.out.rbox ht
    exact ⟨T, D, E, X, vals, A4, rfl, HM4.out.own.turn hk9 (ne (by decide)) (ne (by decide)) (ne (by decide)), HM4.out.rd.kept hk9 (fun k e => by omega), HM4.out.kept.trans hk9 (fun k e _ => by omega)⟩
end Go.Proofs.Ytmhjjhaipcgbiaa


namespace Go.Proofs.Ytmhjjhaipcgbiaa
open Go.RowKit
set_option linter.unusedVariables false
set_option linter.unusedSimpArgs false
set_option maxRecDepth 100000
set_option maxHeartbeats 1000000
structure Of16I (l : List Bool) (i : Nat) (w wr : World) (v : Value) : Prop where
  b1 : wr.heap[w.heap.size + 1]? = some (.cells #[.int .i64 (l.length : Int), v] 39 (0, 0))
  b0 : wr.heap[w.heap.size]? = some (.cells #[.int .i64 0, .slice none 0 0] 39 (0, 0))
  own : Own wr w.heap.size 5 1 v (mof (l.take i)).length ((mof (l.take i)).map (.int .u8))
  bel : Below w.heap.size w wr
theorem mof_take (l : List Bool) {i : Nat} (hi : i < l.length) : mof (l.take (i + 1)) = mput (mof (l.take i)) i l[i] := by
  rw [List.take_succ_eq_append_getElem hi, mof_snoc, List.length_take, Nat.min_eq_left (by omega)]
theorem mof_take_len (l : List Bool) {i : Nat} (hi : i ≤ l.length) : (mof (l.take i)).length = (i + 7) / 8 := by rw [mof_len, List.length_take, Nat.min_eq_left hi]
structure Of16M (l : List Bool) (i : Nat) (w wr : World) (v : Value) : Prop where
  b1 : wr.heap[w.heap.size + 1]? = some (.cells #[.int .i64 (l.length : Int), v] 39 (0, 0))
  b0 : wr.heap[w.heap.size]? = some (.cells #[.int .i64 0, .slice none 0 0] 39 (0, 0))
  own : Own wr w.heap.size 5 1 v (i / 8 + 1) ((mrow (mof (l.take i)) i).map (.int .u8))
  bel : Below w.heap.size w wr
theorem of16_same {l : List Bool} {i : Nat} {w wr : World} {v : Value} (h : Of16I l i w wr v) (hi : i < l.length) (h8 : i % 8 ≠ 0) : Of16M l i w wr v := by
  have e : mrow (mof (l.take i)) i = mof (l.take i) := by rw [mrow, if_neg h8]
  refine ⟨h.b1, h.b0, ?_, h.bel⟩
  have := h.own
  rw [mof_take_len l (by omega)] at this
  rw [e, show i / 8 + 1 = (i + 7) / 8 by omega]; exact this
theorem of16_more {l : List Bool} {i : Nat} {w wr w5 : World} {va v5 : Value} {o : Obj} (h : Of16I l i w wr va) (hi : i < l.length) (h8 : i % 8 = 0) (hA : AppP (wr.alloc o) w.heap.size 5 1 va ((i + 7) / 8) ((mof (l.take i)).map (.int .u8)) 1 [.int .u8 0] v5 w5) : Of16M l i w (w5.setCell ⟨w.heap.size + 1, 1, none⟩ v5) v5 := by
  have e : mrow (mof (l.take i)) i = mof (l.take i) ++ [0] := by rw [mrow, if_pos h8]
  have n1 : va.ownBlock ≠ some (w.heap.size + 1) := h.own.blk_ne h.b1 (by decide)
  have n0 : va.ownBlock ≠ some w.heap.size := h.own.blk_ne h.b0 (by decide)
  have K : Kept (fun b => va.ownBlock = some b) wr w5 := (Kept.of_below (below_new wr o)).trans ((Kept.of_grown hA.grown).mono (fun b e _ => e.symm)) (fun _ e _ => e)
  have g1 := (K.block _ (lt_of_blk h.b1) n1).trans h.b1
  have g0 := (K.block _ (lt_of_blk h.b0) n0).trans h.b0
  refine ⟨by simpa using heap_setCell_at (k := 1) g1 v5, by rw [Below.heap_setCell _ _ _ _ (by simp)]; exact g0, ?_, (h.bel.trans (K.to_below h.bel.size (fun b e => (h.own.lt b e).1))).setCell (by simp) _⟩
  have := hA.own.set_other (a := ⟨w.heap.size + 1, 1, none⟩) (hA.own.blk_ne g1 (by decide)) v5
  rw [e, List.map_append, show i / 8 + 1 = (i + 7) / 8 + 1 by omega]
  exact this
theorem of16_no {l : List Bool} {i : Nat} {w wr : World} {v : Value} (h : Of16M l i w wr v) (hi : i < l.length) (hb : l[i] = false) : Of16I l (i + 1) w wr v := by
  refine ⟨h.b1, h.b0, ?_, h.bel⟩
  have e : mof (l.take (i + 1)) = mrow (mof (l.take i)) i := by rw [mof_take l hi, hb]; rfl
  rw [e, mrow_len _ _ (mof_take_len l (by omega))]
  exact h.own
theorem of16_yes {l : List Bool} {i g off cap : Nat} {w wr : World} (h : Of16M l i w wr (.slice (some ⟨g, off, none⟩) (i / 8 + 1) cap)) (hi : i < l.length) (hb : l[i] = true) :
    Of16I l (i + 1) w (wr.setCell ⟨g, off + i / 8, none⟩ (.int .u8 (morb ((mrow (mof (l.take i)) i).getD (i / 8) 0) (i % 8)))) (.slice (some ⟨g, off, none⟩) (i / 8 + 1) cap) := by
  have hg1 : w.heap.size ≤ g := (h.own.lt g rfl).1
  have n1 : g ≠ w.heap.size + 1 := fun e => h.own.blk_ne h.b1 (by decide) (by rw [← e]; rfl)
  have n0 : g ≠ w.heap.size := fun e => h.own.blk_ne h.b0 (by decide) (by rw [← e]; rfl)
  refine ⟨by rw [Below.heap_setCell _ _ _ _ (by simpa using fun e => n1 e.symm)]; exact h.b1, by rw [Below.heap_setCell _ _ _ _ (by simpa using fun e => n0 e.symm)]; exact h.b0, ?_, h.bel.setCell hg1 _⟩
  have e : mof (l.take (i + 1)) = (mrow (mof (l.take i)) i).set (i / 8) (morb ((mrow (mof (l.take i)) i).getD (i / 8) 0) (i % 8)) := by rw [mof_take l hi, hb]; rfl
  rw [e, List.length_set, mrow_len _ _ (mof_take_len l (by omega)), List.map_set]
  exact h.own.stored (i / 8) _
theorem Of16I.drew {l : List Bool} {i : Nat} {w wr : World} {v : Value} (h : Of16I l i w wr v) : Of16I l i w wr.drew v := ⟨h.b1, h.b0, h.own.drewN 1, h.bel.trans (below_drewN _ _ 1)⟩
theorem of16_any (l : List Bool) (v : Value) (w : World) (hl : l.length ≤ 100000000) (h : Rd w 1 v l.length (l.map .bool)) : Calls Try.prog 110 #[v] w (MofP l w) := by
  obtain ⟨a, cap, rfl⟩ := h.form
  have HR := Aside.mk h
  clear h
  generalize hn : l.length = n at *
  have HN := Aside.mk hn
  clear hn
  go_enter Try.func110, Try.ntmps110
  go_wp2
  go_loopw [4] (fun iv wr => ∃ i : Nat, i ≤ n ∧ iv = .int .i64 (i : Int) ∧ Aside (∃ v, Of16I l i w wr v)) (fun iv _ => n - (intOf iv).toNat)
  case atStart =>
    refine ⟨0, by omega, rfl, ⟨.slice none 0 0, ?_, ?_, Own.nil _ _ _ _, ((Below.refl _ _).alloc (Nat.le_refl _) _).alloc (by simp) _⟩⟩
    · have := heap_alloc_new (w.alloc (.cells #[.int .i64 0, .slice none 0 0] 39)) (.cells #[.int .i64 (n : Int), .slice none 0 0] 39)
      rw [HN.out]
      simpa using this
    · rw [Below.heap_alloc _ _ _ (by simp)]; exact heap_alloc_new _ _
  case round =>
    obtain ⟨i, hi, rfl, hp⟩ := hrel
    obtain ⟨v', hI⟩ := hp.out
    clear hp
    obtain ⟨va, vc, rfl⟩ := hI.own.form
    have c10 := cell_blk (k := 0) hI.b1
    have c11 := cell_blk (k := 1) hI.b1
    have f11 := fun k => frozen_blk (k := k) hI.b1
    have hlt1 := lt_of_blk hI.b1
    simp at c10 c11
    have HI := Aside.mk hI
    clear hI
    by_cases hlt : i < n
    · have hil : i < l.length := by have := HN.out; omega
      have hml := mof_take_len l (i := i) (by omega)
      rw [hml] at c11 HI
      obtain ⟨g, off, cp, e, h1, h2, hcc⟩ := HR.out.some_ (by rw [List.length_map]; omega)
      simp only [Value.slice.injEq, true_and] at e
      obtain ⟨rfl, rfl⟩ := e
      have hcb : w.cell? ⟨g, off + i, none⟩ = some (.bool l[i]) := hcc i _ (by rw [List.getElem?_map, List.getElem?_eq_getElem hil]; rfl)
      have hbit := (HI.out.bel.cell (p := ⟨g, off + i, none⟩) (World.block_lt_of_cell? _ _ hcb)).trans hcb
      have HMT := Aside.mk (mof_take l hil)
      have hglt : g < w.heap.size := World.block_lt_of_cell? _ _ hcb
      have HX := Aside.mk (And.intro hml hglt)
      clear hcc hcb hml
      obtain ⟨bit, hbv⟩ : ∃ b, b = l[i] := ⟨_, rfl⟩
      rw [← hbv] at hbit
      have HBV := Aside.mk hbv.symm
      clear hbv
      have hs1 := HI.out.bel.size
      have hor : bits .or .u8 ((mrow (mof (l.take i)) i).getD (i / 8) 0) (2 ^ (i % 8) % 256) = morb ((mrow (mof (l.take i)) i).getD (i / 8) 0) (i % 8) := rfl
      by_cases h8 : i % 8 = 0
      · have e8 : ((i : Int) % 8 == 0) = true := by simp; omega
        have HO := Aside.mk (show Own wr w.heap.size 5 1 (.slice va ((i + 7) / 8) vc) ((i + 7) / 8) ((mof (l.take i)).map (.int .u8)) from by
          have := HI.out.own; rw [HX.out.1] at this; exact this)
        have HE8 := Aside.mk h8
        clear h8
        go_upto_region 7 with (at_builtin; refine wpList_app2 _ rfl _ _ 37 37 rfl w.heap.size 5 (.int .u8 0) 1 1 Try.underlying37 u8info rfl _ ((i + 7) / 8) ((mof (l.take i)).map (.int .u8)) rfl (HO.out.alloc _) _ 1 [.int .u8 0] rfl (src_one Try.underlying37 _ _ _ rfl rfl) (by unfold maxLen; omega) (by omega) (Nat.le_trans hs1 (by simp)) ?_)
        intro v5 w5 hA
        obtain ⟨a5, c5, rfl⟩ := hA.own.form
        have K5 := Aside.mk (show Kept (fun b => (Value.slice va ((i + 7) / 8) vc).ownBlock = some b) wr w5 from (Kept.of_below (below_new wr _)).trans ((Kept.of_grown hA.grown).mono (fun b e _ => e.symm)) (fun _ e _ => e))
        have hn5 := HO.out.blk_ne HI.out.b1 (by decide)
        have g1 := (K5.out.block _ hlt1 hn5).trans HI.out.b1
        have hbit5 := K5.out.cell hbit (fun e => by have h3 : w.heap.size ≤ g := (HO.out.lt _ e).1; omega)
        have HM := Aside.mk (of16_more HI.out hil HE8.out hA)
        clear c10 c11 f11 hbit hA hn5
        have c10 := cell_blk (k := 0) g1
        have c11 := cell_blk (k := 1) g1
        have f11 := fun k => frozen_blk (k := k) g1
        have hlt5 := lt_of_blk g1
        simp at c10 c11
        clear g1
        have hge : i / 8 + 1 = (i + 7) / 8 + 1 := by have := HE8.out; omega
        have hgne : g ≠ w.heap.size + 1 := by omega
        cases bit with
        | false =>
          have HD := Aside.mk (of16_no HM.out hil HBV.out)
          go_wp2_with fail
          exact ⟨⟨i + 1, by omega, by simp, ⟨_, HD.out⟩⟩, by simp [intOf]; omega⟩
        | true =>
          go_wp2_with fail
          clear c10 c11 f11 hbit5
          generalize w5.setCell ⟨w.heap.size + 1, 1, none⟩ (.slice a5 ((i + 7) / 8 + 1) c5) = w6 at *
          obtain ⟨g8, o8, p8, ev8, hg8, hlt8, hcp8, hcp9, hcells, hfz⟩ := HM.out.own.some_ (by omega)
          have hnl : i / 8 < (mrow (mof (l.take i)) i).length := by rw [mrow_len _ _ (mof_take_len l (by omega))]; omega
          have hx := hcells (i / 8) (.int .u8 ((mrow (mof (l.take i)) i).getD (i / 8) 0)) (by simp [List.getElem?_eq_getElem hnl])
          have hfx := hfz (o8 + i / 8)
          have HY := Aside.mk (of16_yes (by have := HM.out; rw [ev8] at this; exact this) hil HBV.out)
          have c10 := cell_blk (k := 0) HM.out.b1
          have c11 := cell_blk (k := 1) HM.out.b1
          have f11 := fun k => frozen_blk (k := k) HM.out.b1
          simp at c10 c11
          rw [ev8] at c11
          clear hcells hfz
          generalize (mrow (mof (l.take i)) i).getD (i / 8) 0 = x at *
          have hn1 : g8 ≠ w.heap.size + 1 := fun e => HM.out.own.blk_ne HM.out.b1 (by decide) (by rw [ev8, ← e]; rfl)
          go_region
          go_wp2_with fail
          exact ⟨⟨i + 1, by omega, by simp, ⟨_, HY.out.drew⟩⟩, by simp [intOf]; omega⟩
      · have e8 : ((i : Int) % 8 == 0) = false := by simp; omega
        have HM := Aside.mk (of16_same HI.out hil h8)
        cases bit with
        | false =>
          have HD := Aside.mk (of16_no HM.out hil HBV.out)
          go_wp2_with fail
          exact ⟨⟨i + 1, by omega, by simp, ⟨_, HD.out⟩⟩, by simp [intOf]; omega⟩
        | true =>
          obtain ⟨g8, o8, p8, ev8, hg8, hlt8, hcp8, hcp9, hcells, hfz⟩ := HM.out.own.some_ (by omega)
          have hnl : i / 8 < (mrow (mof (l.take i)) i).length := by rw [mrow_len _ _ (mof_take_len l (by omega))]; omega
          have hx := hcells (i / 8) (.int .u8 ((mrow (mof (l.take i)) i).getD (i / 8) 0)) (by simp [List.getElem?_eq_getElem hnl])
          have hfx := hfz (o8 + i / 8)
          have HY := Aside.mk (of16_yes (by have := HM.out; rw [ev8] at this; exact this) hil HBV.out)
          rw [ev8] at c11
          clear hcells hfz
          generalize (mrow (mof (l.take i)) i).getD (i / 8) 0 = x at *
          have hn1 : g8 ≠ w.heap.size + 1 := fun e => HM.out.own.blk_ne HM.out.b1 (by decide) (by rw [ev8, ← e]; rfl)
          go_wp2_with fail
          go_region
          go_wp2_with fail
          exact ⟨⟨i + 1, by omega, by simp, ⟨_, HY.out.drew⟩⟩, by simp [intOf]; omega⟩
    · obtain rfl : i = n := by omega
      have c00 := cell_blk (k := 0) HI.out.b0
      have c01 := cell_blk (k := 1) HI.out.b0
      have f00 := fun k => frozen_blk (k := k) HI.out.b0
      simp at c00 c01
      have e1 : l.take i = l := by rw [← HN.out]; simp
      have HI2 := HI.out
      rw [e1] at c11 HI2
      have HI3 := Aside.mk HI2
      have HN2 := HN.out
      rw [HN2] at c10
      clear HI HI2 e1 HN2
      go_wp2_with fail
      refine bodyPost_ret (v := .agg #[.int .i64 (i : Int), .slice va (mof l).length vc]) (by simp [results, Try.results110, go_sem, c00, c01]) rfl ?_
      refine ⟨_, by rw [HN.out], ?_, ?_⟩
      · have h9 := HI3.out.own
        rw [show l.take i = l by rw [← HN.out]; simp] at h9
        have h0 := h9.blk_ne HI3.out.b0 (by decide)
        exact (h9.set_other (a := ⟨w.heap.size, 0, none⟩) h0 (.int .i64 (i : Int))).set_other (a := ⟨w.heap.size, 1, none⟩) h0 (.slice va (mof l).length vc)
      · exact (HI3.out.bel.setCell (Nat.le_refl _) _).setCell (Nat.le_refl _) _
end Go.Proofs.Ytmhjjhaipcgbiaa
