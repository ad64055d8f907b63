/- dict.New, column.New. -/
import Derived.Test.YtmhjjhaipcgbiaaFits2
namespace Go.Proofs.Ytmhjjhaipcgbiaa
open Go.RowKit
set_option linter.unusedVariables false
set_option linter.unusedSimpArgs false
set_option maxRecDepth 100000
set_option maxHeartbeats 1000000

theorem dictNew_any (w : World) : Calls Try.prog 62 #[] w fun e w' => e = .returned (.pointer (some ⟨w.heap.size + 1, 0, none⟩)) ∧ w' = (w.alloc (.map #[] 0)).alloc (.cells #[.slice none 0 0, .map (some w.heap.size)] 176) := by
  have hmm := @run_makeMap Try.prog
  go_enter Try.func62, Try.ntmps62
  go_wp2
  go_ret
  exact ⟨rfl, rfl⟩

/-- A builder at block bl: its rows and its list of words (block lw, which is empty and without words). -/
structure IsB (w : World) (bl lw base : Nat) (k s : Int) (nulls : List Bool) (data : List Int) (ends : List Int) (nv dv ev : Value) : Prop where
  blk : w.heap[bl]? = some (.cells #[.int .i64 k, .int .i64 s, nv, dv, ev, .pointer (some ⟨lw, 0, none⟩)] 115 (0, 0))
  lst : ∃ mv, w.heap[lw]? = some (.cells #[.slice none 0 0, mv] 176 (0, 0))
  bbl : base ≤ bl
  blw : base ≤ lw
  nulls : Own w base 4 1 nv nulls.length (nulls.map .bool)
  data : Own w base 5 1 dv data.length (data.map (.int .u8))
  ends : Own w base 3 1 ev ends.length (ends.map (.int .i64))

theorem IsB.drewN {w : World} {bl lw base : Nat} {k s : Int} {nulls : List Bool} {data ends : List Int} {nv dv ev : Value} (h : IsB w bl lw base k s nulls data ends nv dv ev) (m : Nat) : IsB (w.drewN m) bl lw base k s nulls data ends nv dv ev :=
  ⟨h.blk, h.lst, h.bbl, h.blw, h.nulls, h.data, h.ends⟩

theorem own_ne_own {w : World} {b1 b2 : Nat} {E1 E2 : TypeId} {s1 s2 n1 n2 : Nat} {v1 v2 : Value} {x1 x2 : List Value} (h1 : Own w b1 E1 s1 v1 n1 x1) (h2 : Own w b2 E2 s2 v2 n2 x2) (hE : E1 ≠ E2) : ∀ k, v1.ownBlock = some k → v2.ownBlock ≠ some k := by
  intro k hk
  rcases h1.2 with ⟨rfl, _⟩ | ⟨g, off, cap, cur, rfl, _, hg, _⟩
  · cases hk
  · cases hk
    exact h2.blk_ne hg hE

/-- A row of the builder has got more elements and is laid into its cell. -/
theorem IsB.app_data {wr w5 : World} {bl lw base : Nat} {k s : Int} {nulls : List Bool} {data data' ends : List Int} {nv dv dv' ev : Value} (h : IsB wr bl lw base k s nulls data ends nv dv ev) (o : Obj) (hg : (wr.alloc o).grownBy w5 dv.ownBlock) (hown : Own w5 base 5 1 dv' data'.length (data'.map (.int .u8))) :
    IsB (w5.setCell ⟨bl, 3, none⟩ dv') bl lw base k s nulls data' ends nv dv' ev ∧ Kept (fun b => b = bl ∨ dv.ownBlock = some b) wr (w5.setCell ⟨bl, 3, none⟩ dv') := by
  have K1 : Kept (fun b => some b = dv.ownBlock) wr w5 := (Kept.of_below (below_new wr o)).trans (Kept.of_grown hg) (fun _ e _ => e)
  have hbl := lt_of_blk h.blk
  have nb : dv.ownBlock ≠ some bl := h.data.blk_ne h.blk (by decide)
  have hb5 := (K1.block bl hbl (fun e => nb e.symm)).trans h.blk
  obtain ⟨mv, hl⟩ := h.lst
  have nl : dv.ownBlock ≠ some lw := h.data.blk_ne hl (by decide)
  have hl5 := (K1.block lw (lt_of_blk hl) (fun e => nl e.symm)).trans hl
  have hne : bl ≠ lw := blk_ne h.blk hl (by decide)
  have hn5 : Own w5 base 4 1 nv nulls.length (nulls.map .bool) := h.nulls.kept K1 (fun k hk e => own_ne_own h.nulls h.data (by decide) k hk e.symm)
  have he5 : Own w5 base 3 1 ev ends.length (ends.map (.int .i64)) := h.ends.kept K1 (fun k hk e => own_ne_own h.ends h.data (by decide) k hk e.symm)
  refine ⟨⟨?_, ⟨mv, ?_⟩, h.bbl, h.blw, ?_, ?_, ?_⟩, ?_⟩
  · have := heap_setCell_at (k := 3) hb5 dv'
    simpa using this
  · rw [Below.heap_setCell _ _ _ _ (fun e => hne e.symm)]; exact hl5
  · exact hn5.set_other (hn5.blk_ne hb5 (by decide)) _
  · exact hown.set_other (hown.blk_ne hb5 (by decide)) _
  · exact he5.set_other (he5.blk_ne hb5 (by decide)) _
  · exact (K1.mono (fun k e _ => .inr e.symm)).trans (Kept.setCell _ _ _) (fun k e _ => .inl e)

theorem IsB.below {w w' : World} {bl lw base : Nat} {k s : Int} {nulls : List Bool} {data ends : List Int} {nv dv ev : Value} (h : IsB w bl lw base k s nulls data ends nv dv ev) (hb : Below w.heap.size w w') : IsB w' bl lw base k s nulls data ends nv dv ev :=
  ⟨(hb.block _ (lt_of_blk h.blk)).trans h.blk, (let ⟨mv, hl⟩ := h.lst; ⟨mv, (hb.block _ (lt_of_blk hl)).trans hl⟩), h.bbl, h.blw, h.nulls.below hb, h.data.below hb, h.ends.below hb⟩

/-- As app_data, for the row of nulls. -/
theorem IsB.app_nulls {wr w5 : World} {bl lw base : Nat} {k s : Int} {nulls nulls' : List Bool} {data ends : List Int} {nv nv' dv ev : Value} (h : IsB wr bl lw base k s nulls data ends nv dv ev) (hg : wr.grownBy w5 nv.ownBlock) (hown : Own w5 base 4 1 nv' nulls'.length (nulls'.map .bool)) :
    IsB (w5.setCell ⟨bl, 2, none⟩ nv') bl lw base k s nulls' data ends nv' dv ev ∧ Kept (fun b => b = bl ∨ nv.ownBlock = some b) wr (w5.setCell ⟨bl, 2, none⟩ nv') := by
  have K1 : Kept (fun b => some b = nv.ownBlock) wr w5 := Kept.of_grown hg
  have hbl := lt_of_blk h.blk
  have nb : nv.ownBlock ≠ some bl := h.nulls.blk_ne h.blk (by decide)
  have hb5 := (K1.block bl hbl (fun e => nb e.symm)).trans h.blk
  obtain ⟨mv, hl⟩ := h.lst
  have nl : nv.ownBlock ≠ some lw := h.nulls.blk_ne hl (by decide)
  have hl5 := (K1.block lw (lt_of_blk hl) (fun e => nl e.symm)).trans hl
  have hne : bl ≠ lw := blk_ne h.blk hl (by decide)
  have hd5 : Own w5 base 5 1 dv data.length (data.map (.int .u8)) := h.data.kept K1 (fun k hk e => own_ne_own h.data h.nulls (by decide) k hk e.symm)
  have he5 : Own w5 base 3 1 ev ends.length (ends.map (.int .i64)) := h.ends.kept K1 (fun k hk e => own_ne_own h.ends h.nulls (by decide) k hk e.symm)
  refine ⟨⟨?_, ⟨mv, ?_⟩, h.bbl, h.blw, ?_, ?_, ?_⟩, ?_⟩
  · have := heap_setCell_at (k := 2) hb5 nv'
    simpa using this
  · rw [Below.heap_setCell _ _ _ _ (fun e => hne e.symm)]; exact hl5
  · exact hown.set_other (hown.blk_ne hb5 (by decide)) _
  · exact hd5.set_other (hd5.blk_ne hb5 (by decide)) _
  · exact he5.set_other (he5.blk_ne hb5 (by decide)) _
  · exact (K1.mono (fun k e _ => .inr e.symm)).trans (Kept.setCell _ _ _) (fun k e _ => .inl e)

def NewP (k s : Int) (w : World) (e : Ending) (w' : World) : Prop := ∃ bl lw, e = .returned (.tuple #[.pointer (some ⟨bl, 0, none⟩), .int .i64 0]) ∧ IsB w' bl lw w.heap.size k s [] [] [] (.slice none 0 0) (.slice none 0 0) (.slice none 0 0) ∧ Below w.heap.size w w'

theorem isB_new (w : World) (k s : Int) (base : Nat) (hb : base ≤ w.heap.size) : IsB (((w.alloc (.map #[] 0)).alloc (.cells #[.slice none 0 0, .map (some w.heap.size)] 176)).alloc (.cells #[.int .i64 k, .int .i64 s, .slice none 0 0, .slice none 0 0, .slice none 0 0, .pointer (some ⟨w.heap.size + 1, 0, none⟩)] 115)) (w.heap.size + 2) (w.heap.size + 1) base k s [] [] [] (.slice none 0 0) (.slice none 0 0) (.slice none 0 0) := by
  refine ⟨?_, ⟨.map (some w.heap.size), ?_⟩, by omega, by omega, Own.nil _ _ _ _, Own.nil _ _ _ _, Own.nil _ _ _ _⟩
  · have := heap_alloc_new ((w.alloc (.map #[] 0)).alloc (.cells #[.slice none 0 0, .map (some w.heap.size)] 176)) (.cells #[.int .i64 k, .int .i64 s, .slice none 0 0, .slice none 0 0, .slice none 0 0, .pointer (some ⟨w.heap.size + 1, 0, none⟩)] 115)
    simpa using this
  · have := heap_alloc_new (w.alloc (.map #[] 0)) (.cells #[.slice none 0 0, .map (some w.heap.size)] 176)
    rw [Below.heap_alloc _ _ _ (by simp)]
    simpa using this

theorem new_yes (k s : Int) (w : World) (h : okType k s = true) : Calls Try.prog 25 #[.agg #[.int .i64 k, .int .i64 s]] w (NewP k s w) := by
  have HOK := Aside.mk h
  clear h
  go_enter Try.func25, Try.ntmps25
  go_wp2_with (go_at_call 10; refine (checkType_yes _ _ _ HOK.out).mono ?_; rintro e w1 ⟨rfl, hb1⟩; have hB1 := Aside.mk ((below_new w _).trans (hb1.mono (by simp))); have hz := hb1.size; simp only [World.size_alloc] at hz; have hlt : w.heap.size < w1.heap.size := (by omega); have c10 := cell_kept hb1 0; have c11 := cell_kept hb1 1; have f10 := frozen_kept hb1 0; have f11 := frozen_kept hb1 1; simp at c10 c11; clear hb1)
  go_region_with (go_at_call 62; refine (dictNew_any _).mono ?_; rintro e w2 ⟨rfl, rfl⟩)
  all_goals
    go_wp2
    go_ret2
    refine ⟨_, _, rfl, (isB_new w1 k s w.heap.size (by omega)).drewN 1, Below.trans (hB1.out.trans ?_) (below_drewN _ _ 1)⟩
    exact (((Below.refl _ _).alloc (by omega) _).alloc (by simp; omega) _).alloc (by simp; omega) _
end Go.Proofs.Ytmhjjhaipcgbiaa
