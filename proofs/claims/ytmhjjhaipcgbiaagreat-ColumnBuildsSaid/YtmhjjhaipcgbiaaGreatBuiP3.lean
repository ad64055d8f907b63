/- Texts of this claim, one behind the other: Col, MayR, Code, DictC, MayC, Eq, EqF, OfR, Calm. -/
import Derived.Test.YtmhjjhaipcgbiaaGreatBuiP2
import Derived.Test.YtmhjjhaipcgbiaaGreatBuiP1
import Derived.BigQuiet
import Derived.Deep.Quiet

/- Column: what a builder has built. -/
namespace Go.Proofs.YtmhjjhaipcgbiaaGreat
open Go.RowKit
set_option linter.unusedVariables false
set_option linter.unusedSimpArgs false
set_option maxRecDepth 100000
set_option maxHeartbeats 8000000

theorem below_chain {a y z : World} (h1 : Below a.heap.size a y) (h2 : Below y.heap.size y z) : Below a.heap.size a z := h1.trans (h2.mono h1.size)

theorem col_size {w w2 : World} {cs : Array Value} {T : TypeId} (h : Below (w.alloc (.cells cs T)).heap.size (w.alloc (.cells cs T)) w2) : w.heap.size + 1 ≤ w2.heap.size := by
  have := h.size
  simpa using this
theorem own_sets {w ww wf : World} {base E sz n : Nat} {v : Value} {xs : List Value} (h : Own ww base E sz v n xs) (hb : w.heap.size + 1 ≤ base) (hk : Kept (fun b => b = w.heap.size) ww wf) : Own wf w.heap.size E sz v n xs :=
  (h.kept hk (fun k e1 e => by have := (h.lt k e1).1; omega)).mono (by omega)
theorem below_drew1 (w : World) : Below w.heap.size w w.drew := below_drewN w _ 1
theorem undrew {w w' : World} (h : Below w.drew.heap.size w.drew w') : Below w.heap.size w w' := ⟨h.os, h.tape, h.output, h.size, h.block⟩

theorem colS_next {w w1 w2 : World} {bl lw : Nat} {k s : Int} {nv dv ev : Value} (h : w1.cell? ⟨bl, 0, none⟩ = some (.int .i64 k) ∧ w1.cell? ⟨bl, 1, none⟩ = some (.int .i64 s) ∧ w1.cell? ⟨bl, 2, none⟩ = some (nv) ∧ w1.cell? ⟨bl, 3, none⟩ = some (dv) ∧ w1.cell? ⟨bl, 4, none⟩ = some (ev) ∧ w1.cell? ⟨bl, 5, none⟩ = some (.pointer (some ⟨lw, 0, none⟩)) ∧ w1.cell? ⟨w.heap.size, 0, none⟩ = some (.int .i64 0) ∧ w1.cell? ⟨w.heap.size, 1, none⟩ = some (.int .i64 0) ∧ w1.cell? ⟨w.heap.size, 2, none⟩ = some (.int .i64 0) ∧ w1.cell? ⟨w.heap.size, 3, none⟩ = some (.int .i64 0) ∧ w1.cell? ⟨w.heap.size, 4, none⟩ = some (.slice none 0 0) ∧ w1.cell? ⟨w.heap.size, 5, none⟩ = some (.slice none 0 0) ∧ w1.cell? ⟨w.heap.size, 6, none⟩ = some (.slice none 0 0) ∧ w1.cell? ⟨w.heap.size, 7, none⟩ = some (.slice none 0 0) ∧ w1.frozen? ⟨w.heap.size, 0, none⟩ = false ∧ w1.frozen? ⟨w.heap.size, 1, none⟩ = false ∧ w1.frozen? ⟨w.heap.size, 2, none⟩ = false ∧ w1.frozen? ⟨w.heap.size, 3, none⟩ = false ∧ w1.frozen? ⟨w.heap.size, 4, none⟩ = false ∧ w1.frozen? ⟨w.heap.size, 5, none⟩ = false ∧ w1.frozen? ⟨w.heap.size, 6, none⟩ = false ∧ w1.frozen? ⟨w.heap.size, 7, none⟩ = false ∧ Aside (Below w.heap.size w w1)) (hb : Below w1.heap.size w1 w2) : w2.cell? ⟨bl, 0, none⟩ = some (.int .i64 k) ∧ w2.cell? ⟨bl, 1, none⟩ = some (.int .i64 s) ∧ w2.cell? ⟨bl, 2, none⟩ = some (nv) ∧ w2.cell? ⟨bl, 3, none⟩ = some (dv) ∧ w2.cell? ⟨bl, 4, none⟩ = some (ev) ∧ w2.cell? ⟨bl, 5, none⟩ = some (.pointer (some ⟨lw, 0, none⟩)) ∧ w2.cell? ⟨w.heap.size, 0, none⟩ = some (.int .i64 0) ∧ w2.cell? ⟨w.heap.size, 1, none⟩ = some (.int .i64 0) ∧ w2.cell? ⟨w.heap.size, 2, none⟩ = some (.int .i64 0) ∧ w2.cell? ⟨w.heap.size, 3, none⟩ = some (.int .i64 0) ∧ w2.cell? ⟨w.heap.size, 4, none⟩ = some (.slice none 0 0) ∧ w2.cell? ⟨w.heap.size, 5, none⟩ = some (.slice none 0 0) ∧ w2.cell? ⟨w.heap.size, 6, none⟩ = some (.slice none 0 0) ∧ w2.cell? ⟨w.heap.size, 7, none⟩ = some (.slice none 0 0) ∧ w2.frozen? ⟨w.heap.size, 0, none⟩ = false ∧ w2.frozen? ⟨w.heap.size, 1, none⟩ = false ∧ w2.frozen? ⟨w.heap.size, 2, none⟩ = false ∧ w2.frozen? ⟨w.heap.size, 3, none⟩ = false ∧ w2.frozen? ⟨w.heap.size, 4, none⟩ = false ∧ w2.frozen? ⟨w.heap.size, 5, none⟩ = false ∧ w2.frozen? ⟨w.heap.size, 6, none⟩ = false ∧ w2.frozen? ⟨w.heap.size, 7, none⟩ = false ∧ Aside (Below w.heap.size w w2) := by
  obtain ⟨h0, h1, h2, h3, h4, h5, h6, h7, h8, h9, h10, h11, h12, h13, h14, h15, h16, h17, h18, h19, h20, h21, h22⟩ := h
  have hl := World.block_lt_of_cell? _ _ h0
  have hl2 := World.block_lt_of_cell? _ _ h6
  refine ⟨(hb.cell (p := ⟨bl, 0, none⟩) hl).trans h0, (hb.cell (p := ⟨bl, 1, none⟩) hl).trans h1, (hb.cell (p := ⟨bl, 2, none⟩) hl).trans h2, (hb.cell (p := ⟨bl, 3, none⟩) hl).trans h3, (hb.cell (p := ⟨bl, 4, none⟩) hl).trans h4, (hb.cell (p := ⟨bl, 5, none⟩) hl).trans h5, (hb.cell (p := ⟨w.heap.size, 0, none⟩) hl2).trans h6, (hb.cell (p := ⟨w.heap.size, 1, none⟩) hl2).trans h7, (hb.cell (p := ⟨w.heap.size, 2, none⟩) hl2).trans h8, (hb.cell (p := ⟨w.heap.size, 3, none⟩) hl2).trans h9, (hb.cell (p := ⟨w.heap.size, 4, none⟩) hl2).trans h10, (hb.cell (p := ⟨w.heap.size, 5, none⟩) hl2).trans h11, (hb.cell (p := ⟨w.heap.size, 6, none⟩) hl2).trans h12, (hb.cell (p := ⟨w.heap.size, 7, none⟩) hl2).trans h13, (hb.frozen (p := ⟨w.heap.size, 0, none⟩) hl2).trans h14, (hb.frozen (p := ⟨w.heap.size, 1, none⟩) hl2).trans h15, (hb.frozen (p := ⟨w.heap.size, 2, none⟩) hl2).trans h16, (hb.frozen (p := ⟨w.heap.size, 3, none⟩) hl2).trans h17, (hb.frozen (p := ⟨w.heap.size, 4, none⟩) hl2).trans h18, (hb.frozen (p := ⟨w.heap.size, 5, none⟩) hl2).trans h19, (hb.frozen (p := ⟨w.heap.size, 6, none⟩) hl2).trans h20, (hb.frozen (p := ⟨w.heap.size, 7, none⟩) hl2).trans h21, ⟨h22.out.trans (hb.mono h22.out.size)⟩⟩

/-- Two rows of one kind lie ahead of block n, in blocks of their own. -/
def SepBD (n : Nat) (mv dv : Value) : Prop := (∀ b, mv.ownBlock = some b → b < n) ∧ (∀ b, dv.ownBlock = some b → b < n) ∧ ∀ b, mv.ownBlock = some b → dv.ownBlock ≠ some b
def ColP (G : Nat → Value → World → Prop) (k s : Int) (nulls : List Bool) (data ends : List Int) (w : World) (e : Ending) (w' : World) : Prop :=
  ∃ mv dv' ev' wv, e = .returned (.agg #[.int .i64 k, .int .i64 s, .int .i64 (nulls.length : Int), .int .i64 (nulls.length : Int), mv, dv', ev', wv]) ∧
    Own w' w.heap.size 5 1 mv (mof nulls).length ((mof nulls).map (.int .u8)) ∧ Own w' w.heap.size 5 1 dv' data.length (data.map (.int .u8)) ∧ Own w' w.heap.size 3 1 ev' ends.length (ends.map (.int .i64)) ∧ (∃ n, w.heap.size < n ∧ G n wv w' ∧ SepBD n mv dv') ∧ Below w.heap.size w w'

theorem column_any (G : Nat → Value → World → Prop) (bl lw base : Nat) (k s : Int) (nulls : List Bool) (data ends : List Int) (nv dv ev : Value) (w : World)
    (hblk : w.heap[bl]? = some (.cells #[.int .i64 k, .int .i64 s, nv, dv, ev, .pointer (some ⟨lw, 0, none⟩)] 142 (0, 0)))
    (hn : Own w base 4 1 nv nulls.length (nulls.map .bool)) (hd : Own w base 5 1 dv data.length (data.map (.int .u8))) (he : Own w base 3 1 ev ends.length (ends.map (.int .i64)))
    (hl1 : nulls.length ≤ 100000000) (hl2 : data.length ≤ 1000000000) (hl3 : ends.length ≤ 1000000000)
    (hG : ∀ n v w1 w2, w.heap.size < n → G n v w1 → Kept (fun b => b = w.heap.size) w1 w2 → G n v w2) (hW : ∀ w2, Below w.heap.size w w2 → w.heap.size + 1 ≤ w2.heap.size → Calls Tryz.prog 93 #[.pointer (some ⟨lw, 0, none⟩)] w2 fun e w' => ∃ a n c, e = .returned (.slice a n c) ∧ Below w2.heap.size w2 w' ∧ G w2.heap.size (.slice a n c) w') :
    Calls Tryz.prog 34 #[.pointer (some ⟨bl, 0, none⟩)] w (ColP G k s nulls data ends w) := by
  have hbl := lt_of_blk hblk
  have hc0 : (w.alloc (.cells #[.int .i64 0, .int .i64 0, .int .i64 0, .int .i64 0, .slice none 0 0, .slice none 0 0, .slice none 0 0, .slice none 0 0] 63)).cell? ⟨bl, 0, none⟩ = some (.int .i64 k) := ((below_new w _).cell (p := ⟨bl, 0, none⟩) hbl).trans ((cell_blk (k := 0) hblk).trans rfl)
  have hc1 : (w.alloc (.cells #[.int .i64 0, .int .i64 0, .int .i64 0, .int .i64 0, .slice none 0 0, .slice none 0 0, .slice none 0 0, .slice none 0 0] 63)).cell? ⟨bl, 1, none⟩ = some (.int .i64 s) := ((below_new w _).cell (p := ⟨bl, 1, none⟩) hbl).trans ((cell_blk (k := 1) hblk).trans rfl)
  have hc2 : (w.alloc (.cells #[.int .i64 0, .int .i64 0, .int .i64 0, .int .i64 0, .slice none 0 0, .slice none 0 0, .slice none 0 0, .slice none 0 0] 63)).cell? ⟨bl, 2, none⟩ = some (nv) := ((below_new w _).cell (p := ⟨bl, 2, none⟩) hbl).trans ((cell_blk (k := 2) hblk).trans rfl)
  have hc3 : (w.alloc (.cells #[.int .i64 0, .int .i64 0, .int .i64 0, .int .i64 0, .slice none 0 0, .slice none 0 0, .slice none 0 0, .slice none 0 0] 63)).cell? ⟨bl, 3, none⟩ = some (dv) := ((below_new w _).cell (p := ⟨bl, 3, none⟩) hbl).trans ((cell_blk (k := 3) hblk).trans rfl)
  have hc4 : (w.alloc (.cells #[.int .i64 0, .int .i64 0, .int .i64 0, .int .i64 0, .slice none 0 0, .slice none 0 0, .slice none 0 0, .slice none 0 0] 63)).cell? ⟨bl, 4, none⟩ = some (ev) := ((below_new w _).cell (p := ⟨bl, 4, none⟩) hbl).trans ((cell_blk (k := 4) hblk).trans rfl)
  have hc5 : (w.alloc (.cells #[.int .i64 0, .int .i64 0, .int .i64 0, .int .i64 0, .slice none 0 0, .slice none 0 0, .slice none 0 0, .slice none 0 0] 63)).cell? ⟨bl, 5, none⟩ = some (.pointer (some ⟨lw, 0, none⟩)) := ((below_new w _).cell (p := ⟨bl, 5, none⟩) hbl).trans ((cell_blk (k := 5) hblk).trans rfl)
  have hz0 : (w.alloc (.cells #[.int .i64 0, .int .i64 0, .int .i64 0, .int .i64 0, .slice none 0 0, .slice none 0 0, .slice none 0 0, .slice none 0 0] 63)).cell? ⟨w.heap.size, 0, none⟩ = some (.int .i64 0) := (cell_blk (k := 0) (heap_alloc_new w _)).trans rfl
  have hf0 : (w.alloc (.cells #[.int .i64 0, .int .i64 0, .int .i64 0, .int .i64 0, .slice none 0 0, .slice none 0 0, .slice none 0 0, .slice none 0 0] 63)).frozen? ⟨w.heap.size, 0, none⟩ = false := frozen_blk (k := 0) (heap_alloc_new w _)
  have hz1 : (w.alloc (.cells #[.int .i64 0, .int .i64 0, .int .i64 0, .int .i64 0, .slice none 0 0, .slice none 0 0, .slice none 0 0, .slice none 0 0] 63)).cell? ⟨w.heap.size, 1, none⟩ = some (.int .i64 0) := (cell_blk (k := 1) (heap_alloc_new w _)).trans rfl
  have hf1 : (w.alloc (.cells #[.int .i64 0, .int .i64 0, .int .i64 0, .int .i64 0, .slice none 0 0, .slice none 0 0, .slice none 0 0, .slice none 0 0] 63)).frozen? ⟨w.heap.size, 1, none⟩ = false := frozen_blk (k := 1) (heap_alloc_new w _)
  have hz2 : (w.alloc (.cells #[.int .i64 0, .int .i64 0, .int .i64 0, .int .i64 0, .slice none 0 0, .slice none 0 0, .slice none 0 0, .slice none 0 0] 63)).cell? ⟨w.heap.size, 2, none⟩ = some (.int .i64 0) := (cell_blk (k := 2) (heap_alloc_new w _)).trans rfl
  have hf2 : (w.alloc (.cells #[.int .i64 0, .int .i64 0, .int .i64 0, .int .i64 0, .slice none 0 0, .slice none 0 0, .slice none 0 0, .slice none 0 0] 63)).frozen? ⟨w.heap.size, 2, none⟩ = false := frozen_blk (k := 2) (heap_alloc_new w _)
  have hz3 : (w.alloc (.cells #[.int .i64 0, .int .i64 0, .int .i64 0, .int .i64 0, .slice none 0 0, .slice none 0 0, .slice none 0 0, .slice none 0 0] 63)).cell? ⟨w.heap.size, 3, none⟩ = some (.int .i64 0) := (cell_blk (k := 3) (heap_alloc_new w _)).trans rfl
  have hf3 : (w.alloc (.cells #[.int .i64 0, .int .i64 0, .int .i64 0, .int .i64 0, .slice none 0 0, .slice none 0 0, .slice none 0 0, .slice none 0 0] 63)).frozen? ⟨w.heap.size, 3, none⟩ = false := frozen_blk (k := 3) (heap_alloc_new w _)
  have hz4 : (w.alloc (.cells #[.int .i64 0, .int .i64 0, .int .i64 0, .int .i64 0, .slice none 0 0, .slice none 0 0, .slice none 0 0, .slice none 0 0] 63)).cell? ⟨w.heap.size, 4, none⟩ = some (.slice none 0 0) := (cell_blk (k := 4) (heap_alloc_new w _)).trans rfl
  have hf4 : (w.alloc (.cells #[.int .i64 0, .int .i64 0, .int .i64 0, .int .i64 0, .slice none 0 0, .slice none 0 0, .slice none 0 0, .slice none 0 0] 63)).frozen? ⟨w.heap.size, 4, none⟩ = false := frozen_blk (k := 4) (heap_alloc_new w _)
  have hz5 : (w.alloc (.cells #[.int .i64 0, .int .i64 0, .int .i64 0, .int .i64 0, .slice none 0 0, .slice none 0 0, .slice none 0 0, .slice none 0 0] 63)).cell? ⟨w.heap.size, 5, none⟩ = some (.slice none 0 0) := (cell_blk (k := 5) (heap_alloc_new w _)).trans rfl
  have hf5 : (w.alloc (.cells #[.int .i64 0, .int .i64 0, .int .i64 0, .int .i64 0, .slice none 0 0, .slice none 0 0, .slice none 0 0, .slice none 0 0] 63)).frozen? ⟨w.heap.size, 5, none⟩ = false := frozen_blk (k := 5) (heap_alloc_new w _)
  have hz6 : (w.alloc (.cells #[.int .i64 0, .int .i64 0, .int .i64 0, .int .i64 0, .slice none 0 0, .slice none 0 0, .slice none 0 0, .slice none 0 0] 63)).cell? ⟨w.heap.size, 6, none⟩ = some (.slice none 0 0) := (cell_blk (k := 6) (heap_alloc_new w _)).trans rfl
  have hf6 : (w.alloc (.cells #[.int .i64 0, .int .i64 0, .int .i64 0, .int .i64 0, .slice none 0 0, .slice none 0 0, .slice none 0 0, .slice none 0 0] 63)).frozen? ⟨w.heap.size, 6, none⟩ = false := frozen_blk (k := 6) (heap_alloc_new w _)
  have hz7 : (w.alloc (.cells #[.int .i64 0, .int .i64 0, .int .i64 0, .int .i64 0, .slice none 0 0, .slice none 0 0, .slice none 0 0, .slice none 0 0] 63)).cell? ⟨w.heap.size, 7, none⟩ = some (.slice none 0 0) := (cell_blk (k := 7) (heap_alloc_new w _)).trans rfl
  have hf7 : (w.alloc (.cells #[.int .i64 0, .int .i64 0, .int .i64 0, .int .i64 0, .slice none 0 0, .slice none 0 0, .slice none 0 0, .slice none 0 0] 63)).frozen? ⟨w.heap.size, 7, none⟩ = false := frozen_blk (k := 7) (heap_alloc_new w _)
  have hB0 : Aside (Below w.heap.size w (w.alloc (.cells #[.int .i64 0, .int .i64 0, .int .i64 0, .int .i64 0, .slice none 0 0, .slice none 0 0, .slice none 0 0, .slice none 0 0] 63)).drew) := ⟨(below_new w _).trans (below_drewN _ _ 1)⟩
  have hB00 : Aside (Below w.heap.size w (w.alloc (.cells #[.int .i64 0, .int .i64 0, .int .i64 0, .int .i64 0, .slice none 0 0, .slice none 0 0, .slice none 0 0, .slice none 0 0] 63))) := ⟨below_new w _⟩
  obtain ⟨na, nc, rfl⟩ := hn.form
  obtain ⟨da, dc, rfl⟩ := hd.form
  obtain ⟨ea, ec, rfl⟩ := he.form
  have HS1 := Aside.mk (show (w.alloc (.cells #[.int .i64 0, .int .i64 0, .int .i64 0, .int .i64 0, .slice none 0 0, .slice none 0 0, .slice none 0 0, .slice none 0 0] 63)).cell? ⟨bl, 0, none⟩ = some (.int .i64 k) ∧ (w.alloc (.cells #[.int .i64 0, .int .i64 0, .int .i64 0, .int .i64 0, .slice none 0 0, .slice none 0 0, .slice none 0 0, .slice none 0 0] 63)).cell? ⟨bl, 1, none⟩ = some (.int .i64 s) ∧ (w.alloc (.cells #[.int .i64 0, .int .i64 0, .int .i64 0, .int .i64 0, .slice none 0 0, .slice none 0 0, .slice none 0 0, .slice none 0 0] 63)).cell? ⟨bl, 2, none⟩ = some (.slice na nulls.length nc) ∧ (w.alloc (.cells #[.int .i64 0, .int .i64 0, .int .i64 0, .int .i64 0, .slice none 0 0, .slice none 0 0, .slice none 0 0, .slice none 0 0] 63)).cell? ⟨bl, 3, none⟩ = some (.slice da data.length dc) ∧ (w.alloc (.cells #[.int .i64 0, .int .i64 0, .int .i64 0, .int .i64 0, .slice none 0 0, .slice none 0 0, .slice none 0 0, .slice none 0 0] 63)).cell? ⟨bl, 4, none⟩ = some (.slice ea ends.length ec) ∧ (w.alloc (.cells #[.int .i64 0, .int .i64 0, .int .i64 0, .int .i64 0, .slice none 0 0, .slice none 0 0, .slice none 0 0, .slice none 0 0] 63)).cell? ⟨bl, 5, none⟩ = some (.pointer (some ⟨lw, 0, none⟩)) ∧ (w.alloc (.cells #[.int .i64 0, .int .i64 0, .int .i64 0, .int .i64 0, .slice none 0 0, .slice none 0 0, .slice none 0 0, .slice none 0 0] 63)).cell? ⟨w.heap.size, 0, none⟩ = some (.int .i64 0) ∧ (w.alloc (.cells #[.int .i64 0, .int .i64 0, .int .i64 0, .int .i64 0, .slice none 0 0, .slice none 0 0, .slice none 0 0, .slice none 0 0] 63)).cell? ⟨w.heap.size, 1, none⟩ = some (.int .i64 0) ∧ (w.alloc (.cells #[.int .i64 0, .int .i64 0, .int .i64 0, .int .i64 0, .slice none 0 0, .slice none 0 0, .slice none 0 0, .slice none 0 0] 63)).cell? ⟨w.heap.size, 2, none⟩ = some (.int .i64 0) ∧ (w.alloc (.cells #[.int .i64 0, .int .i64 0, .int .i64 0, .int .i64 0, .slice none 0 0, .slice none 0 0, .slice none 0 0, .slice none 0 0] 63)).cell? ⟨w.heap.size, 3, none⟩ = some (.int .i64 0) ∧ (w.alloc (.cells #[.int .i64 0, .int .i64 0, .int .i64 0, .int .i64 0, .slice none 0 0, .slice none 0 0, .slice none 0 0, .slice none 0 0] 63)).cell? ⟨w.heap.size, 4, none⟩ = some (.slice none 0 0) ∧ (w.alloc (.cells #[.int .i64 0, .int .i64 0, .int .i64 0, .int .i64 0, .slice none 0 0, .slice none 0 0, .slice none 0 0, .slice none 0 0] 63)).cell? ⟨w.heap.size, 5, none⟩ = some (.slice none 0 0) ∧ (w.alloc (.cells #[.int .i64 0, .int .i64 0, .int .i64 0, .int .i64 0, .slice none 0 0, .slice none 0 0, .slice none 0 0, .slice none 0 0] 63)).cell? ⟨w.heap.size, 6, none⟩ = some (.slice none 0 0) ∧ (w.alloc (.cells #[.int .i64 0, .int .i64 0, .int .i64 0, .int .i64 0, .slice none 0 0, .slice none 0 0, .slice none 0 0, .slice none 0 0] 63)).cell? ⟨w.heap.size, 7, none⟩ = some (.slice none 0 0) ∧ (w.alloc (.cells #[.int .i64 0, .int .i64 0, .int .i64 0, .int .i64 0, .slice none 0 0, .slice none 0 0, .slice none 0 0, .slice none 0 0] 63)).frozen? ⟨w.heap.size, 0, none⟩ = false ∧ (w.alloc (.cells #[.int .i64 0, .int .i64 0, .int .i64 0, .int .i64 0, .slice none 0 0, .slice none 0 0, .slice none 0 0, .slice none 0 0] 63)).frozen? ⟨w.heap.size, 1, none⟩ = false ∧ (w.alloc (.cells #[.int .i64 0, .int .i64 0, .int .i64 0, .int .i64 0, .slice none 0 0, .slice none 0 0, .slice none 0 0, .slice none 0 0] 63)).frozen? ⟨w.heap.size, 2, none⟩ = false ∧ (w.alloc (.cells #[.int .i64 0, .int .i64 0, .int .i64 0, .int .i64 0, .slice none 0 0, .slice none 0 0, .slice none 0 0, .slice none 0 0] 63)).frozen? ⟨w.heap.size, 3, none⟩ = false ∧ (w.alloc (.cells #[.int .i64 0, .int .i64 0, .int .i64 0, .int .i64 0, .slice none 0 0, .slice none 0 0, .slice none 0 0, .slice none 0 0] 63)).frozen? ⟨w.heap.size, 4, none⟩ = false ∧ (w.alloc (.cells #[.int .i64 0, .int .i64 0, .int .i64 0, .int .i64 0, .slice none 0 0, .slice none 0 0, .slice none 0 0, .slice none 0 0] 63)).frozen? ⟨w.heap.size, 5, none⟩ = false ∧ (w.alloc (.cells #[.int .i64 0, .int .i64 0, .int .i64 0, .int .i64 0, .slice none 0 0, .slice none 0 0, .slice none 0 0, .slice none 0 0] 63)).frozen? ⟨w.heap.size, 6, none⟩ = false ∧ (w.alloc (.cells #[.int .i64 0, .int .i64 0, .int .i64 0, .int .i64 0, .slice none 0 0, .slice none 0 0, .slice none 0 0, .slice none 0 0] 63)).frozen? ⟨w.heap.size, 7, none⟩ = false ∧ Aside (Below w.heap.size w (w.alloc (.cells #[.int .i64 0, .int .i64 0, .int .i64 0, .int .i64 0, .slice none 0 0, .slice none 0 0, .slice none 0 0, .slice none 0 0] 63))) from ⟨hc0, hc1, hc2, hc3, hc4, hc5, hz0, hz1, hz2, hz3, hz4, hz5, hz6, hz7, hf0, hf1, hf2, hf3, hf4, hf5, hf6, hf7, hB00⟩)
  have HN := Aside.mk hn
  have HD := Aside.mk hd
  have HE := Aside.mk he
  have HW := Aside.mk hW
  have HL := Aside.mk (And.intro hl1 (And.intro hl2 hl3))
  have H1D := Aside.mk (one_map (fun x : Int => Value.int .u8 x) (fun _ => rfl) data)
  have H1E := Aside.mk (one_map (fun x : Int => Value.int .i64 x) (fun _ => rfl) ends)
  have hne : bl ≠ w.heap.size := by omega
  have hne2 : w.heap.size ≠ bl := by omega
  clear hblk hn hd he hW
  go_enter Tryz.func34, Tryz.ntmps34
  go_wp2_with fail
  go_region_held3 (fun w' => w'.cell? ⟨bl, 0, none⟩ = some (.int .i64 k) ∧ w'.cell? ⟨bl, 1, none⟩ = some (.int .i64 s) ∧ w'.cell? ⟨bl, 2, none⟩ = some (.slice na nulls.length nc) ∧ w'.cell? ⟨bl, 3, none⟩ = some (.slice da data.length dc) ∧ w'.cell? ⟨bl, 4, none⟩ = some (.slice ea ends.length ec) ∧ w'.cell? ⟨bl, 5, none⟩ = some (.pointer (some ⟨lw, 0, none⟩)))
    (first | go_keep | (refine ⟨?_, ?_, ?_, ?_, ?_, ?_⟩ <;> assumption))
    (first
      | (go_at_call 90; refine (mof_any nulls _ _ HL.out.1 ((HN.out.below (below_chain hB00.out (by repeat (first | exact Below.refl _ _ | exact below_drew1 _ | (refine below_chain ?_ (by assumption)))))).rd)).mono ?_; rintro e wm ⟨mv, rfl, ho, hbm⟩; obtain ⟨ma, mc, rfl⟩ := ho.form; have HM := Aside.mk ho; clear ho; (first | (replace hbm := undrew hbm) | skip); obtain ⟨q0, q1, q2, q3, q4, q5, q6, q7, q8, q9, q10, q11, q12, q13, q14, q15, q16, q17, q18, q19, q20, q21, q22⟩ := colS_next (w2 := wm) HS1.out (by repeat (first | exact Below.refl _ _ | exact below_drew1 _ | (refine below_chain ?_ (by assumption)))))
      | (go_at_call 91; refine (clone_bytes _ _ _ _ HL.out.2.1 ((HD.out.below (below_chain hB00.out (by repeat (first | exact Below.refl _ _ | exact below_drew1 _ | (refine below_chain ?_ (by assumption)))))).rd) H1D.out).mono ?_; rintro e wd ⟨dv', rfl, ho, hbd⟩; obtain ⟨da', dc', rfl⟩ := ho.form; have HDD := Aside.mk ho; clear ho; (first | (replace hbd := undrew hbd) | skip); obtain ⟨q0, q1, q2, q3, q4, q5, q6, q7, q8, q9, q10, q11, q12, q13, q14, q15, q16, q17, q18, q19, q20, q21, q22⟩ := colS_next (w2 := wd) HS1.out (by repeat (first | exact Below.refl _ _ | exact below_drew1 _ | (refine below_chain ?_ (by assumption)))))
      | (go_at_call 92; refine (clone_ints _ _ _ _ HL.out.2.2 ((HE.out.below (below_chain hB00.out (by repeat (first | exact Below.refl _ _ | exact below_drew1 _ | (refine below_chain ?_ (by assumption)))))).rd) H1E.out).mono ?_; rintro e we ⟨ev', rfl, ho, hbe⟩; obtain ⟨ea', ec', rfl⟩ := ho.form; have HEE := Aside.mk ho; clear ho; (first | (replace hbe := undrew hbe) | skip); obtain ⟨q0, q1, q2, q3, q4, q5, q6, q7, q8, q9, q10, q11, q12, q13, q14, q15, q16, q17, q18, q19, q20, q21, q22⟩ := colS_next (w2 := we) HS1.out (by repeat (first | exact Below.refl _ _ | exact below_drew1 _ | (refine below_chain ?_ (by assumption)))))
      | (go_at_call 93; refine (HW.out _ (below_chain hB00.out (by repeat (first | exact Below.refl _ _ | exact below_drew1 _ | (refine below_chain ?_ (by assumption))))) (col_size (by repeat (first | exact Below.refl _ _ | exact below_drew1 _ | (refine below_chain ?_ (by assumption)))))).mono ?_; rintro e ww ⟨wa, wn, wc, rfl, hbw, ho⟩; have HWW := Aside.mk ho; clear ho; (first | (replace hbw := undrew hbw) | skip); obtain ⟨q0, q1, q2, q3, q4, q5, q6, q7, q8, q9, q10, q11, q12, q13, q14, q15, q16, q17, q18, q19, q20, q21, q22⟩ := colS_next (w2 := ww) HS1.out (by repeat (first | exact Below.refl _ _ | exact below_drew1 _ | (refine below_chain ?_ (by assumption))))))
  go_wp2
  refine bodyPost_ret (v := .agg #[.int .i64 k, .int .i64 s, .int .i64 (nulls.length : Int), .int .i64 (nulls.length : Int), .slice ma (mof nulls).length mc, .slice da' data.length dc', .slice ea' ends.length ec', .slice wa wn wc]) (by simp [results, Tryz.results34, go_sem, q6, q7, q8, q9, q10, q11, q12, q13]) rfl ?_
  have hsz : w.heap.size + 1 ≤ ((w.alloc (.cells #[.int .i64 0, .int .i64 0, .int .i64 0, .int .i64 0, .slice none 0 0, .slice none 0 0, .slice none 0 0, .slice none 0 0] 63)).drew).heap.size := by show _ ≤ (w.alloc _).heap.size; simp
  have hsm := hbm.size
  have hsd := hbd.size
  have hse := hbe.size
  have hsz2 : w.heap.size + 1 ≤ wm.heap.size := by simpa using hsm
  have BM : Below wm.heap.size wm ww := below_chain (below_chain hbd hbe) hbw
  have BD : Below wd.heap.size wd ww := below_chain hbe hbw
  have K8 : Kept (fun b => b = w.heap.size) ww ((((((((ww.setCell ⟨w.heap.size, 0, none⟩ (.int .i64 k)).setCell ⟨w.heap.size, 1, none⟩ (.int .i64 s)).setCell ⟨w.heap.size, 2, none⟩ (.int .i64 (nulls.length : Int))).setCell ⟨w.heap.size, 3, none⟩ (.int .i64 (nulls.length : Int))).setCell ⟨w.heap.size, 4, none⟩ (.slice ma (mof nulls).length mc)).setCell ⟨w.heap.size, 5, none⟩ (.slice da' data.length dc')).setCell ⟨w.heap.size, 6, none⟩ (.slice ea' ends.length ec')).setCell ⟨w.heap.size, 7, none⟩ (.slice wa wn wc)) := by
    repeat (refine Kept.trans ?_ (Kept.setCell _ _ _) (fun _ e _ => e))
    exact Kept.refl _ _
  have BF : Below w.heap.size w ww := below_chain hB00.out (below_chain hbm BM)
  refine ⟨_, _, _, _, rfl, ?_, ?_, ?_, ⟨_, ?_, hG _ _ _ _ ?_ HWW.out K8, ?_⟩, ?_⟩
  · exact own_sets (HM.out.below BM) hsz K8
  · exact own_sets (HDD.out.below BD) hsz2 K8
  · exact own_sets (HEE.out.below hbw) (by omega) K8
  · omega
  · omega
  · refine ⟨fun b e => ?_, fun b e => ?_, fun b e e2 => ?_⟩
    · have := (HM.out.lt b e).2; omega
    · have := (HDD.out.lt b e).2; omega
    · have h1 := (HM.out.lt b e).2
      have h2 := (HDD.out.lt b e2).1
      omega
  · exact BF.trans (K8.to_below BF.size (fun k e => by omega))
end Go.Proofs.YtmhjjhaipcgbiaaGreat


/- running.may. -/
namespace Go.Proofs.YtmhjjhaipcgbiaaGreat
open Go.RowKit
set_option linter.unusedVariables false
set_option linter.unusedSimpArgs false
set_option maxRecDepth 100000
set_option maxHeartbeats 1000000

def okR (c : Col) (i : Nat) : Bool := !(decide (c.ends.getD i 0 < aheadI c.ends i) || decide ((c.data.length : Int) < c.ends.getD i 0) || (nullB c.bits i && c.ends.getD i 0 != aheadI c.ends i))
theorem mayRunning_eq (c : Col) : mayRunning c = (((c.ends.length : Int) == c.n) && c.words.isEmpty && (List.range c.ends.length).all (okR c) && (aheadI c.ends c.ends.length == (c.data.length : Int))) := rfl

theorem words_pos {ws : List (List Int)} (h : ws.isEmpty = false) : decide (0 < ws.length) = true := by
  cases ws with
  | nil => cases h
  | cons a l => simp
theorem words_zero {ws : List (List Int)} (h : ws.isEmpty = true) : decide (0 < ws.length) = false := by
  cases ws with
  | nil => rfl
  | cons a l => cases h

theorem mayR_any (c : Col) (hc : COK c) (hn : c.n ≤ 8 * (c.bits.length : Int)) (B D E X : SL) (vals : List Value) (w : World) (h : RdC w c B D E X vals) :
    Calls Tryz.prog 218 #[.agg #[], colV c B D E X] w (BoolP (mayRunning c) w) := by
  obtain ⟨ea, ec⟩ := E
  have HR := Aside.mk h
  have HC := Aside.mk hc
  have HN := Aside.mk hn
  clear h hc hn
  have hbw := (below_new w (.cells #[] 162)).trans ((below_new _ (.cells #[.int .i64 c.k, .int .i64 c.s, .int .i64 c.n, .int .i64 c.m, .slice B.a c.bits.length B.c, .slice D.a c.data.length D.c, .slice ea c.ends.length ec, .slice X.a c.words.length X.c] 63)).mono (by simp))
  have HBW := Aside.mk hbw
  clear hbw
  dsimp only [colV]
  by_cases he : (c.ends.length : Int) = c.n
  rotate_left
  · have he2 : ((c.ends.length : Int) == c.n) = false := by simpa using he
    have HE2 := Aside.mk he2
    have he3 : ((c.ends.length : Int) != c.n) = true := by rw [bne, he2]; rfl
    clear he he2
    go_enter Tryz.func218, Tryz.ntmps218
    go_wp2
    go_ret
    exact ⟨ret_bool (by rw [mayRunning_eq, HE2.out]; rfl), HBW.out⟩
  have S2 := Aside.mk he
  have he2 : ((c.ends.length : Int) == c.n) = true := by simpa using he
  have HE2 := Aside.mk he2
  have he3 : ((c.ends.length : Int) != c.n) = false := by rw [bne, he2]; rfl
  clear he he2
  cases hx : c.words.isEmpty with
  | false =>
    have hx2 := words_pos hx
    have HX := Aside.mk hx
    clear hx
    go_enter Tryz.func218, Tryz.ntmps218
    go_wp2
    go_ret
    exact ⟨ret_bool (by rw [mayRunning_eq, HE2.out, HX.out]; rfl), HBW.out⟩
  | true =>
    have hx2 := words_zero hx
    have HM := Aside.mk (show mayRunning c = ((List.range c.ends.length).all (okR c) && (aheadI c.ends c.ends.length == (c.data.length : Int))) by rw [mayRunning_eq, HE2.out, hx]; simp)
    clear hx
    have hle := HC.out.le
    have hld := HC.out.ld
    go_enter Tryz.func218, Tryz.ntmps218
    go_wp2
    generalize hw1 : ((w.alloc (.cells #[] 162)).alloc (.cells #[.int .i64 c.k, .int .i64 c.s, .int .i64 c.n, .int .i64 c.m, .slice B.a c.bits.length B.c, .slice D.a c.data.length D.c, .slice ea c.ends.length ec, .slice X.a c.words.length X.c] 63)) = w1 at *
    have BX := Aside.mk (show w1.heap[w.heap.size + 1]? = some (.cells #[.int .i64 c.k, .int .i64 c.s, .int .i64 c.n, .int .i64 c.m, .slice B.a c.bits.length B.c, .slice D.a c.data.length D.c, .slice ea c.ends.length ec, .slice X.a c.words.length X.c] 63 (0, 0)) by
      rw [← hw1]; simpa using heap_alloc_new (w.alloc (.cells #[] 162)) (.cells #[.int .i64 c.k, .int .i64 c.s, .int .i64 c.n, .int .i64 c.m, .slice B.a c.bits.length B.c, .slice D.a c.data.length D.c, .slice ea c.ends.length ec, .slice X.a c.words.length X.c] 63))
    clear hw1
    go_loopw [23] (fun iv wr => ∃ i : Nat, i ≤ c.ends.length ∧ iv = .int .i64 (i : Int) ∧ Aside (Below w.heap.size w wr ∧ wr.heap[w.heap.size + 1]? = some (.cells #[.int .i64 c.k, .int .i64 c.s, .int .i64 c.n, .int .i64 c.m, .slice B.a c.bits.length B.c, .slice D.a c.data.length D.c, .slice ea c.ends.length ec, .slice X.a c.words.length X.c] 63 (0, 0)) ∧ ∀ j, j < i → okR c j = true)) (fun iv _ => c.ends.length - (intOf iv).toNat)
    case atStart => exact ⟨0, by omega, rfl, ⟨HBW.out, BX.out, fun j hj => by omega⟩⟩
    case round =>
      clear HBW BX
      obtain ⟨i, hi, rfl, hp⟩ := hrel
      have BW := Aside.mk hp.out.1
      have BX := Aside.mk hp.out.2.1
      have HA := Aside.mk hp.out.2.2
      clear hp
      obtain ⟨c0, c1, c2, c3, c4, c5, c6, c7⟩ := box8 BX.out
      by_cases hlt : i < c.ends.length
      · have hb8 : i / 8 < c.bits.length := by have := S2.out; have := HN.out; omega
        obtain ⟨eb, eo, ecap, hs, hel, hecap, hcE⟩ := rd_get HR.out.ends i hlt
        have hcE2 := (BW.out.cell (p := ⟨eb, eo + i, none⟩) (World.block_lt_of_cell? _ _ hcE)).trans hcE
        clear hcE
        have hahead := Aside.mk (fun (w2 : World) hb => cahead_any c B D ⟨ea, ec⟩ X i (by omega) HC.out.le w2 (HR.out.ends.below hb))
        have hnull := Aside.mk (fun (w2 : World) hb => null_any c B D ⟨ea, ec⟩ X i hb8 HC.out.bits HC.out.lb w2 (HR.out.bits.below hb))
        simp only [Value.slice.injEq, true_and] at hs
        obtain ⟨rfl, rfl⟩ := hs
        have hok := Aside.mk (show okR c i = !(decide (c.ends.getD i 0 < aheadI c.ends i) || decide ((c.data.length : Int) < c.ends.getD i 0) || (nullB c.bits i && c.ends.getD i 0 != aheadI c.ends i)) from rfl)
        generalize c.ends.getD i 0 = ev at *
        generalize aheadI c.ends i = fv at *
        generalize nullB c.bits i = nb at *
        by_cases ha : ev < fv
        · have ha2 : decide (ev < fv) = true := decide_eq_true ha
          go_wp2_with (first | (go_at_call 87; refine (hahead.out _ BW.out).mono ?_; rintro e w2 ⟨rfl, hb2⟩; replace BW := Aside.mk (BW.out.trans (hb2.mono BW.out.size)); replace BX := Aside.mk ((hb2.block _ (lt_of_blk BX.out)).trans BX.out); obtain ⟨c0, c1, c2, c3, c4, c5, c6, c7⟩ := box8 BX.out; clear hb2) | (go_at_call 129; refine (hnull.out _ BW.out).mono ?_; rintro e w2 ⟨rfl, hb2⟩; replace BW := Aside.mk (BW.out.trans (hb2.mono BW.out.size)); replace BX := Aside.mk ((hb2.block _ (lt_of_blk BX.out)).trans BX.out); obtain ⟨c0, c1, c2, c3, c4, c5, c6, c7⟩ := box8 BX.out; clear hb2))
          go_ret
          exact ⟨ret_bool (by rw [HM.out, all_false hlt (by rw [hok.out, ha2]; rfl)]; rfl), BW.out⟩
        have ha2 : decide (ev < fv) = false := decide_eq_false ha
        by_cases hd : (c.data.length : Int) < ev
        · have hd2 : decide ((c.data.length : Int) < ev) = true := decide_eq_true hd
          go_wp2_with (first | (go_at_call 87; refine (hahead.out _ BW.out).mono ?_; rintro e w2 ⟨rfl, hb2⟩; replace BW := Aside.mk (BW.out.trans (hb2.mono BW.out.size)); replace BX := Aside.mk ((hb2.block _ (lt_of_blk BX.out)).trans BX.out); obtain ⟨c0, c1, c2, c3, c4, c5, c6, c7⟩ := box8 BX.out; clear hb2) | (go_at_call 129; refine (hnull.out _ BW.out).mono ?_; rintro e w2 ⟨rfl, hb2⟩; replace BW := Aside.mk (BW.out.trans (hb2.mono BW.out.size)); replace BX := Aside.mk ((hb2.block _ (lt_of_blk BX.out)).trans BX.out); obtain ⟨c0, c1, c2, c3, c4, c5, c6, c7⟩ := box8 BX.out; clear hb2))
          go_ret
          exact ⟨ret_bool (by rw [HM.out, all_false hlt (by rw [hok.out, hd2]; simp)]; rfl), BW.out⟩
        have hd2 : decide ((c.data.length : Int) < ev) = false := decide_eq_false hd
        cases nb with
        | true =>
          by_cases hq : ev = fv
          · subst hq
            go_wp2_with (first | (go_at_call 87; refine (hahead.out _ BW.out).mono ?_; rintro e w2 ⟨rfl, hb2⟩; replace BW := Aside.mk (BW.out.trans (hb2.mono BW.out.size)); replace BX := Aside.mk ((hb2.block _ (lt_of_blk BX.out)).trans BX.out); obtain ⟨c0, c1, c2, c3, c4, c5, c6, c7⟩ := box8 BX.out; clear hb2) | (go_at_call 129; refine (hnull.out _ BW.out).mono ?_; rintro e w2 ⟨rfl, hb2⟩; replace BW := Aside.mk (BW.out.trans (hb2.mono BW.out.size)); replace BX := Aside.mk ((hb2.block _ (lt_of_blk BX.out)).trans BX.out); obtain ⟨c0, c1, c2, c3, c4, c5, c6, c7⟩ := box8 BX.out; clear hb2))
            refine ⟨⟨i + 1, by omega, by simp, ⟨BW.out, BX.out, fun j hj => ?_⟩⟩, by simp [intOf]; omega⟩
            rcases Nat.lt_or_ge j i with h | h
            · exact HA.out j h
            · obtain rfl : j = i := by omega
              rw [hok.out, ha2, hd2]; simp
          · have hq2 : (ev != fv) = true := by simpa using hq
            go_wp2_with (first | (go_at_call 87; refine (hahead.out _ BW.out).mono ?_; rintro e w2 ⟨rfl, hb2⟩; replace BW := Aside.mk (BW.out.trans (hb2.mono BW.out.size)); replace BX := Aside.mk ((hb2.block _ (lt_of_blk BX.out)).trans BX.out); obtain ⟨c0, c1, c2, c3, c4, c5, c6, c7⟩ := box8 BX.out; clear hb2) | (go_at_call 129; refine (hnull.out _ BW.out).mono ?_; rintro e w2 ⟨rfl, hb2⟩; replace BW := Aside.mk (BW.out.trans (hb2.mono BW.out.size)); replace BX := Aside.mk ((hb2.block _ (lt_of_blk BX.out)).trans BX.out); obtain ⟨c0, c1, c2, c3, c4, c5, c6, c7⟩ := box8 BX.out; clear hb2))
            go_ret
            exact ⟨ret_bool (by rw [HM.out, all_false hlt (by rw [hok.out, hq2]; simp)]; rfl), BW.out⟩
        | false =>
          go_wp2_with (first | (go_at_call 87; refine (hahead.out _ BW.out).mono ?_; rintro e w2 ⟨rfl, hb2⟩; replace BW := Aside.mk (BW.out.trans (hb2.mono BW.out.size)); replace BX := Aside.mk ((hb2.block _ (lt_of_blk BX.out)).trans BX.out); obtain ⟨c0, c1, c2, c3, c4, c5, c6, c7⟩ := box8 BX.out; clear hb2) | (go_at_call 129; refine (hnull.out _ BW.out).mono ?_; rintro e w2 ⟨rfl, hb2⟩; replace BW := Aside.mk (BW.out.trans (hb2.mono BW.out.size)); replace BX := Aside.mk ((hb2.block _ (lt_of_blk BX.out)).trans BX.out); obtain ⟨c0, c1, c2, c3, c4, c5, c6, c7⟩ := box8 BX.out; clear hb2))
          refine ⟨⟨i + 1, by omega, by simp, ⟨BW.out, BX.out, fun j hj => ?_⟩⟩, by simp [intOf]; omega⟩
          rcases Nat.lt_or_ge j i with h | h
          · exact HA.out j h
          · obtain rfl : j = i := by omega
            rw [hok.out, ha2, hd2]; rfl
      · obtain rfl : i = c.ends.length := by omega
        have hah : Aside (∀ w2 : World, Below w.heap.size w w2 → Calls Tryz.prog 87 #[colV c B D ⟨ea, ec⟩ X, .int .i64 c.n] w2 (IntP (aheadI c.ends c.ends.length) w2)) := ⟨fun w2 hb => by
          have := cahead_any c B D ⟨ea, ec⟩ X c.ends.length (Nat.le_refl _) HC.out.le w2 (HR.out.ends.below hb)
          rw [S2.out] at this
          exact this⟩
        have HAL := Aside.mk (all_range HA.out)
        go_wp2
        go_region_law ((refine step_call (P := Tryz.prog) wr.drew (by rfl) 87 [.tmp 52, .tmp 54] _ (by rfl) [colV c B D ⟨ea, ec⟩ X, .int .i64 c.n] (by rfl) (fun _ _ => rfl) (hah.out wr.drew (BW.out.trans (below_drewN _ _ 1))) ?_; rintro e w2 ⟨rfl, hb2⟩; replace hb2 := undrew hb2; replace BW := Aside.mk (BW.out.trans (hb2.mono BW.out.size)); replace BX := Aside.mk ((hb2.block _ (lt_of_blk BX.out)).trans BX.out); obtain ⟨c0, c1, c2, c3, c4, c5, c6, c7⟩ := box8 BX.out; clear hb2; refine ⟨_, rfl, ?_⟩))
        all_goals
          go_wp2
          go_ret
          exact ⟨ret_bool (by rw [HM.out, HAL.out]; rfl), BW.out⟩
end Go.Proofs.YtmhjjhaipcgbiaaGreat


/- Code: a word's code; a new word comes at the end. -/
namespace Go.Proofs.YtmhjjhaipcgbiaaGreat
open Go.RowKit Go.Maps
set_option linter.unusedVariables false
set_option linter.unusedSimpArgs false
set_option maxRecDepth 100000
set_option maxHeartbeats 1000000

theorem string_law : Keyed Tryz.prog 9 := string_keyed Tryz.underlying9
theorem int_zero (w : World) : (zeroValue 3).run Tryz.prog w = .ok (.int .i64 0) w := by kernel_rfl
theorem bytesinfo : (Tryz.prog.info? 43).map (fun i => (i.zero, i.size, i.bytes)) = some (some (.slice none 0 0), 1, 24) := by kernel_rfl

theorem conv_nil (a : Option Addr) (c : Nat) (w : World) : (convert 43 9 (.slice a 0 c)).run Tryz.prog w = .ok (.string (strOfNums [])) w := by
  cases a <;> kernel_rfl
/-- Bytes as a string, also none. -/
theorem conv_any (a : Option Addr) (n c : Nat) (xs : List Int) (hn : xs.length = n) (w : World) (h : Rd w 1 (.slice a n c) n (xs.map (.int .u8))) : (convert 43 9 (.slice a n c)).run Tryz.prog w = .ok (.string (strOfNums xs)) w := by
  rcases Nat.eq_zero_or_pos n with h0 | h0
  · subst h0
    obtain rfl : xs = [] := List.eq_nil_of_length_eq_zero hn
    exact conv_nil a c w
  · obtain ⟨g, o, d, e, _, _, hc⟩ := h.some_ (by rw [List.length_map]; omega)
    rw [e]
    exact run_convert_bytes_arg w 43 5 Tryz.underlying43 Tryz.underlying5 g o n d xs hn (fun i hi => hc i _ (by
      have : i < xs.length := by omega
      simp [List.getElem?_eq_getElem this, List.getD])) 9 Tryz.underlying9

theorem look_code {w : World} {T : Nat → Prop} {lw : Nat} {ws : List (List Int)} {wv : Value} {mb : Nat} {vals : List Value} {D : DataW Unit} (h : WLx w T lw ws wv mb vals D) (tx : List Int) (ht : IsBytes tx) (hl : tx.length ≤ 100000000) :
    ∃ c : Int, (Instr.lookup 210 (.map (some mb)) (.string (strOfNums tx)) true).run Tryz.prog w = .ok (.tuple #[.int .i64 c, .bool (ws.contains tx)]) w ∧ (ws.contains tx = true → c = (codeOf ws tx : Int)) := by
  obtain ⟨n, hm, hn⟩ := h.map
  obtain ⟨v, ps, hrun, hv⟩ := hm.look_ok string_law Tryz.underlying210 (int_zero w) (plainElem_int Tryz.underlying3 (by decide)) (wordKey_key tx (by unfold maxLen; omega))
  obtain ⟨c, rfl, hc, _⟩ := plainElem_int_inv Tryz.underlying3 hv
  rw [h.codes.1 tx ht] at hrun
  refine ⟨c, hrun, fun hcon => ?_⟩
  have := h.codes.2 _ tx (codeOf_get hcon)
  have e := congrArg Prod.fst hc
  rw [this] at e
  simp at e
  exact e.symm

theorem wf_len (n : Nat) (h : n ≤ 100000000) : (Lit.int .i64 (n : Int)).wf = true := by
  have h1 : IntKind.i64.min ≤ 0 := by decide
  have h2 : 100000000 ≤ IntKind.i64.max := by decide
  unfold Lit.wf
  simp only [Bool.and_eq_true, decide_eq_true_eq]
  omega
theorem store_code {w : World} {T : Nat → Prop} {lw : Nat} {ws : List (List Int)} {wv : Value} {mb : Nat} {vals : List Value} {D : DataW Unit} (h : WLx w T lw ws wv mb vals D) (tx : List Int) (ht : IsBytes tx) (hl : tx.length ≤ 100000000) (hw : ws.length ≤ 100000000) :
    ∃ w', (Instr.mapUpdate 210 (.map (some mb)) (.string (strOfNums tx)) (.int .i64 (ws.length : Int))).run Tryz.prog w = .ok () w' ∧ (∃ n, w'.ownsMap Tryz.prog 9 (plainElem Tryz.prog 3) mb n (D.put (wordKey tx) (.lit (.int .i64 (ws.length : Int)))) ∧ n ≤ ws.length + 1) ∧ w.grownBy w' (some mb) := by
  obtain ⟨n, hm, hn⟩ := h.map
  obtain ⟨w', h1, h2, h3⟩ := hm.update string_law Tryz.underlying210 (by unfold maxLen; omega) (wordKey_key tx (by unfold maxLen; omega)) (plainElem_int Tryz.underlying3 (q := .i64) (a := (ws.length : Int)) (wf_len _ (by omega)))
  exact ⟨w', h1, ⟨_, h2, by omega⟩, h3⟩

theorem map_ne_cells {w : World} {a b : Nat} {es : Array MapEntry} {k : Nat} {cs : Array Value} {t : TypeId} {f : Nat × Nat} (h1 : w.heap[a]? = some (.map es k)) (h2 : w.heap[b]? = some (.cells cs t f)) : a ≠ b := by
  rintro rfl
  rw [h1] at h2; cases h2

/-- A row that is read stays where blocks turn that hold none of its cells. -/
theorem rd_kept2 {S : Nat → Prop} {w w' : World} {sz n : Nat} {v : Value} {xs : List Value} (h : Rd w sz v n xs) (hb : Kept S w w') (hS : ∀ k o u, w.cell? ⟨k, o, none⟩ = some u → v.ownBlock = some k → ¬ S k) : Rd w' sz v n xs := by
  obtain ⟨hl, a, cap, rfl, h1, h2, h3, h4⟩ := h
  refine ⟨hl, a, cap, rfl, h1, h2, h3, fun j u hu => ?_⟩
  obtain ⟨b, off, rfl, hc⟩ := h4 j u hu
  exact ⟨b, off, rfl, hb.cell hc (hS b _ u hc rfl)⟩
theorem own_blk {w : World} {base : Nat} {E : TypeId} {sz n : Nat} {v : Value} {xs : List Value} (h : Own w base E sz v n xs) {b : Nat} (hb : v.ownBlock = some b) : ∃ cur, w.heap[b]? = some (.cells cur E (0, 0)) := by
  rcases h.2 with ⟨rfl, _⟩ | ⟨g, off, cap, cur, rfl, _, hg, _⟩
  · cases hb
  · cases hb; exact ⟨cur, hg⟩

/-- A new word has been laid. -/
theorem wl_done {w w1 w3 w5 : World} {T : Nat → Prop} {lw : Nat} {ws : List (List Int)} {wv v' v5 : Value} {mb : Nat} {vals : List Value} {D : DataW Unit} {tx : List Int} {n1 : Nat} (H : WLx w T lw ws wv mb vals D) (hb : IsBytes tx) (hcon : ws.contains tx = false)
    (hm1 : w1.ownsMap Tryz.prog 9 (plainElem Tryz.prog 3) mb n1 (D.put (wordKey tx) (.lit (.int .i64 (ws.length : Int))))) (hn1 : n1 ≤ ws.length + 1) (hg1 : w.drew.drew.grownBy w1 (some mb))
    (hb3 : Below w1.heap.size w1 w3) (ho : Own w3 w1.heap.size 5 1 v' tx.length (tx.map (.int .u8)))
    (hgrow : (w3.alloc (.cells #[v'] 43)).grownBy w5 wv.ownBlock) (hown : Own w5 0 43 1 v5 (ws.length + 1) (vals ++ [v'])) (hat : v5.ownBlock = wv.ownBlock ∨ ∃ b, v5.ownBlock = some b ∧ (w3.alloc (.cells #[v'] 43)).heap.size ≤ b) :
    WL (w5.setCell ⟨lw, 0, none⟩ v5) (fun b => T b ∨ w.heap.size ≤ b) lw (addWord ws tx) ∧ Kept T w (w5.setCell ⟨lw, 0, none⟩ v5) := by
  obtain ⟨n0, hm0, _⟩ := H.map
  obtain ⟨es0, ck0, hmb0, _⟩ := hm0
  have hmlt := lt_of_blk hmb0
  have hllt := lt_of_blk H.blk
  have hml : mb ≠ lw := map_ne_cells hmb0 H.blk
  have k1 : Kept (fun b => b = mb) w w1 := ((Kept.of_below (S := fun b => b = mb) (below_drewN w _ 2)).trans (Kept.of_grown hg1) (fun k e _ => by simpa using e))
  have hs1 := k1.size
  have hs3 := hb3.size
  have hmw : ∀ b, wv.ownBlock = some b → b ≠ mb := by
    rintro b e rfl
    obtain ⟨cur, hc⟩ := own_blk H.row e
    exact map_ne_cells hmb0 hc rfl
  have row1 : Own w1 0 43 1 wv ws.length vals := H.row.kept k1 hmw
  have k2 : Kept (fun b => wv.ownBlock = some b) w1 w5 := ((Kept.of_below (S := fun b => wv.ownBlock = some b) hb3).trans (Kept.of_below (S := fun b => wv.ownBlock = some b) (below_new w3 (.cells #[v'] 43))) (fun _ e _ => e)).trans (Kept.of_grown hgrow) (fun _ e _ => e.symm)
  have hs5 := k2.size
  have hl1 := (k1.block lw hllt (fun e => hml e.symm)).trans H.blk
  have nlw : wv.ownBlock ≠ some lw := H.row.blk_ne H.blk (by decide)
  have hl5 := (k2.block lw (lt_of_blk hl1) nlw).trans hl1
  have k3 : Kept (fun b => b = mb ∨ wv.ownBlock = some b ∨ b = lw) w (w5.setCell ⟨lw, 0, none⟩ v5) :=
    ((k1.mono (T := fun b => b = mb ∨ wv.ownBlock = some b ∨ b = lw) (fun k e _ => .inl e)).trans k2 (fun k e _ => .inr (.inl e))).trans (Kept.setCell _ _ _) (fun k e _ => .inr (.inr e))
  have k4 : Kept (fun b => wv.ownBlock = some b ∨ b = lw) w1 (w5.setCell ⟨lw, 0, none⟩ v5) :=
    (k2.mono (T := fun b => wv.ownBlock = some b ∨ b = lw) (fun k e _ => .inl e)).trans (Kept.setCell _ _ _) (fun k e _ => .inr e)
  have k5 : Kept (fun b => wv.ownBlock = some b ∨ b = lw) w3 (w5.setCell ⟨lw, 0, none⟩ v5) :=
    (((Kept.of_below (S := fun b => wv.ownBlock = some b ∨ b = lw) (below_new w3 (.cells #[v'] 43))).trans (Kept.of_grown hgrow) (fun _ e _ => .inl e.symm))).trans (Kept.setCell _ _ _) (fun k e _ => .inr e)
  refine ⟨?_, k3.mono (fun k e _ => by
    rcases e with rfl | e | rfl
    · exact H.tm
    · exact H.tw _ e
    · exact H.tl)⟩
  rw [addWord_new hcon]
  refine ⟨v5, mb, vals ++ [v'], _, ⟨?_, ⟨n1, ?_, by simpa using hn1⟩, codesOK_put H.codes (World.ownsMap.isMap H.map.choose_spec.1) H.bytes hb hcon, ?_, ?_, .inl H.tl, .inl H.tm, ?_, ?_, ?_⟩⟩
  · have := heap_setCell_at (k := 0) hl5 v5
    simpa using this
  · obtain ⟨es, ck, hmb, r⟩ := hm1
    refine ⟨es, ck, (k4.block mb (lt_of_blk hmb) ?_).trans hmb, r⟩
    rintro (e | e)
    · exact hmw _ e rfl
    · exact hml e
  · rw [List.length_append]
    exact hown.set_other (hown.blk_ne hl5 (by decide)) _
  · refine ⟨by simp [H.words.1], fun i t hi => ?_⟩
    rcases Nat.lt_or_ge i ws.length with hlt | hge
    · rw [List.getElem?_append_left hlt] at hi
      obtain ⟨v, h1, h2, h3⟩ := H.words.2 i t hi
      refine ⟨v, by rw [List.getElem?_append_left (by rw [H.words.1]; exact hlt)]; exact h1, h2.kept k3 (fun k e => ?_), fun b e => .inl (h3 b e)⟩
      obtain ⟨cur, hc⟩ := own_blk h2 e
      rintro (e1 | e1 | e1)
      · exact map_ne_cells hmb0 hc e1.symm
      · exact H.row.blk_ne hc (by decide) e1
      · exact blk_ne hc H.blk (by decide) e1
    · rw [List.getElem?_append_right hge] at hi
      have h0 : i - ws.length = 0 := by
        have := (List.getElem?_eq_some_iff.1 hi).1
        simp at this
        omega
      rw [h0] at hi
      simp at hi
      subst hi
      refine ⟨v', ?_, (ho.kept k5 (fun k e => ?_)).mono (Nat.zero_le _), fun b e => .inr (by have := (ho.lt b e).1; omega)⟩
      · rw [List.getElem?_append_right (by rw [H.words.1]; exact hge), H.words.1, h0]; rfl
      · have hlt := (ho.lt k e).1
        rintro (e1 | e1)
        · have := (row1.lt k e1).2; omega
        · have := lt_of_blk hl1; omega
  · intro b e
    rcases hat with h | ⟨b', h, hle⟩
    · rw [h] at e; exact .inl (H.tw b e)
    · rw [h] at e; cases e
      refine .inr ?_
      have : w3.heap.size + 1 ≤ b := by simpa using hle
      omega
  · rw [← addWord_new hcon]; exact addWord_nodup H.nodup tx
  · rw [← addWord_new hcon]; exact addWord_bytes H.bytes hb

def CodeP (T : Nat → Prop) (lw : Nat) (ws : List (List Int)) (tx : List Int) (w : World) (e : Ending) (w' : World) : Prop :=
  e = .returned (.int .i64 (codeOf ws tx : Int)) ∧ WL w' (fun b => T b ∨ w.heap.size ≤ b) lw (addWord ws tx) ∧ Kept T w w'

theorem code_any (T : Nat → Prop) (lw : Nat) (ws : List (List Int)) (tx : List Int) (ta : Option Addr) (tc : Nat) (hb : IsBytes tx) (hl : tx.length ≤ 100000000) (hw : ws.length ≤ 100000000) (w : World) (h : WL w T lw ws) (ht : Rd w 1 (.slice ta tx.length tc) tx.length (tx.map (.int .u8))) :
    Calls Tryz.prog 134 #[.pointer (some ⟨lw, 0, none⟩), .slice ta tx.length tc] w (CodeP T lw ws tx w) := by
  obtain ⟨wv, mb, vals, D, h⟩ := h
  have hc0 := cell_blk (k := 0) h.blk
  have hc1 := cell_blk (k := 1) h.blk
  have hf0 := frozen_blk (k := 0) h.blk
  simp at hc0 hc1
  have hlw := lt_of_blk h.blk
  obtain ⟨c, hlook, hceq⟩ := look_code (show WLx w.drew T lw ws wv mb vals D from h.kept (Kept.of_below (S := fun _ => False) (below_drewN _ _ 1)) (fun _ _ _ e => e)) tx hb hl
  have hconv := conv_any ta _ tc tx rfl w.drew (ht.below (below_drewN _ _ 1))
  obtain ⟨wa, wc, rfl⟩ := h.row.form
  have H := Aside.mk h
  have HT := Aside.mk ht
  cases hcon : ws.contains tx with
  | true =>
    rw [hcon] at hlook
    have hce := hceq hcon
    subst hce
    have hcon := Aside.mk hcon
    clear h ht hceq
    go_enter Tryz.func134, Tryz.ntmps134
    go_wp2
    go_region
    go_wp2
    go_ret
    refine ⟨rfl, ?_, Kept.of_below (below_drewN _ _ 1)⟩
    rw [addWord_old hcon.out]
    exact ⟨_, mb, vals, D, (H.out.kept (Kept.of_below (S := fun _ => False) (below_drewN w _ 1)) (fun _ _ _ e => e)).mono (fun b hb _ => .inl hb)⟩
  | false =>
    rw [hcon] at hlook
    have hce := codeOf_new hcon
    have hcon := Aside.mk hcon
    have H1 := (show WLx w.drew.drew T lw ws (.slice wa ws.length wc) mb vals D from h.kept (Kept.of_below (S := fun _ => False) (below_drewN _ _ 2)) (fun _ _ _ e => e))
    have hconv2 := conv_any ta _ tc tx rfl w.drew.drew (ht.below (below_drewN _ _ 2))
    obtain ⟨w1, hupd, ⟨n1, hm1, hn1⟩, hg1⟩ := store_code H1 tx hb hl hw
    have HM := Aside.mk (And.intro hm1 (And.intro hn1 hg1))
    clear h ht hceq hm1 hn1 hg1 H1
    go_enter Tryz.func134, Tryz.ntmps134
    go_wp2
    go_region
    go_wp2
    go_region
    obtain ⟨es0, ck0, hmb0, _⟩ := H.out.map.choose_spec.1
    have hml : mb ≠ lw := map_ne_cells hmb0 H.out.blk
    have k1 : Kept (fun b => b = mb) w w1 := ((Kept.of_below (S := fun b => b = mb) (below_drewN w _ 2)).trans (Kept.of_grown HM.out.2.2) (fun k e _ => by simpa using e))
    have hl1 := (k1.block lw hlw (fun e => hml e.symm)).trans H.out.blk
    have hmw : ∀ b, Value.ownBlock (.slice wa ws.length wc) = some b → b ≠ mb := by
      rintro b e rfl
      obtain ⟨cur, hc⟩ := own_blk H.out.row e
      exact map_ne_cells hmb0 hc rfl
    have row1 := Aside.mk (show Own w1 0 43 1 (.slice wa ws.length wc) ws.length vals from H.out.row.kept k1 hmw)
    have hc0 := cell_blk (k := 0) hl1
    have hf0 := frozen_blk (k := 0) hl1
    simp at hc0
    have hlw1 := lt_of_blk hl1
    have nlw := Aside.mk (show Value.ownBlock (.slice wa ws.length wc) ≠ some lw from H.out.row.blk_ne H.out.blk (by decide))
    have HL1 := Aside.mk hl1
    have HT1 := Aside.mk (show Rd w1.drew 1 (.slice ta tx.length tc) tx.length (tx.map (.int .u8)) from (rd_kept2 HT.out k1 (fun b o u hu _ e => by
      subst e
      simp [World.cell?, hmb0] at hu)).below (below_drewN _ _ 1))
    have h1c := Aside.mk (one_map (fun x : Int => Value.int .u8 x) (fun _ => rfl) tx)
    clear hl1 k1 hmw hmb0 hconv hconv2 hlook hupd
    go_wp2
    go_region_law (first
      | (refine step_call (P := Tryz.prog) w1.drew (by rfl) 91 [.tmp 36] _ (by rfl) [.slice ta tx.length tc] (by rfl) (fun _ _ => rfl) (clone_bytes (.slice ta tx.length tc) tx.length _ w1.drew (by omega) HT1.out h1c.out) ?_; rintro e w3 ⟨v', rfl, ho, hb3⟩; obtain ⟨va, vc, rfl⟩ := ho.form; replace hb3 : Below w1.heap.size w1 w3 := (below_drewN w1 _ 1).trans hb3; have hl3 := (hb3.block lw hlw1).trans HL1.out; have hc03 := cell_blk (k := 0) hl3; have hf03 := frozen_blk (k := 0) hl3; simp at hc03; have hlw3 := lt_of_blk hl3; have HO := Aside.mk ho; have HB3 := Aside.mk hb3; have HL3 := Aside.mk hl3; clear ho hb3 hl3; refine ⟨_, rfl, ?_⟩)
      | (refine step_app (P := Tryz.prog) _ (by rfl) (.tmp 35) (.tmp 38) 37 37 (by rfl) 0 43 (.slice none 0 0) 1 24 Tryz.underlying37 bytesinfo (by rfl) (.slice wa ws.length wc) ws.length vals (by rfl) ((row1.out.below HB3.out).alloc _) (.slice (some ⟨_, 0, none⟩) 1 1) 1 [.slice va tx.length vc] (by rfl) (src_one Tryz.underlying37 _ (.slice va tx.length vc) 43 rfl rfl) (by unfold maxLen; omega) (by omega) (Nat.zero_le _) ?_; intro v5 w5 hown' hgrow _ hat; obtain ⟨a5, c5, rfl⟩ := hown'.form; have hb5 := (hgrow.block lw (by simp; omega) (fun e => nlw.out e.symm)).trans ((Below.heap_alloc _ (.cells #[.slice va tx.length vc] 43) _ hlw3).trans HL3.out); have hc5 := cell_blk (k := 0) hb5; have hf5 := frozen_blk (k := 0) hb5; simp at hc5; have HG5 := Aside.mk (And.intro hown' (And.intro hgrow hat)); clear hown' hgrow hat hb5))
    all_goals
      go_wp2
      go_ret
      refine ⟨by rw [hce]; rfl, ?_⟩
      exact wl_done H.out hb hcon.out HM.out.1 HM.out.2.1 HM.out.2.2 HB3.out (HO.out.mono (by show _ ≤ w1.heap.size; exact Nat.le_refl _)) HG5.out.2.1 HG5.out.1 HG5.out.2.2
end Go.Proofs.YtmhjjhaipcgbiaaGreat


/- dict.Check. -/
namespace Go.Proofs.YtmhjjhaipcgbiaaGreat
open Go.RowKit
set_option linter.unusedVariables false
set_option linter.unusedSimpArgs false
set_option maxRecDepth 100000
set_option maxHeartbeats 1000000

def dictErr (ws : List (List Int)) : Int := if ws.Nodup then 0 else 180
theorem take_nodup_no {ws : List (List Int)} {i : Nat} (hi : i < ws.length) (h : (ws.take i).contains ws[i] = true) : ¬ ws.Nodup := by
  intro hn
  rw [← List.take_append_drop i ws, List.nodup_append] at hn
  simp at h
  exact hn.2.2 _ h _ (by rw [List.drop_eq_getElem_cons hi]; exact List.mem_cons_self ..) rfl

theorem dictCheck_any (ws : List (List Int)) (W : SL) (vals : List Value) (hl : ws.length ≤ 100000000) (hb : ∀ t ∈ ws, IsBytes t ∧ t.length ≤ 100000000) (w : World) (h : Rd w 1 (.slice W.a ws.length W.c) ws.length vals) (hw : RdWs w vals ws) :
    Calls Tryz.prog 225 #[.slice W.a ws.length W.c] w (IntP (dictErr ws) w) := by
  obtain ⟨wa, wc⟩ := W
  have HR := Aside.mk h
  have HW := Aside.mk hw
  have HB := Aside.mk hb
  clear h hw hb
  go_enter Tryz.func225, Tryz.ntmps225
  go_wp2_with (go_at_call 71; refine (dictNew_any _).mono ?_; rintro e w1 ⟨rfl, rfl⟩)
  go_loopw [9] (fun iv wr => ∃ i : Nat, i ≤ ws.length ∧ iv = .int .i64 (i : Int) ∧ Aside (Below w.heap.size w wr ∧ WL wr (fun b => w.heap.size ≤ b) (w.heap.size + 1) (ws.take i))) (fun iv _ => ws.length - (intOf iv).toNat)
  case atStart => exact ⟨0, by omega, rfl, ⟨((Below.refl _ _).alloc (Nat.le_refl _) _).alloc (by simp) _, wl_new w⟩⟩
  case round =>
    obtain ⟨i, hi, rfl, hp⟩ := hrel
    by_cases hlt : i < ws.length
    · obtain ⟨ta, tc, hv, ht⟩ := HW.out.2 i _ (List.getElem?_eq_getElem hlt)
      have hvl := HW.out.1
      obtain ⟨eb, eo, ecap, hs, hel, hecap, hcE⟩ := HR.out.some_ (by omega)
      simp only [Value.slice.injEq, true_and] at hs
      obtain ⟨rfl, rfl⟩ := hs
      have hc2 := (hp.out.1.cell (p := ⟨eb, eo + i, none⟩) (World.block_lt_of_cell? _ _ (hcE i _ hv))).trans (hcE i _ hv)
      have HT := Aside.mk (ht.below hp.out.1)
      have HTB := Aside.mk (HB.out _ (List.getElem_mem hlt))
      have HTK := Aside.mk (show ws.take (i + 1) = ws.take i ++ [ws[i]] from List.take_succ_eq_append_getElem hlt)
      have HNO := Aside.mk (fun h => take_nodup_no hlt h)
      clear hcE hv ht hvl
      generalize ws[i] = t at *
      have HC := Aside.mk (code_any (fun b => w.heap.size ≤ b) (w.heap.size + 1) (ws.take i) t ta tc HTB.out.1 HTB.out.2 (by rw [List.length_take]; omega) wr hp.out.2 HT.out)
      cases hcon : (ws.take i).contains t with
      | true =>
        have hco := (List.getElem?_eq_some_iff.1 (codeOf_get hcon)).1
        rw [List.length_take] at hco
        have hres := Aside.mk (show (180 : Int) = dictErr ws by rw [dictErr, if_neg (HNO.out hcon)])
        have hd : codeOf (ws.take i) t < i := by omega
        clear hcon
        go_wp2_with (go_at_call 134; refine HC.out.mono ?_; rintro e w2 ⟨rfl, hw2, hk2⟩; have H2 := Aside.mk hk2; clear hw2 hk2)
        go_ret
        exact ⟨ret_int hres.out, hp.out.1.trans (H2.out.to_below hp.out.1.size (fun k h => h))⟩
      | false =>
        have hco := codeOf_new hcon
        rw [List.length_take, Nat.min_eq_left (by omega)] at hco
        have hcon := Aside.mk hcon
        have hcon2 := Aside.mk (addWord_new hcon.out)
        have hd : ¬ codeOf (ws.take i) t < i := by omega
        clear hco
        go_wp2_with (go_at_call 134; refine HC.out.mono ?_; rintro e w2 ⟨rfl, hw2, hk2⟩; have H2 := Aside.mk hk2; have W2 := Aside.mk hw2; clear hw2 hk2)
        refine ⟨⟨i + 1, by omega, by simp, ⟨hp.out.1.trans (H2.out.to_below hp.out.1.size (fun k h => h)), ?_⟩⟩, by simp [intOf]; omega⟩
        rw [HTK.out, ← hcon2.out]
        exact W2.out.mono (fun b h _ => by have := hp.out.1.size; rcases h with h | h <;> omega)
    · obtain rfl : i = ws.length := by omega
      have hnd := Aside.mk (show (0 : Int) = dictErr ws by
        have := hp.out.2.nodup
        rw [List.take_length] at this
        rw [dictErr, if_pos this])
      go_wp2
      go_ret
      exact ⟨ret_int hnd.out, hp.out.1⟩
end Go.Proofs.YtmhjjhaipcgbiaaGreat


/- coded.may. -/
namespace Go.Proofs.YtmhjjhaipcgbiaaGreat
open Go.RowKit
set_option linter.unusedVariables false
set_option linter.unusedSimpArgs false
set_option maxRecDepth 100000
set_option maxHeartbeats 1000000

theorem codedRun_none {c : Col} {i next : Nat} (h : codedRun c i = some next) (hs : codedStep c i next = none) : ∀ N, i < N → codedRun c N = none
  | 0, hN => by omega
  | N + 1, hN => by
    rw [codedRun]
    rcases Nat.lt_or_ge i N with hlt | hge
    · rw [codedRun_none h hs N hlt]; rfl
    · obtain rfl : N = i := by omega
      rw [h, Option.bind_some, hs]

theorem mayC_any (c : Col) (hc : COK c) (hn : c.n ≤ 8 * (c.bits.length : Int)) (B D E X : SL) (vals : List Value) (w : World) (h : RdC w c B D E X vals) :
    Calls Tryz.prog 223 #[.agg #[.int .i64 4], colV c B D E X] w (BoolP (mayCoded c) w) := by
  have HR := Aside.mk h
  have HC := Aside.mk hc
  have HN := Aside.mk hn
  clear h hc hn
  dsimp only [colV]
  go_enter Tryz.func223, Tryz.ntmps223
  go_wp2_with fail
  generalize hw1 : ((w.alloc (.cells #[.int .i64 4] 167)).alloc (.cells #[.int .i64 c.k, .int .i64 c.s, .int .i64 c.n, .int .i64 c.m, .slice B.a c.bits.length B.c, .slice D.a c.data.length D.c, .slice E.a c.ends.length E.c, .slice X.a c.words.length X.c] 63)) = w1 at *
  have BW := Aside.mk (show Below w.heap.size w w1 from hw1 ▸ ((below_new w _).trans ((below_new _ _).mono (by simp))))
  have BF := Aside.mk (show w1.heap[w.heap.size]? = some (.cells #[.int .i64 4] 167 (0, 0)) by
    rw [← hw1, Below.heap_alloc _ _ _ (by simp)]; exact heap_alloc_new _ _)
  have BX := Aside.mk (show w1.heap[w.heap.size + 1]? = some (.cells #[.int .i64 c.k, .int .i64 c.s, .int .i64 c.n, .int .i64 c.m, .slice B.a c.bits.length B.c, .slice D.a c.data.length D.c, .slice E.a c.ends.length E.c, .slice X.a c.words.length X.c] 63 (0, 0)) by
    rw [← hw1]; simpa using heap_alloc_new (w.alloc (.cells #[.int .i64 4] 167)) (.cells #[.int .i64 c.k, .int .i64 c.s, .int .i64 c.n, .int .i64 c.m, .slice B.a c.bits.length B.c, .slice D.a c.data.length D.c, .slice E.a c.ends.length E.c, .slice X.a c.words.length X.c] 63))
  clear hw1
  refine (sized_4 c B D E X HC.out.ld w1).mono ?_
  rintro e w2 ⟨rfl, hb2⟩
  replace BW := Aside.mk (BW.out.trans (hb2.mono BW.out.size)); replace BF := Aside.mk ((hb2.block _ (lt_of_blk BF.out)).trans BF.out); replace BX := Aside.mk ((hb2.block _ (lt_of_blk BX.out)).trans BX.out); obtain ⟨c0, c1, c2, c3, c4, c5, c6, c7⟩ := box8 BX.out; have cf := cell_blk (k := 0) BF.out; simp at cf; clear hb2
  cases hs : sizedB 4 c with
  | false =>
    go_wp2
    go_ret
    exact ⟨ret_bool (by unfold mayCoded; rw [hs]; rfl), BW.out⟩
  | true =>
    have hdict := Aside.mk (fun (w2 : World) hb => dictCheck_any c.words X vals HC.out.lw HC.out.words w2 (HR.out.words.below hb) (HR.out.each.below hb))
    by_cases hnd : c.words.Nodup
    rotate_left
    · have HD := Aside.mk (show dictErr c.words = 180 by rw [dictErr, if_neg hnd])
      have HM := Aside.mk (show false = mayCoded c by unfold mayCoded; simp [hnd])
      clear hs hnd
      go_wp2_with (go_at_call 225; refine (hdict.out _ BW.out).mono ?_; rintro e w2 ⟨rfl, hb2⟩; rw [HD.out]; replace BW := Aside.mk (BW.out.trans (hb2.mono BW.out.size)); replace BF := Aside.mk ((hb2.block _ (lt_of_blk BF.out)).trans BF.out); replace BX := Aside.mk ((hb2.block _ (lt_of_blk BX.out)).trans BX.out); obtain ⟨c0, c1, c2, c3, c4, c5, c6, c7⟩ := box8 BX.out; have cf := cell_blk (k := 0) BF.out; simp at cf; clear hb2)
      go_ret
      exact ⟨ret_bool HM.out, BW.out⟩
    · have HD := Aside.mk (show dictErr c.words = 0 by rw [dictErr, if_pos hnd])
      obtain ⟨s1, s2⟩ := sized_nat hs
      generalize hN : c.data.length / 4 = N at *
      have hNb : N ≤ 100000000 := by rw [← hN]; exact Nat.le_trans (Nat.div_le_self _ _) HC.out.ld
      have S2 := Aside.mk s2
      have HM := Aside.mk (show mayCoded c = (codedRun c N == some c.words.length) by unfold mayCoded; rw [hs, s2]; simp [hnd])
      have HS := Aside.mk hs
      clear hN s1 s2 hs hnd
      go_wp2_with (go_at_call 225; refine (hdict.out _ BW.out).mono ?_; rintro e w2 ⟨rfl, hb2⟩; rw [HD.out]; replace BW := Aside.mk (BW.out.trans (hb2.mono BW.out.size)); replace BF := Aside.mk ((hb2.block _ (lt_of_blk BF.out)).trans BF.out); replace BX := Aside.mk ((hb2.block _ (lt_of_blk BX.out)).trans BX.out); obtain ⟨c0, c1, c2, c3, c4, c5, c6, c7⟩ := box8 BX.out; have cf := cell_blk (k := 0) BF.out; simp at cf; clear hb2)
      go_loopw [5, 21] (fun nv iv wr => ∃ i next : Nat, i ≤ N ∧ next ≤ i ∧ nv = .int .i64 (next : Int) ∧ iv = .int .i64 (i : Int) ∧ Aside (Below w.heap.size w wr ∧ wr.heap[w.heap.size]? = some (.cells #[.int .i64 4] 167 (0, 0)) ∧ wr.heap[w.heap.size + 1]? = some (.cells #[.int .i64 c.k, .int .i64 c.s, .int .i64 c.n, .int .i64 c.m, .slice B.a c.bits.length B.c, .slice D.a c.data.length D.c, .slice E.a c.ends.length E.c, .slice X.a c.words.length X.c] 63 (0, 0)) ∧ codedRun c i = some next)) (fun nv iv _ => N - (intOf iv).toNat)
      case atStart => exact ⟨0, 0, by omega, by omega, rfl, rfl, ⟨BW.out, BF.out, BX.out, rfl⟩⟩
      case round =>
        clear BW BF BX c0 c1 c2 c3 c4 c5 c6 c7 cf hdict
        obtain ⟨i, next, hi, hni, rfl, rfl, hp⟩ := hrel
        have BW := Aside.mk hp.out.1
        have BF := Aside.mk hp.out.2.1
        have BX := Aside.mk hp.out.2.2.1
        have HA := Aside.mk hp.out.2.2.2
        clear hp
        obtain ⟨c0, c1, c2, c3, c4, c5, c6, c7⟩ := box8 BX.out
        have cf := cell_blk (k := 0) BF.out
        simp at cf
        by_cases hlt : i < N
        · have hlt2 : (i : Int) < c.n := by have := S2.out; omega
          have hb8 : i / 8 < c.bits.length := by have := S2.out; have := HN.out; omega
          have hroom := sized_room HS.out i (by have := S2.out; omega)
          have hword := Aside.mk (fun (w2 : World) hb => fword_4 c B D E X i hroom HC.out.data HC.out.ld w2 (HR.out.data.below hb))
          have hnull := Aside.mk (fun (w2 : World) hb => null_any c B D E X i hb8 HC.out.bits HC.out.lb w2 (HR.out.bits.below hb))
          have hx32 : wordAt c.data (i * 4) 4 < 4294967296 := by
            have h1 := wordAt_lt HC.out.data (i * 4) 4
            have h2 : (256 : Nat) ^ 4 = 4294967296 := by decide
            rw [h2] at h1
            exact h1
          have hok := Aside.mk (show codedStep c i next = if (nullB c.bits i && wordAt c.data (i * 4) 4 != 0) || decide (next < wordAt c.data (i * 4) 4) then none else if !nullB c.bits i && wordAt c.data (i * 4) 4 == next then some (next + 1) else some next from rfl)
          have HNO := Aside.mk (fun h => codedRun_none HA.out h N hlt)
          have HYES := Aside.mk (fun n2 h => show codedRun c (i + 1) = some n2 by rw [codedRun, HA.out, Option.bind_some]; exact h)
          clear hroom
          generalize wordAt c.data (i * 4) 4 = x at *
          generalize nullB c.bits i = nb at *
          cases nb with
          | true =>
            by_cases hx0 : x = 0
            · subst hx0
              have HY := Aside.mk (HYES.out next (by rw [hok.out]; simp))
              go_wp2_with (first | (go_at_call 88; refine (hword.out _ BW.out).mono ?_; rintro e w2 ⟨rfl, hb2⟩; replace BW := Aside.mk (BW.out.trans (hb2.mono BW.out.size)); replace BF := Aside.mk ((hb2.block _ (lt_of_blk BF.out)).trans BF.out); replace BX := Aside.mk ((hb2.block _ (lt_of_blk BX.out)).trans BX.out); obtain ⟨c0, c1, c2, c3, c4, c5, c6, c7⟩ := box8 BX.out; have cf := cell_blk (k := 0) BF.out; simp at cf; clear hb2) | (go_at_call 129; refine (hnull.out _ BW.out).mono ?_; rintro e w2 ⟨rfl, hb2⟩; replace BW := Aside.mk (BW.out.trans (hb2.mono BW.out.size)); replace BF := Aside.mk ((hb2.block _ (lt_of_blk BF.out)).trans BF.out); replace BX := Aside.mk ((hb2.block _ (lt_of_blk BX.out)).trans BX.out); obtain ⟨c0, c1, c2, c3, c4, c5, c6, c7⟩ := box8 BX.out; have cf := cell_blk (k := 0) BF.out; simp at cf; clear hb2))
              exact ⟨⟨i + 1, next, by omega, by omega, rfl, by simp, ⟨BW.out, BF.out, BX.out, HY.out⟩⟩, by simp [intOf]; omega⟩
            · have hx1 : (((x : Int)) == 0) = false := by simp; omega
              have HY := Aside.mk (HNO.out (by rw [hok.out]; simp [hx0]))
              have hx4 : ((x : Int) != 0) = true := by rw [bne, hx1]; rfl
              clear hx0 hx1
              go_wp2_with (first | (go_at_call 88; refine (hword.out _ BW.out).mono ?_; rintro e w2 ⟨rfl, hb2⟩; replace BW := Aside.mk (BW.out.trans (hb2.mono BW.out.size)); replace BF := Aside.mk ((hb2.block _ (lt_of_blk BF.out)).trans BF.out); replace BX := Aside.mk ((hb2.block _ (lt_of_blk BX.out)).trans BX.out); obtain ⟨c0, c1, c2, c3, c4, c5, c6, c7⟩ := box8 BX.out; have cf := cell_blk (k := 0) BF.out; simp at cf; clear hb2) | (go_at_call 129; refine (hnull.out _ BW.out).mono ?_; rintro e w2 ⟨rfl, hb2⟩; replace BW := Aside.mk (BW.out.trans (hb2.mono BW.out.size)); replace BF := Aside.mk ((hb2.block _ (lt_of_blk BF.out)).trans BF.out); replace BX := Aside.mk ((hb2.block _ (lt_of_blk BX.out)).trans BX.out); obtain ⟨c0, c1, c2, c3, c4, c5, c6, c7⟩ := box8 BX.out; have cf := cell_blk (k := 0) BF.out; simp at cf; clear hb2))
              go_ret
              exact ⟨ret_bool (by rw [HM.out, HY.out]; rfl), BW.out⟩
          | false =>
            by_cases hgt : next < x
            · have HY := Aside.mk (HNO.out (by rw [hok.out]; simp [hgt]))
              go_wp2_with (first | (go_at_call 88; refine (hword.out _ BW.out).mono ?_; rintro e w2 ⟨rfl, hb2⟩; replace BW := Aside.mk (BW.out.trans (hb2.mono BW.out.size)); replace BF := Aside.mk ((hb2.block _ (lt_of_blk BF.out)).trans BF.out); replace BX := Aside.mk ((hb2.block _ (lt_of_blk BX.out)).trans BX.out); obtain ⟨c0, c1, c2, c3, c4, c5, c6, c7⟩ := box8 BX.out; have cf := cell_blk (k := 0) BF.out; simp at cf; clear hb2) | (go_at_call 129; refine (hnull.out _ BW.out).mono ?_; rintro e w2 ⟨rfl, hb2⟩; replace BW := Aside.mk (BW.out.trans (hb2.mono BW.out.size)); replace BF := Aside.mk ((hb2.block _ (lt_of_blk BF.out)).trans BF.out); replace BX := Aside.mk ((hb2.block _ (lt_of_blk BX.out)).trans BX.out); obtain ⟨c0, c1, c2, c3, c4, c5, c6, c7⟩ := box8 BX.out; have cf := cell_blk (k := 0) BF.out; simp at cf; clear hb2))
              go_ret
              exact ⟨ret_bool (by rw [HM.out, HY.out]; rfl), BW.out⟩
            · by_cases hq : x = next
              · subst hq
                have HY := Aside.mk (HYES.out (x + 1) (by rw [hok.out]; simp))
                go_wp2_with (first | (go_at_call 88; refine (hword.out _ BW.out).mono ?_; rintro e w2 ⟨rfl, hb2⟩; replace BW := Aside.mk (BW.out.trans (hb2.mono BW.out.size)); replace BF := Aside.mk ((hb2.block _ (lt_of_blk BF.out)).trans BF.out); replace BX := Aside.mk ((hb2.block _ (lt_of_blk BX.out)).trans BX.out); obtain ⟨c0, c1, c2, c3, c4, c5, c6, c7⟩ := box8 BX.out; have cf := cell_blk (k := 0) BF.out; simp at cf; clear hb2) | (go_at_call 129; refine (hnull.out _ BW.out).mono ?_; rintro e w2 ⟨rfl, hb2⟩; replace BW := Aside.mk (BW.out.trans (hb2.mono BW.out.size)); replace BF := Aside.mk ((hb2.block _ (lt_of_blk BF.out)).trans BF.out); replace BX := Aside.mk ((hb2.block _ (lt_of_blk BX.out)).trans BX.out); obtain ⟨c0, c1, c2, c3, c4, c5, c6, c7⟩ := box8 BX.out; have cf := cell_blk (k := 0) BF.out; simp at cf; clear hb2))
                exact ⟨⟨i + 1, x + 1, by omega, by omega, by simp, by simp, ⟨BW.out, BF.out, BX.out, HY.out⟩⟩, by simp [intOf]; omega⟩
              · have HY := Aside.mk (HYES.out next (by rw [hok.out]; simp [hgt, hq]))
                have hq2 : (x == next) = false := by simpa using hq
                have hq3 : ((x : Int) == (next : Int)) = false := by simp; omega
                go_wp2_with (first | (go_at_call 88; refine (hword.out _ BW.out).mono ?_; rintro e w2 ⟨rfl, hb2⟩; replace BW := Aside.mk (BW.out.trans (hb2.mono BW.out.size)); replace BF := Aside.mk ((hb2.block _ (lt_of_blk BF.out)).trans BF.out); replace BX := Aside.mk ((hb2.block _ (lt_of_blk BX.out)).trans BX.out); obtain ⟨c0, c1, c2, c3, c4, c5, c6, c7⟩ := box8 BX.out; have cf := cell_blk (k := 0) BF.out; simp at cf; clear hb2) | (go_at_call 129; refine (hnull.out _ BW.out).mono ?_; rintro e w2 ⟨rfl, hb2⟩; replace BW := Aside.mk (BW.out.trans (hb2.mono BW.out.size)); replace BF := Aside.mk ((hb2.block _ (lt_of_blk BF.out)).trans BF.out); replace BX := Aside.mk ((hb2.block _ (lt_of_blk BX.out)).trans BX.out); obtain ⟨c0, c1, c2, c3, c4, c5, c6, c7⟩ := box8 BX.out; have cf := cell_blk (k := 0) BF.out; simp at cf; clear hb2))
                exact ⟨⟨i + 1, next, by omega, by omega, rfl, by simp, ⟨BW.out, BF.out, BX.out, HY.out⟩⟩, by simp [intOf]; omega⟩
        · obtain rfl : i = N := by omega
          have hlt2 : ¬ (i : Int) < c.n := by have := S2.out; omega
          go_wp2
          go_ret
          refine ⟨ret_bool ?_, BW.out⟩
          rw [HM.out, HA.out, Bool.eq_iff_iff]
          simp
          try omega
end Go.Proofs.YtmhjjhaipcgbiaaGreat


/- slices.Equal of bytes and of numbers. (Printed by geneq.py.) -/
namespace Go.Proofs.YtmhjjhaipcgbiaaGreat
open Go.RowKit
set_option linter.unusedVariables false
set_option linter.unusedSimpArgs false
set_option maxRecDepth 100000
set_option maxHeartbeats 1000000

theorem take_ext {xs ys : List Int} {i : Nat} (h1 : i < xs.length) (h2 : i < ys.length) (h : xs.take i = ys.take i) (e : xs.getD i 0 = ys.getD i 0) : xs.take (i + 1) = ys.take (i + 1) := by
  rw [List.take_succ_eq_append_getElem h1, List.take_succ_eq_append_getElem h2, h]
  simp only [List.getD_eq_getElem?_getD, List.getElem?_eq_getElem h1, List.getElem?_eq_getElem h2, Option.getD_some] at e
  rw [e]
theorem getD_ne {xs ys : List Int} {i : Nat} (e : xs.getD i 0 ≠ ys.getD i 0) : xs ≠ ys := fun h => e (by rw [h])
theorem len_ne {xs ys : List Int} (h : xs.length ≠ ys.length) : xs ≠ ys := fun e => h (by rw [e])
theorem full_eq {xs ys : List Int} (hl : xs.length = ys.length) (h : xs.take xs.length = ys.take xs.length) : xs = ys := by
  rw [List.take_length, hl, List.take_length] at h
  exact h

theorem equal_bytes (xs ys : List Int) (A B : SL) (hl : xs.length ≤ 1000000000) (w : World) (ha : Rd w 1 (.slice A.a xs.length A.c) xs.length (xs.map (.int .u8))) (hb : Rd w 1 (.slice B.a ys.length B.c) ys.length (ys.map (.int .u8))) :
    Calls Tryz.prog 166 #[.slice A.a xs.length A.c, .slice B.a ys.length B.c] w (BoolP (decide (xs = ys)) w) := by
  obtain ⟨aa, ac⟩ := A
  obtain ⟨ba, bc⟩ := B
  have HA := Aside.mk ha
  have HB := Aside.mk hb
  clear ha hb
  by_cases hlen : xs.length = ys.length
  rotate_left
  · have h1 : ((xs.length : Int) != (ys.length : Int)) = true := by simp; omega
    have HD := Aside.mk (show true = true ∧ false = decide (xs = ys) from ⟨rfl, by simp [len_ne hlen]⟩)
    clear hlen
    generalize xs.length = n at *
    generalize ys.length = m at *
    go_enter Tryz.func166, Tryz.ntmps166
    go_wp2
    go_ret
    exact ⟨ret_bool HD.out.2, Below.refl _ _⟩
  · have h1 : ((xs.length : Int) != (ys.length : Int)) = false := by simp; omega
    have HL := Aside.mk hlen
    clear hlen
    go_enter Tryz.func166, Tryz.ntmps166
    go_wp2
    go_loopw [13] (fun iv wr => ∃ i : Nat, i ≤ xs.length ∧ iv = .int .i64 (i : Int) ∧ Aside (Below w.heap.size w wr ∧ xs.take i = ys.take i)) (fun iv _ => xs.length - (intOf iv).toNat)
    case atStart => exact ⟨0, by omega, rfl, ⟨Below.refl _ _, rfl⟩⟩
    case round =>
      obtain ⟨i, hi, rfl, hp⟩ := hrel
      by_cases hlt : i < xs.length
      · have hlt2 : i < ys.length := by have := HL.out; omega
        obtain ⟨g1, o1, k1, hs, hel, hecap, hc⟩ := rd_get HA.out i hlt
        simp only [Value.slice.injEq, true_and] at hs
        obtain ⟨rfl, rfl⟩ := hs
        obtain ⟨g2, o2, k2, hs, hel2, hecap2, hd⟩ := rd_get HB.out i hlt2
        simp only [Value.slice.injEq, true_and] at hs
        obtain ⟨rfl, rfl⟩ := hs
        have hc2 := (hp.out.1.cell (p := ⟨g1, o1 + i, none⟩) (World.block_lt_of_cell? _ _ hc)).trans hc
        have hd2 := (hp.out.1.cell (p := ⟨g2, o2 + i, none⟩) (World.block_lt_of_cell? _ _ hd)).trans hd
        have hlx := hlt
        clear hc hd
        by_cases hq : xs.getD i 0 = ys.getD i 0
        · have HT := Aside.mk (take_ext hlt hlt2 hp.out.2 hq)
          rw [← hq] at hd2
          clear hq
          generalize xs.getD i 0 = x at *
          go_wp2
          go_quiet (fail)
          go_wp2
          refine ⟨⟨i + 1, by omega, by simp, ⟨hp.out.1.trans (below_drewN _ _ _), HT.out⟩⟩, by simp [intOf]; omega⟩
        · have HT := Aside.mk (getD_ne hq)
          have hq2 : (xs.getD i 0 != ys.getD i 0) = true := by simpa using hq
          clear hq
          generalize xs.getD i 0 = x at *
          generalize ys.getD i 0 = y at *
          go_wp2
          go_quiet (fail)
          go_wp2
          go_ret
          exact ⟨ret_bool (by simp [HT.out]), hp.out.1.trans (below_drewN _ _ _)⟩
      · obtain rfl : i = xs.length := by omega
        have HD := Aside.mk (show true = decide (xs = ys) by simp [full_eq HL.out hp.out.2])
        go_wp2
        go_ret
        exact ⟨ret_bool HD.out, hp.out.1⟩

theorem equal_ints (xs ys : List Int) (A B : SL) (hl : xs.length ≤ 1000000000) (w : World) (ha : Rd w 1 (.slice A.a xs.length A.c) xs.length (xs.map (.int .i64))) (hb : Rd w 1 (.slice B.a ys.length B.c) ys.length (ys.map (.int .i64))) :
    Calls Tryz.prog 167 #[.slice A.a xs.length A.c, .slice B.a ys.length B.c] w (BoolP (decide (xs = ys)) w) := by
  obtain ⟨aa, ac⟩ := A
  obtain ⟨ba, bc⟩ := B
  have HA := Aside.mk ha
  have HB := Aside.mk hb
  clear ha hb
  by_cases hlen : xs.length = ys.length
  rotate_left
  · have h1 : ((xs.length : Int) != (ys.length : Int)) = true := by simp; omega
    have HD := Aside.mk (show true = true ∧ false = decide (xs = ys) from ⟨rfl, by simp [len_ne hlen]⟩)
    clear hlen
    generalize xs.length = n at *
    generalize ys.length = m at *
    go_enter Tryz.func167, Tryz.ntmps167
    go_wp2
    go_ret
    exact ⟨ret_bool HD.out.2, Below.refl _ _⟩
  · have h1 : ((xs.length : Int) != (ys.length : Int)) = false := by simp; omega
    have HL := Aside.mk hlen
    clear hlen
    go_enter Tryz.func167, Tryz.ntmps167
    go_wp2
    go_loopw [13] (fun iv wr => ∃ i : Nat, i ≤ xs.length ∧ iv = .int .i64 (i : Int) ∧ Aside (Below w.heap.size w wr ∧ xs.take i = ys.take i)) (fun iv _ => xs.length - (intOf iv).toNat)
    case atStart => exact ⟨0, by omega, rfl, ⟨Below.refl _ _, rfl⟩⟩
    case round =>
      obtain ⟨i, hi, rfl, hp⟩ := hrel
      by_cases hlt : i < xs.length
      · have hlt2 : i < ys.length := by have := HL.out; omega
        obtain ⟨g1, o1, k1, hs, hel, hecap, hc⟩ := rd_get HA.out i hlt
        simp only [Value.slice.injEq, true_and] at hs
        obtain ⟨rfl, rfl⟩ := hs
        obtain ⟨g2, o2, k2, hs, hel2, hecap2, hd⟩ := rd_get HB.out i hlt2
        simp only [Value.slice.injEq, true_and] at hs
        obtain ⟨rfl, rfl⟩ := hs
        have hc2 := (hp.out.1.cell (p := ⟨g1, o1 + i, none⟩) (World.block_lt_of_cell? _ _ hc)).trans hc
        have hd2 := (hp.out.1.cell (p := ⟨g2, o2 + i, none⟩) (World.block_lt_of_cell? _ _ hd)).trans hd
        have hlx := hlt
        clear hc hd
        by_cases hq : xs.getD i 0 = ys.getD i 0
        · have HT := Aside.mk (take_ext hlt hlt2 hp.out.2 hq)
          rw [← hq] at hd2
          clear hq
          generalize xs.getD i 0 = x at *
          go_wp2
          go_quiet (fail)
          go_wp2
          refine ⟨⟨i + 1, by omega, by simp, ⟨hp.out.1.trans (below_drewN _ _ _), HT.out⟩⟩, by simp [intOf]; omega⟩
        · have HT := Aside.mk (getD_ne hq)
          have hq2 : (xs.getD i 0 != ys.getD i 0) = true := by simpa using hq
          clear hq
          generalize xs.getD i 0 = x at *
          generalize ys.getD i 0 = y at *
          go_wp2
          go_quiet (fail)
          go_wp2
          go_ret
          exact ⟨ret_bool (by simp [HT.out]), hp.out.1.trans (below_drewN _ _ _)⟩
      · obtain rfl : i = xs.length := by omega
        have HD := Aside.mk (show true = decide (xs = ys) by simp [full_eq HL.out hp.out.2])
        go_wp2
        go_ret
        exact ⟨ret_bool HD.out, hp.out.1⟩
end Go.Proofs.YtmhjjhaipcgbiaaGreat


/- slices.EqualFunc of words; mask.Check. -/
namespace Go.Proofs.YtmhjjhaipcgbiaaGreat
open Go.RowKit
set_option linter.unusedVariables false
set_option linter.unusedSimpArgs false
set_option maxRecDepth 100000
set_option maxHeartbeats 1000000

theorem take_extW {xs ys : List (List Int)} {i : Nat} (h1 : i < xs.length) (h2 : i < ys.length) (h : xs.take i = ys.take i) (e : xs[i] = ys[i]) : xs.take (i + 1) = ys.take (i + 1) := by
  rw [List.take_succ_eq_append_getElem h1, List.take_succ_eq_append_getElem h2, h, e]
theorem get_neW {xs ys : List (List Int)} {i : Nat} (h1 : i < xs.length) (h2 : i < ys.length) (e : xs[i] ≠ ys[i]) : xs ≠ ys := fun h => e (by subst h; rfl)
theorem len_neW {xs ys : List (List Int)} (h : xs.length ≠ ys.length) : xs ≠ ys := fun e => h (by rw [e])
theorem full_eqW {xs ys : List (List Int)} (hl : xs.length = ys.length) (h : xs.take xs.length = ys.take xs.length) : xs = ys := by
  rw [List.take_length, hl, List.take_length] at h
  exact h

theorem equal_words (xs ys : List (List Int)) (A B : SL) (v1 v2 : List Value) (hl : xs.length ≤ 1000000000) (hw : ∀ t ∈ xs, t.length ≤ 100000000) (w : World) (ha : Rd w 1 (.slice A.a xs.length A.c) xs.length v1) (hb : Rd w 1 (.slice B.a ys.length B.c) ys.length v2) (hA : RdWs w v1 xs) (hB : RdWs w v2 ys) :
    Calls Tryz.prog 168 #[.slice A.a xs.length A.c, .slice B.a ys.length B.c, .func (.func 166) #[] #[]] w (BoolP (decide (xs = ys)) w) := by
  obtain ⟨aa, ac⟩ := A
  obtain ⟨ba, bc⟩ := B
  have HA := Aside.mk ha
  have HB := Aside.mk hb
  have WA := Aside.mk hA
  have WB := Aside.mk hB
  clear ha hb hA hB
  by_cases hlen : xs.length = ys.length
  rotate_left
  · have h1 : ((xs.length : Int) != (ys.length : Int)) = true := by simp; omega
    have HD := Aside.mk (show true = true ∧ false = decide (xs = ys) from ⟨rfl, by simp [len_neW hlen]⟩)
    clear hlen
    generalize xs.length = n at *
    generalize ys.length = m at *
    go_enter Tryz.func168, Tryz.ntmps168
    go_wp2
    go_ret
    exact ⟨ret_bool HD.out.2, Below.refl _ _⟩
  · have h1 : ((xs.length : Int) != (ys.length : Int)) = false := by simp; omega
    have HL := Aside.mk hlen
    have hw := Aside.mk hw
    clear hlen
    go_enter Tryz.func168, Tryz.ntmps168
    go_wp2
    go_loopw [17] (fun iv wr => ∃ i : Nat, i ≤ xs.length ∧ iv = .int .i64 (i : Int) ∧ Aside (Below w.heap.size w wr ∧ xs.take i = ys.take i)) (fun iv _ => xs.length - (intOf iv).toNat)
    case atStart => exact ⟨0, by omega, rfl, ⟨Below.refl _ _, rfl⟩⟩
    case round =>
      obtain ⟨i, hi, rfl, hp⟩ := hrel
      by_cases hlt : i < xs.length
      · have hlt2 : i < ys.length := by have := HL.out; omega
        obtain ⟨ta, tc, hv, ht⟩ := WA.out.2 i _ (List.getElem?_eq_getElem hlt)
        obtain ⟨ua, uc, hu, hr⟩ := WB.out.2 i _ (List.getElem?_eq_getElem hlt2)
        have hvl := WA.out.1
        have hul := WB.out.1
        obtain ⟨g1, o1, k1, hs, hel, hecap, hc⟩ := HA.out.some_ (by omega)
        simp only [Value.slice.injEq, true_and] at hs
        obtain ⟨rfl, rfl⟩ := hs
        obtain ⟨g2, o2, k2, hs, hel2, hecap2, hd⟩ := HB.out.some_ (by omega)
        simp only [Value.slice.injEq, true_and] at hs
        obtain ⟨rfl, rfl⟩ := hs
        have hc2 := (hp.out.1.cell (p := ⟨g1, o1 + i, none⟩) (World.block_lt_of_cell? _ _ (hc i _ hv))).trans (hc i _ hv)
        have hd2 := (hp.out.1.cell (p := ⟨g2, o2 + i, none⟩) (World.block_lt_of_cell? _ _ (hd i _ hu))).trans (hd i _ hu)
        have HC := Aside.mk (equal_bytes xs[i] ys[i] ⟨ta, tc⟩ ⟨ua, uc⟩ (Nat.le_trans (hw.out _ (List.getElem_mem hlt)) (by decide)) wr (ht.below hp.out.1) (hr.below hp.out.1))
        have HT := Aside.mk (fun e => take_extW hlt hlt2 hp.out.2 e)
        have HU := Aside.mk (fun e => get_neW hlt hlt2 e)
        clear hc hd hv ht hu hr hvl hul
        generalize xs[i] = x at *
        generalize ys[i] = y at *
        by_cases hq : x = y
        · have HQ := Aside.mk (show decide (x = y) = true from decide_eq_true hq)
          have HT2 := Aside.mk (HT.out hq)
          clear hq
          go_wp2_with (go_at_call 166; refine HC.out.mono ?_; rintro e w2 ⟨rfl, hb2⟩; rw [HQ.out]; have B2 := Aside.mk hb2; clear hb2)
          exact ⟨⟨i + 1, by omega, by simp, ⟨hp.out.1.trans (B2.out.mono hp.out.1.size), HT2.out⟩⟩, by simp [intOf]; omega⟩
        · have HQ := Aside.mk (show decide (x = y) = false from decide_eq_false hq)
          have HT2 := Aside.mk (HU.out hq)
          clear hq
          go_wp2_with (go_at_call 166; refine HC.out.mono ?_; rintro e w2 ⟨rfl, hb2⟩; rw [HQ.out]; have B2 := Aside.mk hb2; clear hb2)
          go_ret
          exact ⟨ret_bool (by simp [HT2.out]), hp.out.1.trans (B2.out.mono hp.out.1.size)⟩
      · obtain rfl : i = xs.length := by omega
        have HD := Aside.mk (show true = decide (xs = ys) by simp [full_eqW HL.out hp.out.2])
        go_wp2
        go_ret
        exact ⟨ret_bool HD.out, hp.out.1⟩

/-! ### mask.Check -/
def maskErr (m : Int) (bs : List Int) : Int := if maskOK m bs then 0 else 160
theorem maskOK_no {m : Int} {bs : List Int} (h : ¬ (0 ≤ m ∧ m ≤ 8 * (bs.length : Int) ∧ 8 * ((bs.length : Int) - 1) < m ∧ (0 < m % 8 → (bs.getD (bs.length - 1) 0).toNat / 2 ^ (m % 8).toNat = 0))) : (160 : Int) = maskErr m bs := by
  rw [maskErr, if_neg]
  unfold maskOK
  rw [decide_eq_true_eq]
  exact h
theorem maskOK_yes {m : Int} {bs : List Int} (h : 0 ≤ m ∧ m ≤ 8 * (bs.length : Int) ∧ 8 * ((bs.length : Int) - 1) < m ∧ (0 < m % 8 → (bs.getD (bs.length - 1) 0).toNat / 2 ^ (m % 8).toNat = 0)) : (0 : Int) = maskErr m bs := by
  rw [maskErr, if_pos]
  unfold maskOK
  rw [decide_eq_true_eq]
  exact h

theorem maskCheck_any (m : Int) (bs : List Int) (B : SL) (hl : bs.length ≤ 100000000) (hb : IsBytes bs) (w : World) (h : Rd w 1 (.slice B.a bs.length B.c) bs.length (bs.map (.int .u8))) :
    Calls Tryz.prog 149 #[.agg #[.int .i64 m, .slice B.a bs.length B.c]] w (IntP (maskErr m bs) w) := by
  obtain ⟨ba, bc⟩ := B
  have HB0 := Aside.mk (below_new w (.cells #[.int .i64 m, .slice ba bs.length bc] 60))
  have HR := Aside.mk h
  clear h
  dsimp only
  by_cases h1 : m < 0
  · have HD := Aside.mk (maskOK_no (m := m) (bs := bs) (by omega))
    go_enter Tryz.func149, Tryz.ntmps149
    go_wp2
    go_ret
    exact ⟨ret_int HD.out, HB0.out⟩
  by_cases h2 : 8 * (bs.length : Int) < m
  · have HD := Aside.mk (maskOK_no (m := m) (bs := bs) (by omega))
    go_enter Tryz.func149, Tryz.ntmps149
    go_wp2
    go_ret
    exact ⟨ret_int HD.out, HB0.out⟩
  by_cases h3 : m ≤ 8 * ((bs.length : Int) - 1)
  · have HD := Aside.mk (maskOK_no (m := m) (bs := bs) (by omega))
    go_enter Tryz.func149, Tryz.ntmps149
    go_wp2
    go_ret
    exact ⟨ret_int HD.out, HB0.out⟩
  by_cases h4 : 0 < m % 8
  · obtain ⟨g, off, cap, hs, hel, hecap, hc⟩ := rd_get HR.out (bs.length - 1) (by omega)
    simp only [Value.slice.injEq, true_and] at hs
    obtain ⟨rfl, rfl⟩ := hs
    have hc2 := (HB0.out.cell (p := ⟨g, off + (bs.length - 1), none⟩) (World.block_lt_of_cell? _ _ hc)).trans hc
    have hv := getD_byte hb (bs.length - 1)
    have HY := Aside.mk (fun (h : (bs.getD (bs.length - 1) 0).toNat / 2 ^ (m % 8).toNat = 0) => maskOK_yes (m := m) (bs := bs) ⟨by omega, by omega, by omega, fun _ => h⟩)
    have HZ := Aside.mk (fun (h : ¬ (bs.getD (bs.length - 1) 0).toNat / 2 ^ (m % 8).toNat = 0) => maskOK_no (m := m) (bs := bs) (fun h2 => h (h2.2.2.2 h4)))
    obtain ⟨M, rfl⟩ := Int.eq_ofNat_of_zero_le (show 0 ≤ m by omega)
    clear HR
    clear hc
    generalize bs.getD (bs.length - 1) 0 = y at *
    generalize bs.length = n at *
    cases n with
    | zero => omega
    | succ n =>
      simp only [Nat.add_sub_cancel] at hc2
      obtain ⟨Y, rfl⟩ := Int.eq_ofNat_of_zero_le hv.1
      have e1 : ((M : Int) % 8).toNat = M % 8 := by omega
      have e2 : (Y : Int) / 2 ^ (M % 8) = ((Y / 2 ^ (M % 8) : Nat) : Int) := by simp
      rw [e1, Int.toNat_natCast] at HY HZ
      by_cases hz : Y / 2 ^ (M % 8) = 0
      · have HQ := Aside.mk (HY.out hz)
        have hq : ((Y : Int) / 2 ^ (M % 8) != 0) = false := by rw [e2, hz]; rfl
        clear e1 e2 hz HY HZ
        go_enter Tryz.func149, Tryz.ntmps149
        go_wp2
        go_quiet (fail)
        go_wp2
        go_ret
        exact ⟨ret_int HQ.out, HB0.out.trans (below_drewN _ _ _)⟩
      · have HQ := Aside.mk (HZ.out hz)
        have hq : ((Y : Int) / 2 ^ (M % 8) != 0) = true := by rw [e2]; simp only [bne_iff_ne, ne_eq]; omega
        clear e1 e2 hz HY HZ
        go_enter Tryz.func149, Tryz.ntmps149
        go_wp2
        go_quiet (fail)
        go_wp2
        go_ret
        exact ⟨ret_int HQ.out, HB0.out.trans (below_drewN _ _ _)⟩
  · have HD := Aside.mk (maskOK_yes (m := m) (bs := bs) ⟨by omega, by omega, by omega, fun h => absurd h h4⟩)
    have h5 : decide (0 < m % 8) = false := decide_eq_false h4
    have h6 : 0 ≤ m := by omega
    go_enter Tryz.func149, Tryz.ntmps149
    go_wp2
    go_quiet (fail)
    go_wp2
    go_ret
    exact ⟨ret_int HD.out, HB0.out.trans (below_drewN _ _ _)⟩
end Go.Proofs.YtmhjjhaipcgbiaaGreat


/- column.of at the kind of texts. -/
namespace Go.Proofs.YtmhjjhaipcgbiaaGreat
open Go.RowKit
set_option maxRecDepth 100000
set_option maxHeartbeats 1000000
theorem of_running (s : Int) (w : World) : Calls Tryz.prog 86 #[.agg #[.int .i64 15, .int .i64 s]] w fun e w' => e = .returned (.iface 162 (.agg #[])) ∧ w' = w.alloc (.cells #[.int .i64 15, .int .i64 s] 23) := by
  go_enter Tryz.func86, Tryz.ntmps86
  go_wp2
  go_ret
  exact ⟨rfl, rfl⟩
end Go.Proofs.YtmhjjhaipcgbiaaGreat


/- A region that draws its order, whose calls may make memory: one walk of the text's order serves every order, in the class of the worlds that hold what was there. Over any program. -/
namespace Go.Proofs.YtmhjjhaipcgbiaaGreat
open Go.RowKit
section
variable {P : Program} {ops : Array Oper} {C : World → Prop} {Q : Act → Prop} {a : Act} {o : Oper} {rest : List Oper}

theorem calm_skip (hw : Region.wanted o (yielded ops a.tmps) = false) (h : wpQuiet P ops C Q rest (a.put o.dst undef)) : wpQuiet P ops C Q (o :: rest) a := by
  unfold wpQuiet
  rw [hw]
  exact h
theorem calm_take (hw : Region.wanted o (yielded ops a.tmps) = true) (v : Value) (hy : ∀ w', C w' → (execOp a.eval o).run P w' = .ok (.value v) w') (h : wpQuiet P ops C Q rest (a.put o.dst v)) : wpQuiet P ops C Q (o :: rest) a := by
  unfold wpQuiet
  rw [hw]
  refine ⟨v, fun w' hC => ?_, h⟩
  unfold Oper.quietAt
  rw [hy w' hC]
  exact ⟨rfl, rfl⟩
theorem calm_call (hw : Region.wanted o (yielded ops a.tmps) = true) (v : Value) (nx : Next) (hr : ∀ w', (execOp a.eval o).run P w' = .ok nx w') (f : FuncId) (args : Array Value) (hn : nx = .enter f args) (hc : ∀ w', C w' → Calls P f args w' (fun e w'' => e = .returned v ∧ C w'')) (h : wpQuiet P ops C Q rest (a.put o.dst v)) : wpQuiet P ops C Q (o :: rest) a := by
  unfold wpQuiet
  rw [hw]
  refine ⟨v, fun w' hC => ?_, h⟩
  unfold Oper.quietAt
  rw [hr w', hn]
  exact ⟨rfl, hc w' hC⟩
end
theorem wp_region_calm {P : Program} {id : Nat} {Q : Exit → Act → World → Prop} {a : Act} {w : World} {l : List Oper} (hm : P.follows .mixedOrders = true) (hB : Region.lexB .any l.toArray = true)
    (h : wpQuiet P l.toArray (fun w' => Below w.heap.size w w') (fun a' => ∀ w', Below w.heap.size w w' → Q .normal a' w') l a) : (Code.region id l.toArray true).wp P Q a w :=
  wp_region_quiet (C := fun w' => Below w.heap.size w w') hm hB (below_drewN w _ 1) (by simpa using h)
end Go.Proofs.YtmhjjhaipcgbiaaGreat
