/- Texts of this claim, one behind the other: Col, MayR. -/
import Derived.Test.YtmhjjhaipcgbiaaGreatZemP10
import Derived.Test.YtmhjjhaipcgbiaaGreatZemP6
import Derived.Test.YtmhjjhaipcgbiaaGreatZemP7

namespace Go.Proofs.YtmhjjhaipcgbiaaGreat
open Go.RowKit
set_option linter.unusedVariables false
set_option linter.unusedSimpArgs false
set_option maxRecDepth 100000
set_option maxHeartbeats 8000000
theorem below_chain {a y z : World} (h1 : Below a.heap.size a y) (h2 : Below y.heap.size y z) : Below a.heap.size a z := h1.trans (h2.mono h1.size)
theorem col_size {w w2 : World} {cs : Array Value} {T : TypeId} (h : Below (w.alloc (.cells cs T)).heap.size (w.alloc (.cells cs T)) w2) : w.heap.size + 1 ≤ w2.heap.size := by
  have := h.size
  simpa using this
theorem own_sets {w ww wf : World} {base E sz n : Nat} {v : Value} {xs : List Value} (h : Own ww base E sz v n xs) (hb : w.heap.size + 1 ≤ base) (hk : Kept (fun b => b = w.heap.size) ww wf) : Own wf w.heap.size E sz v n xs :=
  (h.kept hk (fun k e1 e => by have := (h.lt k e1).1; omega)).mono (by omega)
theorem below_drew1 (w : World) : Below w.heap.size w w.drew := below_drewN w _ 1
theorem undrew {w w' : World} (h : Below w.drew.heap.size w.drew w') : Below w.heap.size w w' := ⟨h.os, h.tape, h.output, h.size, h.block⟩
theorem colS_next {w w1 w2 : World} {bl lw : Nat} {k s : Int} {nv dv ev : Value} (h : w1.cell? ⟨bl, 0, none⟩ = some (.int .i64 k) ∧ w1.cell? ⟨bl, 1, none⟩ = some (.int .i64 s) ∧ w1.cell? ⟨bl, 2, none⟩ = some (nv) ∧ w1.cell? ⟨bl, 3, none⟩ = some (dv) ∧ w1.cell? ⟨bl, 4, none⟩ = some (ev) ∧ w1.cell? ⟨bl, 5, none⟩ = some (.pointer (some ⟨lw, 0, none⟩)) ∧ w1.cell? ⟨w.heap.size, 0, none⟩ = some (.int .i64 0) ∧ w1.cell? ⟨w.heap.size, 1, none⟩ = some (.int .i64 0) ∧ w1.cell? ⟨w.heap.size, 2, none⟩ = some (.int .i64 0) ∧ w1.cell? ⟨w.heap.size, 3, none⟩ = some (.int .i64 0) ∧ w1.cell? ⟨w.heap.size, 4, none⟩ = some (.slice none 0 0) ∧ w1.cell? ⟨w.heap.size, 5, none⟩ = some (.slice none 0 0) ∧ w1.cell? ⟨w.heap.size, 6, none⟩ = some (.slice none 0 0) ∧ w1.cell? ⟨w.heap.size, 7, none⟩ = some (.slice none 0 0) ∧ w1.frozen? ⟨w.heap.size, 0, none⟩ = false ∧ w1.frozen? ⟨w.heap.size, 1, none⟩ = false ∧ w1.frozen? ⟨w.heap.size, 2, none⟩ = false ∧ w1.frozen? ⟨w.heap.size, 3, none⟩ = false ∧ w1.frozen? ⟨w.heap.size, 4, none⟩ = false ∧ w1.frozen? ⟨w.heap.size, 5, none⟩ = false ∧ w1.frozen? ⟨w.heap.size, 6, none⟩ = false ∧ w1.frozen? ⟨w.heap.size, 7, none⟩ = false ∧ Aside (Below w.heap.size w w1)) (hb : Below w1.heap.size w1 w2) : w2.cell? ⟨bl, 0, none⟩ = some (.int .i64 k) ∧ w2.cell? ⟨bl, 1, none⟩ = some (.int .i64 s) ∧ w2.cell? ⟨bl, 2, none⟩ = some (nv) ∧ w2.cell? ⟨bl, 3, none⟩ = some (dv) ∧ w2.cell? ⟨bl, 4, none⟩ = some (ev) ∧ w2.cell? ⟨bl, 5, none⟩ = some (.pointer (some ⟨lw, 0, none⟩)) ∧ w2.cell? ⟨w.heap.size, 0, none⟩ = some (.int .i64 0) ∧ w2.cell? ⟨w.heap.size, 1, none⟩ = some (.int .i64 0) ∧ w2.cell? ⟨w.heap.size, 2, none⟩ = some (.int .i64 0) ∧ w2.cell? ⟨w.heap.size, 3, none⟩ = some (.int .i64 0) ∧ w2.cell? ⟨w.heap.size, 4, none⟩ = some (.slice none 0 0) ∧ w2.cell? ⟨w.heap.size, 5, none⟩ = some (.slice none 0 0) ∧ w2.cell? ⟨w.heap.size, 6, none⟩ = some (.slice none 0 0) ∧ w2.cell? ⟨w.heap.size, 7, none⟩ = some (.slice none 0 0) ∧ w2.frozen? ⟨w.heap.size, 0, none⟩ = false ∧ w2.frozen? ⟨w.heap.size, 1, none⟩ = false ∧ w2.frozen? ⟨w.heap.size, 2, none⟩ = false ∧ w2.frozen? ⟨w.heap.size, 3, none⟩ = false ∧ w2.frozen? ⟨w.heap.size, 4, none⟩ = false ∧ w2.frozen? ⟨w.heap.size, 5, none⟩ = false ∧ w2.frozen? ⟨w.heap.size, 6, none⟩ = false ∧ w2.frozen? ⟨w.heap.size, 7, none⟩ = false ∧ Aside (Below w.heap.size w w2) := by
  obtain ⟨h0, h1, h2, h3, h4, h5, h6, h7, h8, h9, h10, h11, h12, h13, h14, h15, h16, h17, h18, h19, h20, h21, h22⟩ := h
  have hl := World.block_lt_of_cell? _ _ h0
  have hl2 := World.block_lt_of_cell? _ _ h6
  refine ⟨(hb.cell (p := ⟨bl, 0, none⟩) hl).trans h0, (hb.cell (p := ⟨bl, 1, none⟩) hl).trans h1, (hb.cell (p := ⟨bl, 2, none⟩) hl).trans h2, (hb.cell (p := ⟨bl, 3, none⟩) hl).trans h3, (hb.cell (p := ⟨bl, 4, none⟩) hl).trans h4, (hb.cell (p := ⟨bl, 5, none⟩) hl).trans h5, (hb.cell (p := ⟨w.heap.size, 0, none⟩) hl2).trans h6, (hb.cell (p := ⟨w.heap.size, 1, none⟩) hl2).trans h7, (hb.cell (p := ⟨w.heap.size, 2, none⟩) hl2).trans h8, (hb.cell (p := ⟨w.heap.size, 3, none⟩) hl2).trans h9, (hb.cell (p := ⟨w.heap.size, 4, none⟩) hl2).trans h10, (hb.cell (p := ⟨w.heap.size, 5, none⟩) hl2).trans h11, (hb.cell (p := ⟨w.heap.size, 6, none⟩) hl2).trans h12, (hb.cell (p := ⟨w.heap.size, 7, none⟩) hl2).trans h13, (hb.frozen (p := ⟨w.heap.size, 0, none⟩) hl2).trans h14, (hb.frozen (p := ⟨w.heap.size, 1, none⟩) hl2).trans h15, (hb.frozen (p := ⟨w.heap.size, 2, none⟩) hl2).trans h16, (hb.frozen (p := ⟨w.heap.size, 3, none⟩) hl2).trans h17, (hb.frozen (p := ⟨w.heap.size, 4, none⟩) hl2).trans h18, (hb.frozen (p := ⟨w.heap.size, 5, none⟩) hl2).trans h19, (hb.frozen (p := ⟨w.heap.size, 6, none⟩) hl2).trans h20, (hb.frozen (p := ⟨w.heap.size, 7, none⟩) hl2).trans h21, ⟨h22.out.trans (hb.mono h22.out.size)⟩⟩
def SepBD (n : Nat) (mv dv : Value) : Prop := (∀ b, mv.ownBlock = some b → b < n) ∧ (∀ b, dv.ownBlock = some b → b < n) ∧ ∀ b, mv.ownBlock = some b → dv.ownBlock ≠ some b
def ColP (G : Nat → Value → World → Prop) (k s : Int) (nulls : List Bool) (data ends : List Int) (w : World) (e : Ending) (w' : World) : Prop :=
  ∃ mv dv' ev' wv, e = .returned (.agg #[.int .i64 k, .int .i64 s, .int .i64 (nulls.length : Int), .int .i64 (nulls.length : Int), mv, dv', ev', wv]) ∧
    Own w' w.heap.size 5 1 mv (mof nulls).length ((mof nulls).map (.int .u8)) ∧ Own w' w.heap.size 5 1 dv' data.length (data.map (.int .u8)) ∧ Own w' w.heap.size 3 1 ev' ends.length (ends.map (.int .i64)) ∧ (∃ n, w.heap.size < n ∧ G n wv w' ∧ SepBD n mv dv') ∧ Below w.heap.size w w'
theorem column_any (G : Nat → Value → World → Prop) (bl lw base : Nat) (k s : Int) (nulls : List Bool) (data ends : List Int) (nv dv ev : Value) (w : World)
    (hblk : w.heap[bl]? = some (.cells #[.int .i64 k, .int .i64 s, nv, dv, ev, .pointer (some ⟨lw, 0, none⟩)] 142 (0, 0)))
    (hn : Own w base 4 1 nv nulls.length (nulls.map .bool)) (hd : Own w base 5 1 dv data.length (data.map (.int .u8))) (he : Own w base 3 1 ev ends.length (ends.map (.int .i64)))
    (hl1 : nulls.length ≤ 100000000) (hl2 : data.length ≤ 1000000000) (hl3 : ends.length ≤ 1000000000)
    (hG : ∀ n v w1 w2, w.heap.size < n → G n v w1 → Kept (fun b => b = w.heap.size) w1 w2 → G n v w2) (hW : ∀ w2, Below w.heap.size w w2 → w.heap.size + 1 ≤ w2.heap.size → Calls Tryz.prog 93 #[.pointer (some ⟨lw, 0, none⟩)] w2 fun e w' => ∃ a n c, e = .returned (.slice a n c) ∧ Below w2.heap.size w2 w' ∧ G w2.heap.size (.slice a n c) w') :
    Calls Tryz.prog 34 #[.pointer (some ⟨bl, 0, none⟩)] w (ColP G k s nulls data ends w) := by
  have hbl := lt_of_blk hblk
  have hc0 : (w.alloc (.cells #[.int .i64 0, .int .i64 0, .int .i64 0, .int .i64 0, .slice none 0 0, .slice none 0 0, .slice none 0 0, .slice none 0 0] 63)).cell? ⟨bl, 0, none⟩ = some (.int .i64 k) := ((below_new w _).cell (p := ⟨bl, 0, none⟩) hbl).trans ((cell_blk (k := 0) hblk).trans rfl)
  have hc1 : (w.alloc (.cells #[.int .i64 0, .int .i64 0, .int .i64 0, .int .i64 0, .slice none 0 0, .slice none 0 0, .slice none 0 0, .slice none 0 0] 63)).cell? ⟨bl, 1, none⟩ = some (.int .i64 s) := ((below_new w _).cell (p := ⟨bl, 1, none⟩) hbl).trans ((cell_blk (k := 1) hblk).trans rfl)
  have hc2 : (w.alloc (.cells #[.int .i64 0, .int .i64 0, .int .i64 0, .int .i64 0, .slice none 0 0, .slice none 0 0, .slice none 0 0, .slice none 0 0] 63)).cell? ⟨bl, 2, none⟩ = some (nv) := ((below_new w _).cell (p := ⟨bl, 2, none⟩) hbl).trans ((cell_blk (k := 2) hblk).trans rfl)
  have hc3 : (w.alloc (.cells #[.int .i64 0, .int .i64 0, .int .i64 0, .int .i64 0, .slice none 0 0, .slice none 0 0, .slice none 0 0, .slice none 0 0] 63)).cell? ⟨bl, 3, none⟩ = some (dv) := ((below_new w _).cell (p := ⟨bl, 3, none⟩) hbl).trans ((cell_blk (k := 3) hblk).trans rfl)
  have hc4 : (w.alloc (.cells #[.int .i64 0, .int .i64 0, .int .i64 0, .int .i64 0, .slice none 0 0, .slice none 0 0, .slice none 0 0, .slice none 0 0] 63)).cell? ⟨bl, 4, none⟩ = some (ev) := ((below_new w _).cell (p := ⟨bl, 4, none⟩) hbl).trans ((cell_blk (k := 4) hblk).trans rfl)
  have hc5 : (w.alloc (.cells #[.int .i64 0, .int .i64 0, .int .i64 0, .int .i64 0, .slice none 0 0, .slice none 0 0, .slice none 0 0, .slice none 0 0] 63)).cell? ⟨bl, 5, none⟩ = some (.pointer (some ⟨lw, 0, none⟩)) := ((below_new w _).cell (p := ⟨bl, 5, none⟩) hbl).trans ((cell_blk (k := 5) hblk).trans rfl)
  have hz0 : (w.alloc (.cells #[.int .i64 0, .int .i64 0, .int .i64 0, .int .i64 0, .slice none 0 0, .slice none 0 0, .slice none 0 0, .slice none 0 0] 63)).cell? ⟨w.heap.size, 0, none⟩ = some (.int .i64 0) := (cell_blk (k := 0) (heap_alloc_new w _)).trans rfl
  have hf0 : (w.alloc (.cells #[.int .i64 0, .int .i64 0, .int .i64 0, .int .i64 0, .slice none 0 0, .slice none 0 0, .slice none 0 0, .slice none 0 0] 63)).frozen? ⟨w.heap.size, 0, none⟩ = false := frozen_blk (k := 0) (heap_alloc_new w _)
  have hz1 : (w.alloc (.cells #[.int .i64 0, .int .i64 0, .int .i64 0, .int .i64 0, .slice none 0 0, .slice none 0 0, .slice none 0 0, .slice none 0 0] 63)).cell? ⟨w.heap.size, 1, none⟩ = some (.int .i64 0) := (cell_blk (k := 1) (heap_alloc_new w _)).trans rfl
  have hf1 : (w.alloc (.cells #[.int .i64 0, .int .i64 0, .int .i64 0, .int .i64 0, .slice none 0 0, .slice none 0 0, .slice none 0 0, .slice none 0 0] 63)).frozen? ⟨w.heap.size, 1, none⟩ = false := frozen_blk (k := 1) (heap_alloc_new w _)
  have hz2 : (w.alloc (.cells #[.int .i64 0, .int .i64 0, .int .i64 0, .int .i64 0, .slice none 0 0, .slice none 0 0, .slice none 0 0, .slice none 0 0] 63)).cell? ⟨w.heap.size, 2, none⟩ = some (.int .i64 0) := (cell_blk (k := 2) (heap_alloc_new w _)).trans rfl
  have hf2 : (w.alloc (.cells #[.int .i64 0, .int .i64 0, .int .i64 0, .int .i64 0, .slice none 0 0, .slice none 0 0, .slice none 0 0, .slice none 0 0] 63)).frozen? ⟨w.heap.size, 2, none⟩ = false := frozen_blk (k := 2) (heap_alloc_new w _)
  have hz3 : (w.alloc (.cells #[.int .i64 0, .int .i64 0, .int .i64 0, .int .i64 0, .slice none 0 0, .slice none 0 0, .slice none 0 0, .slice none 0 0] 63)).cell? ⟨w.heap.size, 3, none⟩ = some (.int .i64 0) := (cell_blk (k := 3) (heap_alloc_new w _)).trans rfl
  have hf3 : (w.alloc (.cells #[.int .i64 0, .int .i64 0, .int .i64 0, .int .i64 0, .slice none 0 0, .slice none 0 0, .slice none 0 0, .slice none 0 0] 63)).frozen? ⟨w.heap.size, 3, none⟩ = false := frozen_blk (k := 3) (heap_alloc_new w _)
  have hz4 : (w.alloc (.cells #[.int .i64 0, .int .i64 0, .int .i64 0, .int .i64 0, .slice none 0 0, .slice none 0 0, .slice none 0 0, .slice none 0 0] 63)).cell? ⟨w.heap.size, 4, none⟩ = some (.slice none 0 0) := (cell_blk (k := 4) (heap_alloc_new w _)).trans rfl
  have hf4 : (w.alloc (.cells #[.int .i64 0, .int .i64 0, .int .i64 0, .int .i64 0, .slice none 0 0, .slice none 0 0, .slice none 0 0, .slice none 0 0] 63)).frozen? ⟨w.heap.size, 4, none⟩ = false := frozen_blk (k := 4) (heap_alloc_new w _)
  have hz5 : (w.alloc (.cells #[.int .i64 0, .int .i64 0, .int .i64 0, .int .i64 0, .slice none 0 0, .slice none 0 0, .slice none 0 0, .slice none 0 0] 63)).cell? ⟨w.heap.size, 5, none⟩ = some (.slice none 0 0) := (cell_blk (k := 5) (heap_alloc_new w _)).trans rfl
  have hf5 : (w.alloc (.cells #[.int .i64 0, .int .i64 0, .int .i64 0, .int .i64 0, .slice none 0 0, .slice none 0 0, .slice none 0 0, .slice none 0 0] 63)).frozen? ⟨w.heap.size, 5, none⟩ = false := frozen_blk (k := 5) (heap_alloc_new w _)
  have hz6 : (w.alloc (.cells #[.int .i64 0, .int .i64 0, .int .i64 0, .int .i64 0, .slice none 0 0, .slice none 0 0, .slice none 0 0, .slice none 0 0] 63)).cell? ⟨w.heap.size, 6, none⟩ = some (.slice none 0 0) := (cell_blk (k := 6) (heap_alloc_new w _)).trans rfl
  have hf6 : (w.alloc (.cells #[.int .i64 0, .int .i64 0, .int .i64 0, .int .i64 0, .slice none 0 0, .slice none 0 0, .slice none 0 0, .slice none 0 0] 63)).frozen? ⟨w.heap.size, 6, none⟩ = false := frozen_blk (k := 6) (heap_alloc_new w _)
  have hz7 : (w.alloc (.cells #[.int .i64 0, .int .i64 0, .int .i64 0, .int .i64 0, .slice none 0 0, .slice none 0 0, .slice none 0 0, .slice none 0 0] 63)).cell? ⟨w.heap.size, 7, none⟩ = some (.slice none 0 0) := (cell_blk (k := 7) (heap_alloc_new w _)).trans rfl
  have hf7 : (w.alloc (.cells #[.int .i64 0, .int .i64 0, .int .i64 0, .int .i64 0, .slice none 0 0, .slice none 0 0, .slice none 0 0, .slice none 0 0] 63)).frozen? ⟨w.heap.size, 7, none⟩ = false := frozen_blk (k := 7) (heap_alloc_new w _)
  have hB0 : Aside (Below w.heap.size w (w.alloc (.cells #[.int .i64 0, .int .i64 0, .int .i64 0, .int .i64 0, .slice none 0 0, .slice none 0 0, .slice none 0 0, .slice none 0 0] 63)).drew) := ⟨(below_new w _).trans (below_drewN _ _ 1)⟩
  have hB00 : Aside (Below w.heap.size w (w.alloc (.cells #[.int .i64 0, .int .i64 0, .int .i64 0, .int .i64 0, .slice none 0 0, .slice none 0 0, .slice none 0 0, .slice none 0 0] 63))) := ⟨below_new w _⟩
  obtain ⟨na, nc, rfl⟩ := hn.form
  obtain ⟨da, dc, rfl⟩ := hd.form
  obtain ⟨ea, ec, rfl⟩ := he.form
  have HS1 := Aside.mk (show (w.alloc (.cells #[.int .i64 0, .int .i64 0, .int .i64 0, .int .i64 0, .slice none 0 0, .slice none 0 0, .slice none 0 0, .slice none 0 0] 63)).cell? ⟨bl, 0, none⟩ = some (.int .i64 k) ∧ (w.alloc (.cells #[.int .i64 0, .int .i64 0, .int .i64 0, .int .i64 0, .slice none 0 0, .slice none 0 0, .slice none 0 0, .slice none 0 0] 63)).cell? ⟨bl, 1, none⟩ = some (.int .i64 s) ∧ (w.alloc (.cells #[.int .i64 0, .int .i64 0, .int .i64 0, .int .i64 0, .slice none 0 0, .slice none 0 0, .slice none 0 0, .slice none 0 0] 63)).cell? ⟨bl, 2, none⟩ = some (.slice na nulls.length nc) ∧ (w.alloc (.cells #[.int .i64 0, .int .i64 0, .int .i64 0, .int .i64 0, .slice none 0 0, .slice none 0 0, .slice none 0 0, .slice none 0 0] 63)).cell? ⟨bl, 3, none⟩ = some (.slice da data.length dc) ∧ (w.alloc (.cells #[.int .i64 0, .int .i64 0, .int .i64 0, .int .i64 0, .slice none 0 0, .slice none 0 0, .slice none 0 0, .slice none 0 0] 63)).cell? ⟨bl, 4, none⟩ = some (.slice ea ends.length ec) ∧ (w.alloc (.cells #[.int .i64 0, .int .i64 0, .int .i64 0, .int .i64 0, .slice none 0 0, .slice none 0 0, .slice none 0 0, .slice none 0 0] 63)).cell? ⟨bl, 5, none⟩ = some (.pointer (some ⟨lw, 0, none⟩)) ∧ (w.alloc (.cells #[.int .i64 0, .int .i64 0, .int .i64 0, .int .i64 0, .slice none 0 0, .slice none 0 0, .slice none 0 0, .slice none 0 0] 63)).cell? ⟨w.heap.size, 0, none⟩ = some (.int .i64 0) ∧ (w.alloc (.cells #[.int .i64 0, .int .i64 0, .int .i64 0, .int .i64 0, .slice none 0 0, .slice none 0 0, .slice none 0 0, .slice none 0 0] 63)).cell? ⟨w.heap.size, 1, none⟩ = some (.int .i64 0) ∧ (w.alloc (.cells #[.int .i64 0, .int .i64 0, .int .i64 0, .int .i64 0, .slice none 0 0, .slice none 0 0, .slice none 0 0, .slice none 0 0] 63)).cell? ⟨w.heap.size, 2, none⟩ = some (.int .i64 0) ∧ (w.alloc (.cells #[.int .i64 0, .int .i64 0, .int .i64 0, .int .i64 0, .slice none 0 0, .slice none 0 0, .slice none 0 0, .slice none 0 0] 63)).cell? ⟨w.heap.size, 3, none⟩ = some (.int .i64 0) ∧ (w.alloc (.cells #[.int .i64 0, .int .i64 0, .int .i64 0, .int .i64 0, .slice none 0 0, .slice none 0 0, .slice none 0 0, .slice none 0 0] 63)).cell? ⟨w.heap.size, 4, none⟩ = some (.slice none 0 0) ∧ (w.alloc (.cells #[.int .i64 0, .int .i64 0, .int .i64 0, .int .i64 0, .slice none 0 0, .slice none 0 0, .slice none 0 0, .slice none 0 0] 63)).cell? ⟨w.heap.size, 5, none⟩ = some (.slice none 0 0) ∧ (w.alloc (.cells #[.int .i64 0, .int .i64 0, .int .i64 0, .int .i64 0, .slice none 0 0, .slice none 0 0, .slice none 0 0, .slice none 0 0] 63)).cell? ⟨w.heap.size, 6, none⟩ = some (.slice none 0 0) ∧ (w.alloc (.cells #[.int .i64 0, .int .i64 0, .int .i64 0, .int .i64 0, .slice none 0 0, .slice none 0 0, .slice none 0 0, .slice none 0 0] 63)).cell? ⟨w.heap.size, 7, none⟩ = some (.slice none 0 0) ∧ (w.alloc (.cells #[.int .i64 0, .int .i64 0, .int .i64 0, .int .i64 0, .slice none 0 0, .slice none 0 0, .slice none 0 0, .slice none 0 0] 63)).frozen? ⟨w.heap.size, 0, none⟩ = false ∧ (w.alloc (.cells #[.int .i64 0, .int .i64 0, .int .i64 0, .int .i64 0, .slice none 0 0, .slice none 0 0, .slice none 0 0, .slice none 0 0] 63)).frozen? ⟨w.heap.size, 1, none⟩ = false ∧ (w.alloc (.cells #[.int .i64 0, .int .i64 0, .int .i64 0, .int .i64 0, .slice none 0 0, .slice none 0 0, .slice none 0 0, .slice none 0 0] 63)).frozen? ⟨w.heap.size, 2, none⟩ = false ∧ (w.alloc (.cells #[.int .i64 0, .int .i64 0, .int .i64 0, .int .i64 0, .slice none 0 0, .slice none 0 0, .slice none 0 0, .slice none 0 0] 63)).frozen? ⟨w.heap.size, 3, none⟩ = false ∧ (w.alloc (.cells #[.int .i64 0, .int .i64 0, .int .i64 0, .int .i64 0, .slice none 0 0, .slice none 0 0, .slice none 0 0, .slice none 0 0] 63)).frozen? ⟨w.heap.size, 4, none⟩ = false ∧ (w.alloc (.cells #[.int .i64 0, .int .i64 0, .int .i64 0, .int .i64 0, .slice none 0 0, .slice none 0 0, .slice none 0 0, .slice none 0 0] 63)).frozen? ⟨w.heap.size, 5, none⟩ = false ∧ (w.alloc (.cells #[.int .i64 0, .int .i64 0, .int .i64 0, .int .i64 0, .slice none 0 0, .slice none 0 0, .slice none 0 0, .slice none 0 0] 63)).frozen? ⟨w.heap.size, 6, none⟩ = false ∧ (w.alloc (.cells #[.int .i64 0, .int .i64 0, .int .i64 0, .int .i64 0, .slice none 0 0, .slice none 0 0, .slice none 0 0, .slice none 0 0] 63)).frozen? ⟨w.heap.size, 7, none⟩ = false ∧ Aside (Below w.heap.size w (w.alloc (.cells #[.int .i64 0, .int .i64 0, .int .i64 0, .int .i64 0, .slice none 0 0, .slice none 0 0, .slice none 0 0, .slice none 0 0] 63))) from ⟨hc0, hc1, hc2, hc3, hc4, hc5, hz0, hz1, hz2, hz3, hz4, hz5, hz6, hz7, hf0, hf1, hf2, hf3, hf4, hf5, hf6, hf7, hB00⟩)
  have HN := Aside.mk hn
  have HD := Aside.mk hd
  have HE := Aside.mk he
  have HW := Aside.mk hW
  have HL := Aside.mk (And.intro hl1 (And.intro hl2 hl3))
  have H1D := Aside.mk (one_map (fun x : Int => Value.int .u8 x) (fun _ => rfl) data)
  have H1E := Aside.mk (one_map (fun x : Int => Value.int .i64 x) (fun _ => rfl) ends)
  have hne : bl ≠ w.heap.size := by omega
  have hne2 : w.heap.size ≠ bl := by omega
  clear hblk hn hd he hW
  go_enter Tryz.func34, Tryz.ntmps34
  go_wp2_with fail
  go_region_held3 (fun w' => w'.cell? ⟨bl, 0, none⟩ = some (.int .i64 k) ∧ w'.cell? ⟨bl, 1, none⟩ = some (.int .i64 s) ∧ w'.cell? ⟨bl, 2, none⟩ = some (.slice na nulls.length nc) ∧ w'.cell? ⟨bl, 3, none⟩ = some (.slice da data.length dc) ∧ w'.cell? ⟨bl, 4, none⟩ = some (.slice ea ends.length ec) ∧ w'.cell? ⟨bl, 5, none⟩ = some (.pointer (some ⟨lw, 0, none⟩)))
    (first | go_keep | (refine ⟨?_, ?_, ?_, ?_, ?_, ?_⟩ <;> assumption))
    (first
      | (go_at_call 90; refine (mof_any nulls _ _ HL.out.1 ((HN.out.below (below_chain hB00.out (by repeat (first | exact Below.refl _ _ | exact below_drew1 _ | (refine below_chain ?_ (by assumption)))))).rd)).mono ?_; rintro e wm ⟨mv, rfl, ho, hbm⟩; obtain ⟨ma, mc, rfl⟩ := ho.form; have HM := Aside.mk ho; clear ho; (first | (replace hbm := undrew hbm) | skip); obtain ⟨q0, q1, q2, q3, q4, q5, q6, q7, q8, q9, q10, q11, q12, q13, q14, q15, q16, q17, q18, q19, q20, q21, q22⟩ := colS_next (w2 := wm) HS1.out (by repeat (first | exact Below.refl _ _ | exact below_drew1 _ | (refine below_chain ?_ (by assumption)))))
      | (go_at_call 91; refine (clone_bytes _ _ _ _ HL.out.2.1 ((HD.out.below (below_chain hB00.out (by repeat (first | exact Below.refl _ _ | exact below_drew1 _ | (refine below_chain ?_ (by assumption)))))).rd) H1D.out).mono ?_; rintro e wd ⟨dv', rfl, ho, hbd⟩; obtain ⟨da', dc', rfl⟩ := ho.form; have HDD := Aside.mk ho; clear ho; (first | (replace hbd := undrew hbd) | skip); obtain ⟨q0, q1, q2, q3, q4, q5, q6, q7, q8, q9, q10, q11, q12, q13, q14, q15, q16, q17, q18, q19, q20, q21, q22⟩ := colS_next (w2 := wd) HS1.out (by repeat (first | exact Below.refl _ _ | exact below_drew1 _ | (refine below_chain ?_ (by assumption)))))
      | (go_at_call 92; refine (clone_ints _ _ _ _ HL.out.2.2 ((HE.out.below (below_chain hB00.out (by repeat (first | exact Below.refl _ _ | exact below_drew1 _ | (refine below_chain ?_ (by assumption)))))).rd) H1E.out).mono ?_; rintro e we ⟨ev', rfl, ho, hbe⟩; obtain ⟨ea', ec', rfl⟩ := ho.form; have HEE := Aside.mk ho; clear ho; (first | (replace hbe := undrew hbe) | skip); obtain ⟨q0, q1, q2, q3, q4, q5, q6, q7, q8, q9, q10, q11, q12, q13, q14, q15, q16, q17, q18, q19, q20, q21, q22⟩ := colS_next (w2 := we) HS1.out (by repeat (first | exact Below.refl _ _ | exact below_drew1 _ | (refine below_chain ?_ (by assumption)))))
      | (go_at_call 93; refine (HW.out _ (below_chain hB00.out (by repeat (first | exact Below.refl _ _ | exact below_drew1 _ | (refine below_chain ?_ (by assumption))))) (col_size (by repeat (first | exact Below.refl _ _ | exact below_drew1 _ | (refine below_chain ?_ (by assumption)))))).mono ?_; rintro e ww ⟨wa, wn, wc, rfl, hbw, ho⟩; have HWW := Aside.mk ho; clear ho; (first | (replace hbw := undrew hbw) | skip); obtain ⟨q0, q1, q2, q3, q4, q5, q6, q7, q8, q9, q10, q11, q12, q13, q14, q15, q16, q17, q18, q19, q20, q21, q22⟩ := colS_next (w2 := ww) HS1.out (by repeat (first | exact Below.refl _ _ | exact below_drew1 _ | (refine below_chain ?_ (by assumption))))))
  go_wp2
  refine bodyPost_ret (v := .agg #[.int .i64 k, .int .i64 s, .int .i64 (nulls.length : Int), .int .i64 (nulls.length : Int), .slice ma (mof nulls).length mc, .slice da' data.length dc', .slice ea' ends.length ec', .slice wa wn wc]) (by simp [results, Tryz.results34, go_sem, q6, q7, q8, q9, q10, q11, q12, q13]) rfl ?_
  have hsz : w.heap.size + 1 ≤ ((w.alloc (.cells #[.int .i64 0, .int .i64 0, .int .i64 0, .int .i64 0, .slice none 0 0, .slice none 0 0, .slice none 0 0, .slice none 0 0] 63)).drew).heap.size := by show _ ≤ (w.alloc _).heap.size; simp
  have hsm := hbm.size
  have hsd := hbd.size
  have hse := hbe.size
  have hsz2 : w.heap.size + 1 ≤ wm.heap.size := by simpa using hsm
  have BM : Below wm.heap.size wm ww := below_chain (below_chain hbd hbe) hbw
  have BD : Below wd.heap.size wd ww := below_chain hbe hbw
  have K8 : Kept (fun b => b = w.heap.size) ww ((((((((ww.setCell ⟨w.heap.size, 0, none⟩ (.int .i64 k)).setCell ⟨w.heap.size, 1, none⟩ (.int .i64 s)).setCell ⟨w.heap.size, 2, none⟩ (.int .i64 (nulls.length : Int))).setCell ⟨w.heap.size, 3, none⟩ (.int .i64 (nulls.length : Int))).setCell ⟨w.heap.size, 4, none⟩ (.slice ma (mof nulls).length mc)).setCell ⟨w.heap.size, 5, none⟩ (.slice da' data.length dc')).setCell ⟨w.heap.size, 6, none⟩ (.slice ea' ends.length ec')).setCell ⟨w.heap.size, 7, none⟩ (.slice wa wn wc)) := by
    repeat (refine Kept.trans ?_ (Kept.setCell _ _ _) (fun _ e _ => e))
    exact Kept.refl _ _
  have BF : Below w.heap.size w ww := below_chain hB00.out (below_chain hbm BM)
  refine ⟨_, _, _, _, rfl, ?_, ?_, ?_, ⟨_, ?_, hG _ _ _ _ ?_ HWW.out K8, ?_⟩, ?_⟩
  · exact own_sets (HM.out.below BM) hsz K8
  · exact own_sets (HDD.out.below BD) hsz2 K8
  · exact own_sets (HEE.out.below hbw) (by omega) K8
  · omega
  · omega
  · refine ⟨fun b e => ?_, fun b e => ?_, fun b e e2 => ?_⟩
    · have := (HM.out.lt b e).2; omega
    · have := (HDD.out.lt b e).2; omega
    · have h1 := (HM.out.lt b e).2
      have h2 := (HDD.out.lt b e2).1
      omega
  · exact BF.trans (K8.to_below BF.size (fun k e => by omega))
end Go.Proofs.YtmhjjhaipcgbiaaGreat


namespace Go.Proofs.YtmhjjhaipcgbiaaGreat
open Go.RowKit
set_option linter.unusedVariables false
set_option linter.unusedSimpArgs false
set_option maxRecDepth 100000
set_option maxHeartbeats 1000000
def okR (c : Col) (i : Nat) : Bool := !(decide (c.ends.getD i 0 < aheadI c.ends i) || decide ((c.data.length : Int) < c.ends.getD i 0) || (nullB c.bits i && c.ends.getD i 0 != aheadI c.ends i))
theorem mayRunning_eq (c : Col) : mayRunning c = (((c.ends.length : Int) == c.n) && c.words.isEmpty && (List.range c.ends.length).all (okR c) && (aheadI c.ends c.ends.length == (c.data.length : Int))) := rfl
theorem words_pos {ws : List (List Int)} (h : ws.isEmpty = false) : decide (0 < ws.length) = true := by
  cases ws with
  | nil => cases h
  | cons a l => simp
theorem words_zero {ws : List (List Int)} (h : ws.isEmpty = true) : decide (0 < ws.length) = false := by
  cases ws with
  | nil => rfl
  | cons a l => cases h
theorem mayR_any (c : Col) (hc : COK c) (hn : c.n ≤ 8 * (c.bits.length : Int)) (B D E X : SL) (vals : List Value) (w : World) (h : RdC w c B D E X vals) :
    Calls Tryz.prog 218 #[.agg #[], colV c B D E X] w (BoolP (mayRunning c) w) := by
  obtain ⟨ea, ec⟩ := E
  have HR := Aside.mk h
  have HC := Aside.mk hc
  have HN := Aside.mk hn
  clear h hc hn
  have hbw := (below_new w (.cells #[] 162)).trans ((below_new _ (.cells #[.int .i64 c.k, .int .i64 c.s, .int .i64 c.n, .int .i64 c.m, .slice B.a c.bits.length B.c, .slice D.a c.data.length D.c, .slice ea c.ends.length ec, .slice X.a c.words.length X.c] 63)).mono (by simp))
  have HBW := Aside.mk hbw
  clear hbw
  dsimp only [colV]
  by_cases he : (c.ends.length : Int) = c.n
  rotate_left
  · have he2 : ((c.ends.length : Int) == c.n) = false := by simpa using he
    have HE2 := Aside.mk he2
    have he3 : ((c.ends.length : Int) != c.n) = true := by rw [bne, he2]; rfl
    clear he he2
    go_enter Tryz.func218, Tryz.ntmps218
    go_wp2
    go_ret
    exact ⟨ret_bool (by rw [mayRunning_eq, HE2.out]; rfl), HBW.out⟩
  have S2 := Aside.mk he
  have he2 : ((c.ends.length : Int) == c.n) = true := by simpa using he
  have HE2 := Aside.mk he2
  have he3 : ((c.ends.length : Int) != c.n) = false := by rw [bne, he2]; rfl
  clear he he2
  cases hx : c.words.isEmpty with
  | false =>
    have hx2 := words_pos hx
    have HX := Aside.mk hx
    clear hx
    go_enter Tryz.func218, Tryz.ntmps218
    go_wp2
    go_ret
    exact ⟨ret_bool (by rw [mayRunning_eq, HE2.out, HX.out]; rfl), HBW.out⟩
  | true =>
    have hx2 := words_zero hx
    have HM := Aside.mk (show mayRunning c = ((List.range c.ends.length).all (okR c) && (aheadI c.ends c.ends.length == (c.data.length : Int))) by rw [mayRunning_eq, HE2.out, hx]; simp)
    clear hx
    have hle := HC.out.le
    have hld := HC.out.ld
    go_enter Tryz.func218, Tryz.ntmps218
    go_wp2
    generalize hw1 : ((w.alloc (.cells #[] 162)).alloc (.cells #[.int .i64 c.k, .int .i64 c.s, .int .i64 c.n, .int .i64 c.m, .slice B.a c.bits.length B.c, .slice D.a c.data.length D.c, .slice ea c.ends.length ec, .slice X.a c.words.length X.c] 63)) = w1 at *
    have BX := Aside.mk (show w1.heap[w.heap.size + 1]? = some (.cells #[.int .i64 c.k, .int .i64 c.s, .int .i64 c.n, .int .i64 c.m, .slice B.a c.bits.length B.c, .slice D.a c.data.length D.c, .slice ea c.ends.length ec, .slice X.a c.words.length X.c] 63 (0, 0)) by
      rw [← hw1]; simpa using heap_alloc_new (w.alloc (.cells #[] 162)) (.cells #[.int .i64 c.k, .int .i64 c.s, .int .i64 c.n, .int .i64 c.m, .slice B.a c.bits.length B.c, .slice D.a c.data.length D.c, .slice ea c.ends.length ec, .slice X.a c.words.length X.c] 63))
    clear hw1
    go_loopw [23] (fun iv wr => ∃ i : Nat, i ≤ c.ends.length ∧ iv = .int .i64 (i : Int) ∧ Aside (Below w.heap.size w wr ∧ wr.heap[w.heap.size + 1]? = some (.cells #[.int .i64 c.k, .int .i64 c.s, .int .i64 c.n, .int .i64 c.m, .slice B.a c.bits.length B.c, .slice D.a c.data.length D.c, .slice ea c.ends.length ec, .slice X.a c.words.length X.c] 63 (0, 0)) ∧ ∀ j, j < i → okR c j = true)) (fun iv _ => c.ends.length - (intOf iv).toNat)
    case atStart => exact ⟨0, by omega, rfl, ⟨HBW.out, BX.out, fun j hj => by omega⟩⟩
    case round =>
      clear HBW BX
      obtain ⟨i, hi, rfl, hp⟩ := hrel
      have BW := Aside.mk hp.out.1
      have BX := Aside.mk hp.out.2.1
      have HA := Aside.mk hp.out.2.2
      clear hp
      obtain ⟨c0, c1, c2, c3, c4, c5, c6, c7⟩ := box8 BX.out
      by_cases hlt : i < c.ends.length
      · have hb8 : i / 8 < c.bits.length := by have := S2.out; have := HN.out; omega
        obtain ⟨eb, eo, ecap, hs, hel, hecap, hcE⟩ := rd_get HR.out.ends i hlt
        have hcE2 := (BW.out.cell (p := ⟨eb, eo + i, none⟩) (World.block_lt_of_cell? _ _ hcE)).trans hcE
        clear hcE
        have hahead := Aside.mk (fun (w2 : World) hb => cahead_any c B D ⟨ea, ec⟩ X i (by omega) HC.out.le w2 (HR.out.ends.below hb))
        have hnull := Aside.mk (fun (w2 : World) hb => null_any c B D ⟨ea, ec⟩ X i hb8 HC.out.bits HC.out.lb w2 (HR.out.bits.below hb))
        simp only [Value.slice.injEq, true_and] at hs
        obtain ⟨rfl, rfl⟩ := hs
        have hok := Aside.mk (show okR c i = !(decide (c.ends.getD i 0 < aheadI c.ends i) || decide ((c.data.length : Int) < c.ends.getD i 0) || (nullB c.bits i && c.ends.getD i 0 != aheadI c.ends i)) from rfl)
        generalize c.ends.getD i 0 = ev at *
        generalize aheadI c.ends i = fv at *
        generalize nullB c.bits i = nb at *
        by_cases ha : ev < fv
        · have ha2 : decide (ev < fv) = true := decide_eq_true ha
          go_wp2_with (first | (go_at_call 87; refine (hahead.out _ BW.out).mono ?_; rintro e w2 ⟨rfl, hb2⟩; replace BW := Aside.mk (BW.out.trans (hb2.mono BW.out.size)); replace BX := Aside.mk ((hb2.block _ (lt_of_blk BX.out)).trans BX.out); obtain ⟨c0, c1, c2, c3, c4, c5, c6, c7⟩ := box8 BX.out; clear hb2) | (go_at_call 129; refine (hnull.out _ BW.out).mono ?_; rintro e w2 ⟨rfl, hb2⟩; replace BW := Aside.mk (BW.out.trans (hb2.mono BW.out.size)); replace BX := Aside.mk ((hb2.block _ (lt_of_blk BX.out)).trans BX.out); obtain ⟨c0, c1, c2, c3, c4, c5, c6, c7⟩ := box8 BX.out; clear hb2))
          go_ret
          exact ⟨ret_bool (by rw [HM.out, all_false hlt (by rw [hok.out, ha2]; rfl)]; rfl), BW.out⟩
        have ha2 : decide (ev < fv) = false := decide_eq_false ha
        by_cases hd : (c.data.length : Int) < ev
        · have hd2 : decide ((c.data.length : Int) < ev) = true := decide_eq_true hd
          go_wp2_with (first | (go_at_call 87; refine (hahead.out _ BW.out).mono ?_; rintro e w2 ⟨rfl, hb2⟩; replace BW := Aside.mk (BW.out.trans (hb2.mono BW.out.size)); replace BX := Aside.mk ((hb2.block _ (lt_of_blk BX.out)).trans BX.out); obtain ⟨c0, c1, c2, c3, c4, c5, c6, c7⟩ := box8 BX.out; clear hb2) | (go_at_call 129; refine (hnull.out _ BW.out).mono ?_; rintro e w2 ⟨rfl, hb2⟩; replace BW := Aside.mk (BW.out.trans (hb2.mono BW.out.size)); replace BX := Aside.mk ((hb2.block _ (lt_of_blk BX.out)).trans BX.out); obtain ⟨c0, c1, c2, c3, c4, c5, c6, c7⟩ := box8 BX.out; clear hb2))
          go_ret
          exact ⟨ret_bool (by rw [HM.out, all_false hlt (by rw [hok.out, hd2]; simp)]; rfl), BW.out⟩
        have hd2 : decide ((c.data.length : Int) < ev) = false := decide_eq_false hd
        cases nb with
        | true =>
          by_cases hq : ev = fv
          · subst hq
            go_wp2_with (first | (go_at_call 87; refine (hahead.out _ BW.out).mono ?_; rintro e w2 ⟨rfl, hb2⟩; replace BW := Aside.mk (BW.out.trans (hb2.mono BW.out.size)); replace BX := Aside.mk ((hb2.block _ (lt_of_blk BX.out)).trans BX.out); obtain ⟨c0, c1, c2, c3, c4, c5, c6, c7⟩ := box8 BX.out; clear hb2) | (go_at_call 129; refine (hnull.out _ BW.out).mono ?_; rintro e w2 ⟨rfl, hb2⟩; replace BW := Aside.mk (BW.out.trans (hb2.mono BW.out.size)); replace BX := Aside.mk ((hb2.block _ (lt_of_blk BX.out)).trans BX.out); obtain ⟨c0, c1, c2, c3, c4, c5, c6, c7⟩ := box8 BX.out; clear hb2))
            refine ⟨⟨i + 1, by omega, by simp, ⟨BW.out, BX.out, fun j hj => ?_⟩⟩, by simp [intOf]; omega⟩
            rcases Nat.lt_or_ge j i with h | h
            · exact HA.out j h
            · obtain rfl : j = i := by omega
              rw [hok.out, ha2, hd2]; simp
          · have hq2 : (ev != fv) = true := by simpa using hq
            go_wp2_with (first | (go_at_call 87; refine (hahead.out _ BW.out).mono ?_; rintro e w2 ⟨rfl, hb2⟩; replace BW := Aside.mk (BW.out.trans (hb2.mono BW.out.size)); replace BX := Aside.mk ((hb2.block _ (lt_of_blk BX.out)).trans BX.out); obtain ⟨c0, c1, c2, c3, c4, c5, c6, c7⟩ := box8 BX.out; clear hb2) | (go_at_call 129; refine (hnull.out _ BW.out).mono ?_; rintro e w2 ⟨rfl, hb2⟩; replace BW := Aside.mk (BW.out.trans (hb2.mono BW.out.size)); replace BX := Aside.mk ((hb2.block _ (lt_of_blk BX.out)).trans BX.out); obtain ⟨c0, c1, c2, c3, c4, c5, c6, c7⟩ := box8 BX.out; clear hb2))
            go_ret
            exact ⟨ret_bool (by rw [HM.out, all_false hlt (by rw [hok.out, hq2]; simp)]; rfl), BW.out⟩
        | false =>
          go_wp2_with (first | (go_at_call 87; refine (hahead.out _ BW.out).mono ?_; rintro e w2 ⟨rfl, hb2⟩; replace BW := Aside.mk (BW.out.trans (hb2.mono BW.out.size)); replace BX := Aside.mk ((hb2.block _ (lt_of_blk BX.out)).trans BX.out); obtain ⟨c0, c1, c2, c3, c4, c5, c6, c7⟩ := box8 BX.out; clear hb2) | (go_at_call 129; refine (hnull.out _ BW.out).mono ?_; rintro e w2 ⟨rfl, hb2⟩; replace BW := Aside.mk (BW.out.trans (hb2.mono BW.out.size)); replace BX := Aside.mk ((hb2.block _ (lt_of_blk BX.out)).trans BX.out); obtain ⟨c0, c1, c2, c3, c4, c5, c6, c7⟩ := box8 BX.out; clear hb2))
          refine ⟨⟨i + 1, by omega, by simp, ⟨BW.out, BX.out, fun j hj => ?_⟩⟩, by simp [intOf]; omega⟩
          rcases Nat.lt_or_ge j i with h | h
          · exact HA.out j h
          · obtain rfl : j = i := by omega
            rw [hok.out, ha2, hd2]; rfl
      · obtain rfl : i = c.ends.length := by omega
        have hah : Aside (∀ w2 : World, Below w.heap.size w w2 → Calls Tryz.prog 87 #[colV c B D ⟨ea, ec⟩ X, .int .i64 c.n] w2 (IntP (aheadI c.ends c.ends.length) w2)) := ⟨fun w2 hb => by
          have := cahead_any c B D ⟨ea, ec⟩ X c.ends.length (Nat.le_refl _) HC.out.le w2 (HR.out.ends.below hb)
          rw [S2.out] at this
          exact this⟩
        have HAL := Aside.mk (all_range HA.out)
        go_wp2
        go_region_law ((refine step_call (P := Tryz.prog) wr.drew (by rfl) 87 [.tmp 52, .tmp 54] _ (by rfl) [colV c B D ⟨ea, ec⟩ X, .int .i64 c.n] (by rfl) (fun _ _ => rfl) (hah.out wr.drew (BW.out.trans (below_drewN _ _ 1))) ?_; rintro e w2 ⟨rfl, hb2⟩; replace hb2 := undrew hb2; replace BW := Aside.mk (BW.out.trans (hb2.mono BW.out.size)); replace BX := Aside.mk ((hb2.block _ (lt_of_blk BX.out)).trans BX.out); obtain ⟨c0, c1, c2, c3, c4, c5, c6, c7⟩ := box8 BX.out; clear hb2; refine ⟨_, rfl, ?_⟩))
        all_goals
          go_wp2
          go_ret
          exact ⟨ret_bool (by rw [HM.out, HAL.out]; rfl), BW.out⟩
end Go.Proofs.YtmhjjhaipcgbiaaGreat
