/- Texts of this claim, one behind the other: Close, AskS, AskW. -/
import Derived.Test.YtmhjjhaipcgbiaaGreatZooP43
import Derived.Test.YtmhjjhaipcgbiaaGreatZooP42
import Derived.Test.YtmhjjhaipcgbiaaGreatZooP25
import Derived.Test.YtmhjjhaipcgbiaaGreatZooP30
import Derived.Test.YtmhjjhaipcgbiaaGreatZooP1

namespace Go.Proofs.YtmhjjhaipcgbiaaGreat
open Go.RowKit
set_option linter.unusedVariables false
set_option linter.unusedSimpArgs false
set_option maxRecDepth 100000
set_option maxHeartbeats 1000000
theorem close_words (bk : Nat) (bv sv iv hv : Value) (w : World) (hblk : w.heap[bk]? = some (.cells #[bv, sv, .slice none 0 0, .slice none 0 0, iv, hv] 41 (0, 0))) :
    Calls Tryz.prog 97 #[.pointer (some ⟨bk, 0, none⟩)] w (fun e w' => e = .returned (.bool true) ∧ w' = w) := by
  have HB := Aside.mk hblk
  clear hblk
  go_enter Tryz.func97, Tryz.ntmps97
  go_wp2_with fail
  go_loopw [3] (fun i0 wr => i0 = .int .i64 0 ∧ wr = w) (fun _ _ => 0)
  case atStart => exact ⟨rfl, rfl⟩
  case round =>
    obtain ⟨rfl, rfl⟩ := hrel
    obtain ⟨c0, c1, c2, c3, c4, c5⟩ := box6b HB.out
    go_wp2_with fail
    go_loopw [5, 6] (fun g0 i0 wr2 => g0 = .slice none 0 0 ∧ i0 = .int .i64 0 ∧ wr2 = wr) (fun _ _ _ => 0)
    case atStart => exact ⟨rfl, rfl, rfl⟩
    case round =>
      obtain ⟨rfl, rfl, rfl⟩ := hrel
      go_wp2_with fail
      go_loopw [8] (fun i0 wr2 => i0 = .int .i64 0 ∧ wr2 = wr) (fun _ _ => 0)
      case atStart => exact ⟨rfl, rfl⟩
      case round =>
        obtain ⟨rfl, rfl⟩ := hrel
        go_wp2_with fail
        go_ret
        exact ⟨rfl, rfl⟩
theorem rows_ne {w : World} {E TE : TypeId} {K : IntKind} {v : Value} {rows : List KRow} (h : BR w E TE K v rows) {b : Nat} (hb : RowsB rows b) : ∃ cur, w.heap[b]? = some (.cells cur E (0, 0)) := by
  obtain ⟨r, hr, e⟩ := hb
  obtain ⟨m, hm, rfl⟩ := List.mem_iff_getElem.1 hr
  exact own_blk (h.row m _ (List.getElem?_eq_getElem hm)) e
theorem book_at {w w1 w2 : World} {T : Nat → Prop} {bk : Nat} {rows irows : List KRow} {ss hs : List Value} {bv sv iv hv : Value} (H : BKx w T bk rows irows ss hs bv sv iv hv) (hb : Below w.heap.size w w1) (hk : Kept (RowsB rows) w1 w2) :
    w2.heap[bk]? = some (.cells #[bv, sv, .slice none 0 0, .slice none 0 0, iv, hv] 41 (0, 0)) ∧ BR w2 3 61 .i64 iv irows ∧ Kept T w w2 := by
  have hr : ∀ b, RowsB rows b → ∃ cur, w1.heap[b]? = some (.cells cur 5 (0, 0)) := fun b h => by
    obtain ⟨cur, q⟩ := rows_ne H.b h
    exact ⟨cur, (hb.block b (lt_of_blk q)).trans q⟩
  have h1 := (hb.block _ (lt_of_blk H.blk)).trans H.blk
  refine ⟨(hk.block _ (lt_of_blk h1) (fun e => ?_)).trans h1, (H.i.kept (Kept.of_below (S := fun _ => False) hb) (fun _ _ e => e) (fun _ _ _ _ e => e)).keptT hk (fun b e _ cs q => ?_) (fun b e _ cs q => ?_), (Kept.of_below (S := T) hb).trans hk (fun b e _ => ?_)⟩
  · obtain ⟨cur, q⟩ := hr _ e
    exact blk_ne h1 q (by decide) rfl
  · obtain ⟨cur, q2⟩ := hr _ e
    exact blk_ne q q2 (by decide) rfl
  · obtain ⟨cur, q2⟩ := hr _ e
    exact blk_ne q q2 (by decide) rfl
  · obtain ⟨r, hr, e⟩ := e
    exact H.bt.trow r hr b e
theorem book_close (T : Nat → Prop) (bk : Nat) (w : World) (h : BK w T bk) : Calls Tryz.prog 36 #[.pointer (some ⟨bk, 0, none⟩)] w (fun e w' => e = .returned (.bool true) ∧ Kept T w w') := by
  obtain ⟨rows, irows, ss, hs, bv, sv, iv, hv, h⟩ := h
  have H := Aside.mk h
  clear h
  go_enter Tryz.func36, Tryz.ntmps36
  go_wp2_with (first
    | (go_at_call 95; refine (look_any T bk rows irows ss hs bv sv iv hv _ H.out).mono ?_; rintro e w1 ⟨rfl, hb1⟩; have HB1 := Aside.mk hb1; clear hb1)
    | (go_at_call 96; refine (close_bytes bk rows bv sv iv hv w1 ((HB1.out.block _ (lt_of_blk H.out.blk)).trans H.out.blk) (H.out.b.kept (Kept.of_below (S := fun _ => False) HB1.out) (fun _ _ e => e) (fun _ _ _ _ e => e))).mono ?_; rintro e w2 ⟨rfl, hk2⟩; have HB2 := Aside.mk (book_at H.out HB1.out hk2); clear hk2)
    | (go_at_call 97; refine (close_words bk bv sv iv hv w2 HB2.out.1).mono ?_; rintro e w3 ⟨rfl, rfl⟩)
    | (go_at_call 98; refine (close_ints bk irows bv sv iv hv _ HB2.out.1 HB2.out.2.1).mono ?_; rintro e w4 ⟨rfl, hk4⟩; have HK4 := Aside.mk (HB2.out.2.2.trans hk4 (fun b ⟨r, hr, e⟩ _ => H.out.it.trow r hr b e)); clear hk4))
  go_ret
  exact ⟨rfl, HK4.out⟩
end Go.Proofs.YtmhjjhaipcgbiaaGreat


namespace Go.Proofs.YtmhjjhaipcgbiaaGreat
open Go.RowKit
set_option linter.unusedVariables false
set_option linter.unusedSimpArgs false
set_option maxRecDepth 100000
set_option maxHeartbeats 1000000
structure AskS (w0 : World) (bk : Nat) (L : List Nat) (M : Nat) (W : World) : Prop where
  bel : Below w0.heap.size w0 W
  lo : w0.heap.size ≤ M
  mm : M ≤ W.heap.size
  own : ∀ b ∈ L, w0.heap.size ≤ b ∧ b < W.heap.size
  book : BK W (fun b => w0.heap.size ≤ b ∧ b < M ∧ b ∉ L) bk
namespace AskS
variable {w0 W W' : World} {bk M : Nat} {L : List Nat}
theorem below (h : AskS w0 bk L M W) (hb : Below W.heap.size W W') : AskS w0 bk L M W' :=
  ⟨h.bel.trans (hb.mono h.bel.size), h.lo, Nat.le_trans h.mm hb.size, fun b e => ⟨(h.own b e).1, Nat.lt_of_lt_of_le (h.own b e).2 hb.size⟩, h.book.below hb⟩
theorem alloc (h : AskS w0 bk L M W) (o : Obj) : AskS w0 bk (W.heap.size :: L) M (W.alloc o) := by
  have h1 := h.below (below_new W o)
  have hs : (W.alloc o).heap.size = W.heap.size + 1 := by simp
  refine ⟨h1.bel, h1.lo, h1.mm, fun b e => ?_, h1.book.mono (fun b e _ => ⟨e.1, e.2.1, fun hm => ?_⟩)⟩
  · rcases List.mem_cons.1 e with rfl | e
    · have := h.lo; have := h.mm; omega
    · exact h1.own b e
  · rcases List.mem_cons.1 hm with rfl | hm
    · have := h.mm; omega
    · exact e.2.2 hm
theorem turn (h : AskS w0 bk L M W) {b : Nat} (hb : b ∈ L) (hk : Kept (fun k => k = b) W W') : AskS w0 bk L M W' :=
  ⟨h.bel.trans (hk.to_below h.bel.size (fun k e => by subst e; exact (h.own _ hb).1)), h.lo, Nat.le_trans h.mm hk.size, fun b e => ⟨(h.own b e).1, Nat.lt_of_lt_of_le (h.own b e).2 hk.size⟩, h.book.kept hk (fun k e _ e2 => by subst e2; exact e.2.2 hb)⟩
theorem bytes (h : AskS w0 bk L M W) (a : Option Addr) (c : Nat) (xs : List Int) {base : Nat} (hM : M ≤ base) (hb : IsBytes xs) (hl : xs.length ≤ 100000000) (hr : Own W base 5 1 (.slice a xs.length c) xs.length (xs.map (.int .u8))) (hL : ∀ b ∈ L, (Value.slice a xs.length c).ownBlock ≠ some b) :
    Calls Tryz.prog 42 #[.pointer (some ⟨bk, 0, none⟩), .slice a xs.length c] W (fun e W' => e = .returned (.tuple #[]) ∧ AskS w0 bk L W'.heap.size W' ∧ ∀ b ∈ L, W'.heap[b]? = W.heap[b]?) := by
  refine (book_bytes _ bk a c xs hb hl W h.book (hr.mono (Nat.zero_le _)) (fun b e t => by have := (hr.lt b e).1; omega)).mono ?_
  rintro e W' ⟨rfl, h1, h2⟩
  have hlo := h.lo
  have hmm := h.mm
  refine ⟨rfl, ⟨h.bel.trans (h2.to_below h.bel.size (fun k e => e.1)), by have := h2.size; omega, Nat.le_refl _, fun b e => ⟨(h.own b e).1, Nat.lt_of_lt_of_le (h.own b e).2 h2.size⟩, h1.mono (fun b e hbl => ?_)⟩, fun b e => h2.block b (h.own b e).2 (fun t => t.2.2 e)⟩
  rcases e with e | e | e
  · exact ⟨e.1, hbl, e.2.2⟩
  · exact ⟨by have := (hr.lt b e).1; omega, hbl, fun hm => hL b hm e⟩
  · exact ⟨by omega, hbl, fun hm => by have := (h.own b hm).2; omega⟩
theorem keep (h : AskS w0 bk L M W) (c : Col) (hc : COK c) (B D E X : SL) (vals : List Value) {base : Nat} (hM : M ≤ base) (hbase : base ≤ W.heap.size) (ho : OwnC W base c B D E X vals) (hL : ∀ b ∈ L, ∃ cur F, W.heap[b]? = some (.cells cur F (0, 0)) ∧ F ≠ 5 ∧ F ≠ 3) :
    Calls Tryz.prog 35 #[.pointer (some ⟨bk, 0, none⟩), colV c B D E X] W (fun e W' => e = .returned (.tuple #[]) ∧ AskS w0 bk L W'.heap.size W' ∧ ∀ b ∈ L, W'.heap[b]? = W.heap[b]?) := by
  refine (keep_colR _ bk c B D E X vals base (fun b e => by have := e.2.1; omega) hc.data hc.bits (fun t ht => (hc.words t ht).1) hc.ld hc.lb hc.le (fun t ht => (hc.words t ht).2) hc.lw W hbase h.book ho).mono ?_
  rintro e W' ⟨rfl, h1, h2⟩
  have hlo := h.lo
  have hmm := h.mm
  have hnr : ∀ b ∈ L, ¬ RowsC c B D E vals b := fun b e r => by
    obtain ⟨cur, F, q1, q2, q3⟩ := hL b e
    obtain ⟨_, _, cur', F', q4, q5⟩ := rowsC_blk ho r
    rw [q1] at q4
    cases q4
    exact q5.elim q2 q3
  refine ⟨rfl, ⟨h.bel.trans (h2.to_below h.bel.size (fun k e => ?_)), by have := h2.size; omega, Nat.le_refl _, fun b e => ⟨(h.own b e).1, Nat.lt_of_lt_of_le (h.own b e).2 h2.size⟩, h1.mono (fun b e hbl => ?_)⟩, fun b e => h2.block b (h.own b e).2 (fun t => ?_)⟩
  · rcases e with e | e | e
    · exact e.1
    · have := (rowsC_blk ho e).1; omega
    · omega
  · rcases e with e | e | e
    · exact ⟨e.1, hbl, e.2.2⟩
    · exact ⟨by have := (rowsC_blk ho e).1; omega, hbl, fun hm => hnr b hm e⟩
    · exact ⟨by omega, hbl, fun hm => by have := (h.own b hm).2; omega⟩
  · rcases t with t | t | t
    · exact t.2.2 e
    · exact hnr b e t
    · have := (h.own b e).2; omega
end AskS
end Go.Proofs.YtmhjjhaipcgbiaaGreat


namespace Go.Proofs.YtmhjjhaipcgbiaaGreat
open Go.RowKit
set_option linter.unusedVariables false
set_option linter.unusedSimpArgs false
set_option maxRecDepth 100000
set_option maxHeartbeats 4000000
def AskP (w0 : World) (bk : Nat) (e : Ending) (w' : World) : Prop := e = .returned (.bool true) ∧ Below w0.heap.size w0 w' ∧ BK w' (fun b => w0.heap.size ≤ b) bk
theorem AskS.done {w0 W : World} {bk M : Nat} {L : List Nat} (h : AskS w0 bk L M W) : AskP w0 bk (.returned (.bool true)) W := ⟨rfl, h.bel, h.book.mono (fun b e _ => e.1)⟩
end Go.Proofs.YtmhjjhaipcgbiaaGreat
