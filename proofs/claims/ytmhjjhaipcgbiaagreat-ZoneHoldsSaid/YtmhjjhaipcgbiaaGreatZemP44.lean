/- Texts of this claim, one behind the other: AskS. -/
import Derived.Test.YtmhjjhaipcgbiaaGreatZemP24
import Derived.Test.YtmhjjhaipcgbiaaGreatZemP29
import Derived.Test.YtmhjjhaipcgbiaaGreatZemP43
import Derived.Test.YtmhjjhaipcgbiaaGreatZemP42
import Derived.Test.YtmhjjhaipcgbiaaGreatZemP25

namespace Go.Proofs.YtmhjjhaipcgbiaaGreat
open Go.RowKit
set_option linter.unusedVariables false
set_option linter.unusedSimpArgs false
set_option maxRecDepth 100000
set_option maxHeartbeats 1000000
structure AskS (w0 : World) (bk : Nat) (L : List Nat) (M : Nat) (W : World) : Prop where
  bel : Below w0.heap.size w0 W
  lo : w0.heap.size ≤ M
  mm : M ≤ W.heap.size
  own : ∀ b ∈ L, w0.heap.size ≤ b ∧ b < W.heap.size
  book : BK W (fun b => w0.heap.size ≤ b ∧ b < M ∧ b ∉ L) bk
namespace AskS
variable {w0 W W' : World} {bk M : Nat} {L : List Nat}
theorem below (h : AskS w0 bk L M W) (hb : Below W.heap.size W W') : AskS w0 bk L M W' :=
  ⟨h.bel.trans (hb.mono h.bel.size), h.lo, Nat.le_trans h.mm hb.size, fun b e => ⟨(h.own b e).1, Nat.lt_of_lt_of_le (h.own b e).2 hb.size⟩, h.book.below hb⟩
theorem alloc (h : AskS w0 bk L M W) (o : Obj) : AskS w0 bk (W.heap.size :: L) M (W.alloc o) := by
  have h1 := h.below (below_new W o)
  have hs : (W.alloc o).heap.size = W.heap.size + 1 := by simp
  refine ⟨h1.bel, h1.lo, h1.mm, fun b e => ?_, h1.book.mono (fun b e _ => ⟨e.1, e.2.1, fun hm => ?_⟩)⟩
  · rcases List.mem_cons.1 e with rfl | e
    · have := h.lo; have := h.mm; omega
    · exact h1.own b e
  · rcases List.mem_cons.1 hm with rfl | hm
    · have := h.mm; omega
    · exact e.2.2 hm
theorem turn (h : AskS w0 bk L M W) {b : Nat} (hb : b ∈ L) (hk : Kept (fun k => k = b) W W') : AskS w0 bk L M W' :=
  ⟨h.bel.trans (hk.to_below h.bel.size (fun k e => by subst e; exact (h.own _ hb).1)), h.lo, Nat.le_trans h.mm hk.size, fun b e => ⟨(h.own b e).1, Nat.lt_of_lt_of_le (h.own b e).2 hk.size⟩, h.book.kept hk (fun k e _ e2 => by subst e2; exact e.2.2 hb)⟩
theorem bytes (h : AskS w0 bk L M W) (a : Option Addr) (c : Nat) (xs : List Int) {base : Nat} (hM : M ≤ base) (hb : IsBytes xs) (hl : xs.length ≤ 100000000) (hr : Own W base 5 1 (.slice a xs.length c) xs.length (xs.map (.int .u8))) (hL : ∀ b ∈ L, (Value.slice a xs.length c).ownBlock ≠ some b) :
    Calls Tryz.prog 42 #[.pointer (some ⟨bk, 0, none⟩), .slice a xs.length c] W (fun e W' => e = .returned (.tuple #[]) ∧ AskS w0 bk L W'.heap.size W' ∧ ∀ b ∈ L, W'.heap[b]? = W.heap[b]?) := by
  refine (book_bytes _ bk a c xs hb hl W h.book (hr.mono (Nat.zero_le _)) (fun b e t => by have := (hr.lt b e).1; omega)).mono ?_
  rintro e W' ⟨rfl, h1, h2⟩
  have hlo := h.lo
  have hmm := h.mm
  refine ⟨rfl, ⟨h.bel.trans (h2.to_below h.bel.size (fun k e => e.1)), by have := h2.size; omega, Nat.le_refl _, fun b e => ⟨(h.own b e).1, Nat.lt_of_lt_of_le (h.own b e).2 h2.size⟩, h1.mono (fun b e hbl => ?_)⟩, fun b e => h2.block b (h.own b e).2 (fun t => t.2.2 e)⟩
  rcases e with e | e | e
  · exact ⟨e.1, hbl, e.2.2⟩
  · exact ⟨by have := (hr.lt b e).1; omega, hbl, fun hm => hL b hm e⟩
  · exact ⟨by omega, hbl, fun hm => by have := (h.own b hm).2; omega⟩
theorem keep (h : AskS w0 bk L M W) (c : Col) (hc : COK c) (B D E X : SL) (vals : List Value) {base : Nat} (hM : M ≤ base) (hbase : base ≤ W.heap.size) (ho : OwnC W base c B D E X vals) (hL : ∀ b ∈ L, ∃ cur F, W.heap[b]? = some (.cells cur F (0, 0)) ∧ F ≠ 5 ∧ F ≠ 3) :
    Calls Tryz.prog 35 #[.pointer (some ⟨bk, 0, none⟩), colV c B D E X] W (fun e W' => e = .returned (.tuple #[]) ∧ AskS w0 bk L W'.heap.size W' ∧ ∀ b ∈ L, W'.heap[b]? = W.heap[b]?) := by
  refine (keep_colR _ bk c B D E X vals base (fun b e => by have := e.2.1; omega) hc.data hc.bits (fun t ht => (hc.words t ht).1) hc.ld hc.lb hc.le (fun t ht => (hc.words t ht).2) hc.lw W hbase h.book ho).mono ?_
  rintro e W' ⟨rfl, h1, h2⟩
  have hlo := h.lo
  have hmm := h.mm
  have hnr : ∀ b ∈ L, ¬ RowsC c B D E vals b := fun b e r => by
    obtain ⟨cur, F, q1, q2, q3⟩ := hL b e
    obtain ⟨_, _, cur', F', q4, q5⟩ := rowsC_blk ho r
    rw [q1] at q4
    cases q4
    exact q5.elim q2 q3
  refine ⟨rfl, ⟨h.bel.trans (h2.to_below h.bel.size (fun k e => ?_)), by have := h2.size; omega, Nat.le_refl _, fun b e => ⟨(h.own b e).1, Nat.lt_of_lt_of_le (h.own b e).2 h2.size⟩, h1.mono (fun b e hbl => ?_)⟩, fun b e => h2.block b (h.own b e).2 (fun t => ?_)⟩
  · rcases e with e | e | e
    · exact e.1
    · have := (rowsC_blk ho e).1; omega
    · omega
  · rcases e with e | e | e
    · exact ⟨e.1, hbl, e.2.2⟩
    · exact ⟨by have := (rowsC_blk ho e).1; omega, hbl, fun hm => hnr b hm e⟩
    · exact ⟨by omega, hbl, fun hm => by have := (h.own b hm).2; omega⟩
  · rcases t with t | t | t
    · exact t.2.2 e
    · exact hnr b e t
    · have := (h.own b e).2; omega
end AskS
end Go.Proofs.YtmhjjhaipcgbiaaGreat
