/- Texts of this claim, one behind the other: Same, EqC, J0, BackP, DictB, Sl, Back, Refuse, App2, Lay0, Lay1. -/
import Derived.Test.YtmhjjhaipcgbiaaGreatBuiP4
import Derived.Test.YtmhjjhaipcgbiaaGreatBuiP3
import Derived.Test.YtmhjjhaipcgbiaaGreatBuiP5
import Derived.Test.YtmhjjhaipcgbiaaGreatBuiP2
import Derived.Maps.Views
import Derived.BigQuiet
import Derived.Deep.QuietTactic
import Derived.Test.YtmhjjhaipcgbiaaGreatBuiP1
import Derived.IntWalk

/- column.Same. -/
namespace Go.Proofs.YtmhjjhaipcgbiaaGreat
open Go.RowKit
set_option linter.unusedVariables false
set_option linter.unusedSimpArgs false
set_option maxRecDepth 100000
set_option maxHeartbeats 4000000

/-- Both may be and hold the same. -/
def sameC (a b : Col) : Bool := decide (checkC a = 0 ∧ checkC b = 0 ∧ a.k = b.k ∧ a.s = b.s ∧ a.n = b.n ∧ a.bits = b.bits ∧ a.data = b.data ∧ a.ends = b.ends ∧ a.words = b.words)

theorem same_any (a b : Col) (ha : COK a) (hb : COK b) (B D E X B2 D2 E2 X2 : SL) (va vb : List Value) (w : World) (h : RdC w a B D E X va) (h2 : RdC w b B2 D2 E2 X2 vb) : Calls Tryz.prog 112 #[colV a B D E X, colV b B2 D2 E2 X2] w (BoolP (sameC a b) w) := by
  have hca := Aside.mk (fun (w2 : World) (hw : Below w.heap.size w w2) => check_any a ha B D E X va w2 (h.below hw))
  have hcb := Aside.mk (fun (w2 : World) (hw : Below w.heap.size w w2) => check_any b hb B2 D2 E2 X2 vb w2 (h2.below hw))
  have heb := Aside.mk (fun (w2 : World) (hw : Below w.heap.size w w2) => equal_bytes a.bits b.bits B B2 (Nat.le_trans ha.lb (by decide)) w2 (h.bits.below hw) (h2.bits.below hw))
  have hed := Aside.mk (fun (w2 : World) (hw : Below w.heap.size w w2) => equal_bytes a.data b.data D D2 (Nat.le_trans ha.ld (by decide)) w2 (h.data.below hw) (h2.data.below hw))
  have hee := Aside.mk (fun (w2 : World) (hw : Below w.heap.size w w2) => equal_ints a.ends b.ends E E2 (Nat.le_trans ha.le (by decide)) w2 (h.ends.below hw) (h2.ends.below hw))
  have hew := Aside.mk (fun (w2 : World) (hw : Below w.heap.size w w2) => equal_words a.words b.words X X2 va vb (Nat.le_trans ha.lw (by decide)) (fun t ht => (ha.words t ht).2) w2 (h.words.below hw) (h2.words.below hw) (h.each.below hw) (h2.each.below hw))
  have HS := Aside.mk (show sameC a b = decide (checkC a = 0 ∧ checkC b = 0 ∧ a.k = b.k ∧ a.s = b.s ∧ a.n = b.n ∧ a.bits = b.bits ∧ a.data = b.data ∧ a.ends = b.ends ∧ a.words = b.words) from rfl)
  clear h h2 ha hb
  dsimp only [colV] at hca hcb ⊢
  generalize checkC a = ra at *
  generalize checkC b = rb at *
  obtain ⟨tb, htb⟩ : ∃ tb, tb = decide (a.bits = b.bits) := ⟨_, rfl⟩
  rw [← htb] at heb
  have HTB := Aside.mk htb
  clear htb
  have BW := Aside.mk ((below_new w (.cells #[.int .i64 a.k, .int .i64 a.s, .int .i64 a.n, .int .i64 a.m, .slice B.a a.bits.length B.c, .slice D.a a.data.length D.c, .slice E.a a.ends.length E.c, .slice X.a a.words.length X.c] 63)).trans ((below_new _ (.cells #[.int .i64 b.k, .int .i64 b.s, .int .i64 b.n, .int .i64 b.m, .slice B2.a b.bits.length B2.c, .slice D2.a b.data.length D2.c, .slice E2.a b.ends.length E2.c, .slice X2.a b.words.length X2.c] 63)).mono (by simp)))
  have HXA := Aside.mk (show ((w.alloc (.cells #[.int .i64 a.k, .int .i64 a.s, .int .i64 a.n, .int .i64 a.m, .slice B.a a.bits.length B.c, .slice D.a a.data.length D.c, .slice E.a a.ends.length E.c, .slice X.a a.words.length X.c] 63)).alloc (.cells #[.int .i64 b.k, .int .i64 b.s, .int .i64 b.n, .int .i64 b.m, .slice B2.a b.bits.length B2.c, .slice D2.a b.data.length D2.c, .slice E2.a b.ends.length E2.c, .slice X2.a b.words.length X2.c] 63)).heap[w.heap.size]? = some (.cells #[.int .i64 a.k, .int .i64 a.s, .int .i64 a.n, .int .i64 a.m, .slice B.a a.bits.length B.c, .slice D.a a.data.length D.c, .slice E.a a.ends.length E.c, .slice X.a a.words.length X.c] 63 (0, 0)) by
    rw [Below.heap_alloc _ _ _ (by simp)]; exact heap_alloc_new w _)
  have HXB := Aside.mk (show ((w.alloc (.cells #[.int .i64 a.k, .int .i64 a.s, .int .i64 a.n, .int .i64 a.m, .slice B.a a.bits.length B.c, .slice D.a a.data.length D.c, .slice E.a a.ends.length E.c, .slice X.a a.words.length X.c] 63)).alloc (.cells #[.int .i64 b.k, .int .i64 b.s, .int .i64 b.n, .int .i64 b.m, .slice B2.a b.bits.length B2.c, .slice D2.a b.data.length D2.c, .slice E2.a b.ends.length E2.c, .slice X2.a b.words.length X2.c] 63)).heap[w.heap.size + 1]? = some (.cells #[.int .i64 b.k, .int .i64 b.s, .int .i64 b.n, .int .i64 b.m, .slice B2.a b.bits.length B2.c, .slice D2.a b.data.length D2.c, .slice E2.a b.ends.length E2.c, .slice X2.a b.words.length X2.c] 63 (0, 0)) by
    simpa using heap_alloc_new (w.alloc (.cells #[.int .i64 a.k, .int .i64 a.s, .int .i64 a.n, .int .i64 a.m, .slice B.a a.bits.length B.c, .slice D.a a.data.length D.c, .slice E.a a.ends.length E.c, .slice X.a a.words.length X.c] 63)) (.cells #[.int .i64 b.k, .int .i64 b.s, .int .i64 b.n, .int .i64 b.m, .slice B2.a b.bits.length B2.c, .slice D2.a b.data.length D2.c, .slice E2.a b.ends.length E2.c, .slice X2.a b.words.length X2.c] 63))
  go_enter Tryz.func112, Tryz.ntmps112
  go_wp2_with fail
  generalize ((w.alloc (.cells #[.int .i64 a.k, .int .i64 a.s, .int .i64 a.n, .int .i64 a.m, .slice B.a a.bits.length B.c, .slice D.a a.data.length D.c, .slice E.a a.ends.length E.c, .slice X.a a.words.length X.c] 63)).alloc (.cells #[.int .i64 b.k, .int .i64 b.s, .int .i64 b.n, .int .i64 b.m, .slice B2.a b.bits.length B2.c, .slice D2.a b.data.length D2.c, .slice E2.a b.ends.length E2.c, .slice X2.a b.words.length X2.c] 63)) = w1 at *
  refine (hca.out _ BW.out).mono ?_
  rintro e w2 ⟨rfl, hb2⟩
  replace BW := Aside.mk (BW.out.trans (hb2.mono BW.out.size)); replace HXA := Aside.mk ((hb2.block _ (lt_of_blk HXA.out)).trans HXA.out); replace HXB := Aside.mk ((hb2.block _ (lt_of_blk HXB.out)).trans HXB.out); obtain ⟨p0, p1, p2, p3, p4, p5, p6, p7⟩ := box8 HXA.out; obtain ⟨q0, q1, q2, q3, q4, q5, q6, q7⟩ := box8 HXB.out; clear hb2
  clear hca
  by_cases h1 : ra = 0
  rotate_left
  · have HF := Aside.mk (show false = sameC a b by rw [HS.out]; simp [h1])
    have h1' : (ra == 0) = false := by simpa using h1
    clear h1
    go_wp2_with (first | (go_at_call 82; first | (refine (hca.out _ BW.out).mono ?_; rintro e w2 ⟨rfl, hb2⟩; clear hca; replace BW := Aside.mk (BW.out.trans (hb2.mono BW.out.size)); replace HXA := Aside.mk ((hb2.block _ (lt_of_blk HXA.out)).trans HXA.out); replace HXB := Aside.mk ((hb2.block _ (lt_of_blk HXB.out)).trans HXB.out); obtain ⟨p0, p1, p2, p3, p4, p5, p6, p7⟩ := box8 HXA.out; obtain ⟨q0, q1, q2, q3, q4, q5, q6, q7⟩ := box8 HXB.out; clear hb2) | (refine (hcb.out _ BW.out).mono ?_; rintro e w2 ⟨rfl, hb2⟩; replace BW := Aside.mk (BW.out.trans (hb2.mono BW.out.size)); replace HXA := Aside.mk ((hb2.block _ (lt_of_blk HXA.out)).trans HXA.out); replace HXB := Aside.mk ((hb2.block _ (lt_of_blk HXB.out)).trans HXB.out); obtain ⟨p0, p1, p2, p3, p4, p5, p6, p7⟩ := box8 HXA.out; obtain ⟨q0, q1, q2, q3, q4, q5, q6, q7⟩ := box8 HXB.out; clear hb2)) | (go_at_call 166; first | (refine (heb.out _ BW.out).mono ?_; rintro e w2 ⟨rfl, hb2⟩; clear heb; replace BW := Aside.mk (BW.out.trans (hb2.mono BW.out.size)); replace HXA := Aside.mk ((hb2.block _ (lt_of_blk HXA.out)).trans HXA.out); replace HXB := Aside.mk ((hb2.block _ (lt_of_blk HXB.out)).trans HXB.out); obtain ⟨p0, p1, p2, p3, p4, p5, p6, p7⟩ := box8 HXA.out; obtain ⟨q0, q1, q2, q3, q4, q5, q6, q7⟩ := box8 HXB.out; clear hb2) | (refine (hed.out _ BW.out).mono ?_; rintro e w2 ⟨rfl, hb2⟩; replace BW := Aside.mk (BW.out.trans (hb2.mono BW.out.size)); replace HXA := Aside.mk ((hb2.block _ (lt_of_blk HXA.out)).trans HXA.out); replace HXB := Aside.mk ((hb2.block _ (lt_of_blk HXB.out)).trans HXB.out); obtain ⟨p0, p1, p2, p3, p4, p5, p6, p7⟩ := box8 HXA.out; obtain ⟨q0, q1, q2, q3, q4, q5, q6, q7⟩ := box8 HXB.out; clear hb2)) | (go_at_call 167; refine (hee.out _ BW.out).mono ?_; rintro e w2 ⟨rfl, hb2⟩; replace BW := Aside.mk (BW.out.trans (hb2.mono BW.out.size)); replace HXA := Aside.mk ((hb2.block _ (lt_of_blk HXA.out)).trans HXA.out); replace HXB := Aside.mk ((hb2.block _ (lt_of_blk HXB.out)).trans HXB.out); obtain ⟨p0, p1, p2, p3, p4, p5, p6, p7⟩ := box8 HXA.out; obtain ⟨q0, q1, q2, q3, q4, q5, q6, q7⟩ := box8 HXB.out; clear hb2) | (go_at_call 168; refine (hew.out _ BW.out).mono ?_; rintro e w2 ⟨rfl, hb2⟩; replace BW := Aside.mk (BW.out.trans (hb2.mono BW.out.size)); replace HXA := Aside.mk ((hb2.block _ (lt_of_blk HXA.out)).trans HXA.out); replace HXB := Aside.mk ((hb2.block _ (lt_of_blk HXB.out)).trans HXB.out); obtain ⟨p0, p1, p2, p3, p4, p5, p6, p7⟩ := box8 HXA.out; obtain ⟨q0, q1, q2, q3, q4, q5, q6, q7⟩ := box8 HXB.out; clear hb2))
    go_ret
    exact ⟨ret_bool HF.out, BW.out⟩
  have h1' : (ra == 0) = true := by simpa using h1
  by_cases h2 : rb = 0
  rotate_left
  · have HF := Aside.mk (show false = sameC a b by rw [HS.out]; simp [h2])
    have h2' : (rb == 0) = false := by simpa using h2
    clear h2
    go_wp2_with (first | (go_at_call 82; first | (refine (hca.out _ BW.out).mono ?_; rintro e w2 ⟨rfl, hb2⟩; clear hca; replace BW := Aside.mk (BW.out.trans (hb2.mono BW.out.size)); replace HXA := Aside.mk ((hb2.block _ (lt_of_blk HXA.out)).trans HXA.out); replace HXB := Aside.mk ((hb2.block _ (lt_of_blk HXB.out)).trans HXB.out); obtain ⟨p0, p1, p2, p3, p4, p5, p6, p7⟩ := box8 HXA.out; obtain ⟨q0, q1, q2, q3, q4, q5, q6, q7⟩ := box8 HXB.out; clear hb2) | (refine (hcb.out _ BW.out).mono ?_; rintro e w2 ⟨rfl, hb2⟩; replace BW := Aside.mk (BW.out.trans (hb2.mono BW.out.size)); replace HXA := Aside.mk ((hb2.block _ (lt_of_blk HXA.out)).trans HXA.out); replace HXB := Aside.mk ((hb2.block _ (lt_of_blk HXB.out)).trans HXB.out); obtain ⟨p0, p1, p2, p3, p4, p5, p6, p7⟩ := box8 HXA.out; obtain ⟨q0, q1, q2, q3, q4, q5, q6, q7⟩ := box8 HXB.out; clear hb2)) | (go_at_call 166; first | (refine (heb.out _ BW.out).mono ?_; rintro e w2 ⟨rfl, hb2⟩; clear heb; replace BW := Aside.mk (BW.out.trans (hb2.mono BW.out.size)); replace HXA := Aside.mk ((hb2.block _ (lt_of_blk HXA.out)).trans HXA.out); replace HXB := Aside.mk ((hb2.block _ (lt_of_blk HXB.out)).trans HXB.out); obtain ⟨p0, p1, p2, p3, p4, p5, p6, p7⟩ := box8 HXA.out; obtain ⟨q0, q1, q2, q3, q4, q5, q6, q7⟩ := box8 HXB.out; clear hb2) | (refine (hed.out _ BW.out).mono ?_; rintro e w2 ⟨rfl, hb2⟩; replace BW := Aside.mk (BW.out.trans (hb2.mono BW.out.size)); replace HXA := Aside.mk ((hb2.block _ (lt_of_blk HXA.out)).trans HXA.out); replace HXB := Aside.mk ((hb2.block _ (lt_of_blk HXB.out)).trans HXB.out); obtain ⟨p0, p1, p2, p3, p4, p5, p6, p7⟩ := box8 HXA.out; obtain ⟨q0, q1, q2, q3, q4, q5, q6, q7⟩ := box8 HXB.out; clear hb2)) | (go_at_call 167; refine (hee.out _ BW.out).mono ?_; rintro e w2 ⟨rfl, hb2⟩; replace BW := Aside.mk (BW.out.trans (hb2.mono BW.out.size)); replace HXA := Aside.mk ((hb2.block _ (lt_of_blk HXA.out)).trans HXA.out); replace HXB := Aside.mk ((hb2.block _ (lt_of_blk HXB.out)).trans HXB.out); obtain ⟨p0, p1, p2, p3, p4, p5, p6, p7⟩ := box8 HXA.out; obtain ⟨q0, q1, q2, q3, q4, q5, q6, q7⟩ := box8 HXB.out; clear hb2) | (go_at_call 168; refine (hew.out _ BW.out).mono ?_; rintro e w2 ⟨rfl, hb2⟩; replace BW := Aside.mk (BW.out.trans (hb2.mono BW.out.size)); replace HXA := Aside.mk ((hb2.block _ (lt_of_blk HXA.out)).trans HXA.out); replace HXB := Aside.mk ((hb2.block _ (lt_of_blk HXB.out)).trans HXB.out); obtain ⟨p0, p1, p2, p3, p4, p5, p6, p7⟩ := box8 HXA.out; obtain ⟨q0, q1, q2, q3, q4, q5, q6, q7⟩ := box8 HXB.out; clear hb2))
    go_ret
    exact ⟨ret_bool HF.out, BW.out⟩
  have h2' : (rb == 0) = true := by simpa using h2
  by_cases h3 : a.k = b.k
  rotate_left
  · have HF := Aside.mk (show false = sameC a b by rw [HS.out]; simp [h3])
    have h3' : (a.k == b.k) = false := by simpa using h3
    clear h3
    go_wp2_with (first | (go_at_call 82; first | (refine (hca.out _ BW.out).mono ?_; rintro e w2 ⟨rfl, hb2⟩; clear hca; replace BW := Aside.mk (BW.out.trans (hb2.mono BW.out.size)); replace HXA := Aside.mk ((hb2.block _ (lt_of_blk HXA.out)).trans HXA.out); replace HXB := Aside.mk ((hb2.block _ (lt_of_blk HXB.out)).trans HXB.out); obtain ⟨p0, p1, p2, p3, p4, p5, p6, p7⟩ := box8 HXA.out; obtain ⟨q0, q1, q2, q3, q4, q5, q6, q7⟩ := box8 HXB.out; clear hb2) | (refine (hcb.out _ BW.out).mono ?_; rintro e w2 ⟨rfl, hb2⟩; replace BW := Aside.mk (BW.out.trans (hb2.mono BW.out.size)); replace HXA := Aside.mk ((hb2.block _ (lt_of_blk HXA.out)).trans HXA.out); replace HXB := Aside.mk ((hb2.block _ (lt_of_blk HXB.out)).trans HXB.out); obtain ⟨p0, p1, p2, p3, p4, p5, p6, p7⟩ := box8 HXA.out; obtain ⟨q0, q1, q2, q3, q4, q5, q6, q7⟩ := box8 HXB.out; clear hb2)) | (go_at_call 166; first | (refine (heb.out _ BW.out).mono ?_; rintro e w2 ⟨rfl, hb2⟩; clear heb; replace BW := Aside.mk (BW.out.trans (hb2.mono BW.out.size)); replace HXA := Aside.mk ((hb2.block _ (lt_of_blk HXA.out)).trans HXA.out); replace HXB := Aside.mk ((hb2.block _ (lt_of_blk HXB.out)).trans HXB.out); obtain ⟨p0, p1, p2, p3, p4, p5, p6, p7⟩ := box8 HXA.out; obtain ⟨q0, q1, q2, q3, q4, q5, q6, q7⟩ := box8 HXB.out; clear hb2) | (refine (hed.out _ BW.out).mono ?_; rintro e w2 ⟨rfl, hb2⟩; replace BW := Aside.mk (BW.out.trans (hb2.mono BW.out.size)); replace HXA := Aside.mk ((hb2.block _ (lt_of_blk HXA.out)).trans HXA.out); replace HXB := Aside.mk ((hb2.block _ (lt_of_blk HXB.out)).trans HXB.out); obtain ⟨p0, p1, p2, p3, p4, p5, p6, p7⟩ := box8 HXA.out; obtain ⟨q0, q1, q2, q3, q4, q5, q6, q7⟩ := box8 HXB.out; clear hb2)) | (go_at_call 167; refine (hee.out _ BW.out).mono ?_; rintro e w2 ⟨rfl, hb2⟩; replace BW := Aside.mk (BW.out.trans (hb2.mono BW.out.size)); replace HXA := Aside.mk ((hb2.block _ (lt_of_blk HXA.out)).trans HXA.out); replace HXB := Aside.mk ((hb2.block _ (lt_of_blk HXB.out)).trans HXB.out); obtain ⟨p0, p1, p2, p3, p4, p5, p6, p7⟩ := box8 HXA.out; obtain ⟨q0, q1, q2, q3, q4, q5, q6, q7⟩ := box8 HXB.out; clear hb2) | (go_at_call 168; refine (hew.out _ BW.out).mono ?_; rintro e w2 ⟨rfl, hb2⟩; replace BW := Aside.mk (BW.out.trans (hb2.mono BW.out.size)); replace HXA := Aside.mk ((hb2.block _ (lt_of_blk HXA.out)).trans HXA.out); replace HXB := Aside.mk ((hb2.block _ (lt_of_blk HXB.out)).trans HXB.out); obtain ⟨p0, p1, p2, p3, p4, p5, p6, p7⟩ := box8 HXA.out; obtain ⟨q0, q1, q2, q3, q4, q5, q6, q7⟩ := box8 HXB.out; clear hb2))
    go_ret
    exact ⟨ret_bool HF.out, BW.out⟩
  have h3' : (a.k == b.k) = true := by simpa using h3
  by_cases h4 : a.s = b.s
  rotate_left
  · have HF := Aside.mk (show false = sameC a b by rw [HS.out]; simp [h4])
    have h4' : (a.s == b.s) = false := by simpa using h4
    clear h4
    go_wp2_with (first | (go_at_call 82; first | (refine (hca.out _ BW.out).mono ?_; rintro e w2 ⟨rfl, hb2⟩; clear hca; replace BW := Aside.mk (BW.out.trans (hb2.mono BW.out.size)); replace HXA := Aside.mk ((hb2.block _ (lt_of_blk HXA.out)).trans HXA.out); replace HXB := Aside.mk ((hb2.block _ (lt_of_blk HXB.out)).trans HXB.out); obtain ⟨p0, p1, p2, p3, p4, p5, p6, p7⟩ := box8 HXA.out; obtain ⟨q0, q1, q2, q3, q4, q5, q6, q7⟩ := box8 HXB.out; clear hb2) | (refine (hcb.out _ BW.out).mono ?_; rintro e w2 ⟨rfl, hb2⟩; replace BW := Aside.mk (BW.out.trans (hb2.mono BW.out.size)); replace HXA := Aside.mk ((hb2.block _ (lt_of_blk HXA.out)).trans HXA.out); replace HXB := Aside.mk ((hb2.block _ (lt_of_blk HXB.out)).trans HXB.out); obtain ⟨p0, p1, p2, p3, p4, p5, p6, p7⟩ := box8 HXA.out; obtain ⟨q0, q1, q2, q3, q4, q5, q6, q7⟩ := box8 HXB.out; clear hb2)) | (go_at_call 166; first | (refine (heb.out _ BW.out).mono ?_; rintro e w2 ⟨rfl, hb2⟩; clear heb; replace BW := Aside.mk (BW.out.trans (hb2.mono BW.out.size)); replace HXA := Aside.mk ((hb2.block _ (lt_of_blk HXA.out)).trans HXA.out); replace HXB := Aside.mk ((hb2.block _ (lt_of_blk HXB.out)).trans HXB.out); obtain ⟨p0, p1, p2, p3, p4, p5, p6, p7⟩ := box8 HXA.out; obtain ⟨q0, q1, q2, q3, q4, q5, q6, q7⟩ := box8 HXB.out; clear hb2) | (refine (hed.out _ BW.out).mono ?_; rintro e w2 ⟨rfl, hb2⟩; replace BW := Aside.mk (BW.out.trans (hb2.mono BW.out.size)); replace HXA := Aside.mk ((hb2.block _ (lt_of_blk HXA.out)).trans HXA.out); replace HXB := Aside.mk ((hb2.block _ (lt_of_blk HXB.out)).trans HXB.out); obtain ⟨p0, p1, p2, p3, p4, p5, p6, p7⟩ := box8 HXA.out; obtain ⟨q0, q1, q2, q3, q4, q5, q6, q7⟩ := box8 HXB.out; clear hb2)) | (go_at_call 167; refine (hee.out _ BW.out).mono ?_; rintro e w2 ⟨rfl, hb2⟩; replace BW := Aside.mk (BW.out.trans (hb2.mono BW.out.size)); replace HXA := Aside.mk ((hb2.block _ (lt_of_blk HXA.out)).trans HXA.out); replace HXB := Aside.mk ((hb2.block _ (lt_of_blk HXB.out)).trans HXB.out); obtain ⟨p0, p1, p2, p3, p4, p5, p6, p7⟩ := box8 HXA.out; obtain ⟨q0, q1, q2, q3, q4, q5, q6, q7⟩ := box8 HXB.out; clear hb2) | (go_at_call 168; refine (hew.out _ BW.out).mono ?_; rintro e w2 ⟨rfl, hb2⟩; replace BW := Aside.mk (BW.out.trans (hb2.mono BW.out.size)); replace HXA := Aside.mk ((hb2.block _ (lt_of_blk HXA.out)).trans HXA.out); replace HXB := Aside.mk ((hb2.block _ (lt_of_blk HXB.out)).trans HXB.out); obtain ⟨p0, p1, p2, p3, p4, p5, p6, p7⟩ := box8 HXA.out; obtain ⟨q0, q1, q2, q3, q4, q5, q6, q7⟩ := box8 HXB.out; clear hb2))
    go_ret
    exact ⟨ret_bool HF.out, BW.out⟩
  have h4' : (a.s == b.s) = true := by simpa using h4
  by_cases h5 : a.n = b.n
  rotate_left
  · have HF := Aside.mk (show false = sameC a b by rw [HS.out]; simp [h5])
    have h5' : (a.n == b.n) = false := by simpa using h5
    clear h5
    go_wp2_with (first | (go_at_call 82; first | (refine (hca.out _ BW.out).mono ?_; rintro e w2 ⟨rfl, hb2⟩; clear hca; replace BW := Aside.mk (BW.out.trans (hb2.mono BW.out.size)); replace HXA := Aside.mk ((hb2.block _ (lt_of_blk HXA.out)).trans HXA.out); replace HXB := Aside.mk ((hb2.block _ (lt_of_blk HXB.out)).trans HXB.out); obtain ⟨p0, p1, p2, p3, p4, p5, p6, p7⟩ := box8 HXA.out; obtain ⟨q0, q1, q2, q3, q4, q5, q6, q7⟩ := box8 HXB.out; clear hb2) | (refine (hcb.out _ BW.out).mono ?_; rintro e w2 ⟨rfl, hb2⟩; replace BW := Aside.mk (BW.out.trans (hb2.mono BW.out.size)); replace HXA := Aside.mk ((hb2.block _ (lt_of_blk HXA.out)).trans HXA.out); replace HXB := Aside.mk ((hb2.block _ (lt_of_blk HXB.out)).trans HXB.out); obtain ⟨p0, p1, p2, p3, p4, p5, p6, p7⟩ := box8 HXA.out; obtain ⟨q0, q1, q2, q3, q4, q5, q6, q7⟩ := box8 HXB.out; clear hb2)) | (go_at_call 166; first | (refine (heb.out _ BW.out).mono ?_; rintro e w2 ⟨rfl, hb2⟩; clear heb; replace BW := Aside.mk (BW.out.trans (hb2.mono BW.out.size)); replace HXA := Aside.mk ((hb2.block _ (lt_of_blk HXA.out)).trans HXA.out); replace HXB := Aside.mk ((hb2.block _ (lt_of_blk HXB.out)).trans HXB.out); obtain ⟨p0, p1, p2, p3, p4, p5, p6, p7⟩ := box8 HXA.out; obtain ⟨q0, q1, q2, q3, q4, q5, q6, q7⟩ := box8 HXB.out; clear hb2) | (refine (hed.out _ BW.out).mono ?_; rintro e w2 ⟨rfl, hb2⟩; replace BW := Aside.mk (BW.out.trans (hb2.mono BW.out.size)); replace HXA := Aside.mk ((hb2.block _ (lt_of_blk HXA.out)).trans HXA.out); replace HXB := Aside.mk ((hb2.block _ (lt_of_blk HXB.out)).trans HXB.out); obtain ⟨p0, p1, p2, p3, p4, p5, p6, p7⟩ := box8 HXA.out; obtain ⟨q0, q1, q2, q3, q4, q5, q6, q7⟩ := box8 HXB.out; clear hb2)) | (go_at_call 167; refine (hee.out _ BW.out).mono ?_; rintro e w2 ⟨rfl, hb2⟩; replace BW := Aside.mk (BW.out.trans (hb2.mono BW.out.size)); replace HXA := Aside.mk ((hb2.block _ (lt_of_blk HXA.out)).trans HXA.out); replace HXB := Aside.mk ((hb2.block _ (lt_of_blk HXB.out)).trans HXB.out); obtain ⟨p0, p1, p2, p3, p4, p5, p6, p7⟩ := box8 HXA.out; obtain ⟨q0, q1, q2, q3, q4, q5, q6, q7⟩ := box8 HXB.out; clear hb2) | (go_at_call 168; refine (hew.out _ BW.out).mono ?_; rintro e w2 ⟨rfl, hb2⟩; replace BW := Aside.mk (BW.out.trans (hb2.mono BW.out.size)); replace HXA := Aside.mk ((hb2.block _ (lt_of_blk HXA.out)).trans HXA.out); replace HXB := Aside.mk ((hb2.block _ (lt_of_blk HXB.out)).trans HXB.out); obtain ⟨p0, p1, p2, p3, p4, p5, p6, p7⟩ := box8 HXA.out; obtain ⟨q0, q1, q2, q3, q4, q5, q6, q7⟩ := box8 HXB.out; clear hb2))
    go_ret
    exact ⟨ret_bool HF.out, BW.out⟩
  have h5' : (a.n == b.n) = true := by simpa using h5
  have h6 : ∀ r : Bool, r = (tb && decide (a.data = b.data) && decide (a.ends = b.ends) && decide (a.words = b.words)) → r = sameC a b := fun r hr => by
    rw [HS.out, hr, HTB.out]
    simp [h1, h2, h3, h4, h5, Bool.and_assoc]
  have H6 := Aside.mk h6
  clear h1 h2 h3 h4 h5 h6
  generalize decide (a.data = b.data) = td at *
  generalize decide (a.ends = b.ends) = te at *
  generalize decide (a.words = b.words) = tw at *
  cases tb with
  | false =>
    go_wp2_with (first | (go_at_call 82; first | (refine (hca.out _ BW.out).mono ?_; rintro e w2 ⟨rfl, hb2⟩; clear hca; replace BW := Aside.mk (BW.out.trans (hb2.mono BW.out.size)); replace HXA := Aside.mk ((hb2.block _ (lt_of_blk HXA.out)).trans HXA.out); replace HXB := Aside.mk ((hb2.block _ (lt_of_blk HXB.out)).trans HXB.out); obtain ⟨p0, p1, p2, p3, p4, p5, p6, p7⟩ := box8 HXA.out; obtain ⟨q0, q1, q2, q3, q4, q5, q6, q7⟩ := box8 HXB.out; clear hb2) | (refine (hcb.out _ BW.out).mono ?_; rintro e w2 ⟨rfl, hb2⟩; replace BW := Aside.mk (BW.out.trans (hb2.mono BW.out.size)); replace HXA := Aside.mk ((hb2.block _ (lt_of_blk HXA.out)).trans HXA.out); replace HXB := Aside.mk ((hb2.block _ (lt_of_blk HXB.out)).trans HXB.out); obtain ⟨p0, p1, p2, p3, p4, p5, p6, p7⟩ := box8 HXA.out; obtain ⟨q0, q1, q2, q3, q4, q5, q6, q7⟩ := box8 HXB.out; clear hb2)) | (go_at_call 166; first | (refine (heb.out _ BW.out).mono ?_; rintro e w2 ⟨rfl, hb2⟩; clear heb; replace BW := Aside.mk (BW.out.trans (hb2.mono BW.out.size)); replace HXA := Aside.mk ((hb2.block _ (lt_of_blk HXA.out)).trans HXA.out); replace HXB := Aside.mk ((hb2.block _ (lt_of_blk HXB.out)).trans HXB.out); obtain ⟨p0, p1, p2, p3, p4, p5, p6, p7⟩ := box8 HXA.out; obtain ⟨q0, q1, q2, q3, q4, q5, q6, q7⟩ := box8 HXB.out; clear hb2) | (refine (hed.out _ BW.out).mono ?_; rintro e w2 ⟨rfl, hb2⟩; replace BW := Aside.mk (BW.out.trans (hb2.mono BW.out.size)); replace HXA := Aside.mk ((hb2.block _ (lt_of_blk HXA.out)).trans HXA.out); replace HXB := Aside.mk ((hb2.block _ (lt_of_blk HXB.out)).trans HXB.out); obtain ⟨p0, p1, p2, p3, p4, p5, p6, p7⟩ := box8 HXA.out; obtain ⟨q0, q1, q2, q3, q4, q5, q6, q7⟩ := box8 HXB.out; clear hb2)) | (go_at_call 167; refine (hee.out _ BW.out).mono ?_; rintro e w2 ⟨rfl, hb2⟩; replace BW := Aside.mk (BW.out.trans (hb2.mono BW.out.size)); replace HXA := Aside.mk ((hb2.block _ (lt_of_blk HXA.out)).trans HXA.out); replace HXB := Aside.mk ((hb2.block _ (lt_of_blk HXB.out)).trans HXB.out); obtain ⟨p0, p1, p2, p3, p4, p5, p6, p7⟩ := box8 HXA.out; obtain ⟨q0, q1, q2, q3, q4, q5, q6, q7⟩ := box8 HXB.out; clear hb2) | (go_at_call 168; refine (hew.out _ BW.out).mono ?_; rintro e w2 ⟨rfl, hb2⟩; replace BW := Aside.mk (BW.out.trans (hb2.mono BW.out.size)); replace HXA := Aside.mk ((hb2.block _ (lt_of_blk HXA.out)).trans HXA.out); replace HXB := Aside.mk ((hb2.block _ (lt_of_blk HXB.out)).trans HXB.out); obtain ⟨p0, p1, p2, p3, p4, p5, p6, p7⟩ := box8 HXA.out; obtain ⟨q0, q1, q2, q3, q4, q5, q6, q7⟩ := box8 HXB.out; clear hb2))
    go_ret
    exact ⟨ret_bool (H6.out _ (by simp)), BW.out⟩
  | true =>
    cases td with
    | false =>
      go_wp2_with (first | (go_at_call 82; first | (refine (hca.out _ BW.out).mono ?_; rintro e w2 ⟨rfl, hb2⟩; clear hca; replace BW := Aside.mk (BW.out.trans (hb2.mono BW.out.size)); replace HXA := Aside.mk ((hb2.block _ (lt_of_blk HXA.out)).trans HXA.out); replace HXB := Aside.mk ((hb2.block _ (lt_of_blk HXB.out)).trans HXB.out); obtain ⟨p0, p1, p2, p3, p4, p5, p6, p7⟩ := box8 HXA.out; obtain ⟨q0, q1, q2, q3, q4, q5, q6, q7⟩ := box8 HXB.out; clear hb2) | (refine (hcb.out _ BW.out).mono ?_; rintro e w2 ⟨rfl, hb2⟩; replace BW := Aside.mk (BW.out.trans (hb2.mono BW.out.size)); replace HXA := Aside.mk ((hb2.block _ (lt_of_blk HXA.out)).trans HXA.out); replace HXB := Aside.mk ((hb2.block _ (lt_of_blk HXB.out)).trans HXB.out); obtain ⟨p0, p1, p2, p3, p4, p5, p6, p7⟩ := box8 HXA.out; obtain ⟨q0, q1, q2, q3, q4, q5, q6, q7⟩ := box8 HXB.out; clear hb2)) | (go_at_call 166; first | (refine (heb.out _ BW.out).mono ?_; rintro e w2 ⟨rfl, hb2⟩; clear heb; replace BW := Aside.mk (BW.out.trans (hb2.mono BW.out.size)); replace HXA := Aside.mk ((hb2.block _ (lt_of_blk HXA.out)).trans HXA.out); replace HXB := Aside.mk ((hb2.block _ (lt_of_blk HXB.out)).trans HXB.out); obtain ⟨p0, p1, p2, p3, p4, p5, p6, p7⟩ := box8 HXA.out; obtain ⟨q0, q1, q2, q3, q4, q5, q6, q7⟩ := box8 HXB.out; clear hb2) | (refine (hed.out _ BW.out).mono ?_; rintro e w2 ⟨rfl, hb2⟩; replace BW := Aside.mk (BW.out.trans (hb2.mono BW.out.size)); replace HXA := Aside.mk ((hb2.block _ (lt_of_blk HXA.out)).trans HXA.out); replace HXB := Aside.mk ((hb2.block _ (lt_of_blk HXB.out)).trans HXB.out); obtain ⟨p0, p1, p2, p3, p4, p5, p6, p7⟩ := box8 HXA.out; obtain ⟨q0, q1, q2, q3, q4, q5, q6, q7⟩ := box8 HXB.out; clear hb2)) | (go_at_call 167; refine (hee.out _ BW.out).mono ?_; rintro e w2 ⟨rfl, hb2⟩; replace BW := Aside.mk (BW.out.trans (hb2.mono BW.out.size)); replace HXA := Aside.mk ((hb2.block _ (lt_of_blk HXA.out)).trans HXA.out); replace HXB := Aside.mk ((hb2.block _ (lt_of_blk HXB.out)).trans HXB.out); obtain ⟨p0, p1, p2, p3, p4, p5, p6, p7⟩ := box8 HXA.out; obtain ⟨q0, q1, q2, q3, q4, q5, q6, q7⟩ := box8 HXB.out; clear hb2) | (go_at_call 168; refine (hew.out _ BW.out).mono ?_; rintro e w2 ⟨rfl, hb2⟩; replace BW := Aside.mk (BW.out.trans (hb2.mono BW.out.size)); replace HXA := Aside.mk ((hb2.block _ (lt_of_blk HXA.out)).trans HXA.out); replace HXB := Aside.mk ((hb2.block _ (lt_of_blk HXB.out)).trans HXB.out); obtain ⟨p0, p1, p2, p3, p4, p5, p6, p7⟩ := box8 HXA.out; obtain ⟨q0, q1, q2, q3, q4, q5, q6, q7⟩ := box8 HXB.out; clear hb2))
      go_ret
      exact ⟨ret_bool (H6.out _ (by simp)), BW.out⟩
    | true =>
      cases te with
      | false =>
        go_wp2_with (first | (go_at_call 82; first | (refine (hca.out _ BW.out).mono ?_; rintro e w2 ⟨rfl, hb2⟩; clear hca; replace BW := Aside.mk (BW.out.trans (hb2.mono BW.out.size)); replace HXA := Aside.mk ((hb2.block _ (lt_of_blk HXA.out)).trans HXA.out); replace HXB := Aside.mk ((hb2.block _ (lt_of_blk HXB.out)).trans HXB.out); obtain ⟨p0, p1, p2, p3, p4, p5, p6, p7⟩ := box8 HXA.out; obtain ⟨q0, q1, q2, q3, q4, q5, q6, q7⟩ := box8 HXB.out; clear hb2) | (refine (hcb.out _ BW.out).mono ?_; rintro e w2 ⟨rfl, hb2⟩; replace BW := Aside.mk (BW.out.trans (hb2.mono BW.out.size)); replace HXA := Aside.mk ((hb2.block _ (lt_of_blk HXA.out)).trans HXA.out); replace HXB := Aside.mk ((hb2.block _ (lt_of_blk HXB.out)).trans HXB.out); obtain ⟨p0, p1, p2, p3, p4, p5, p6, p7⟩ := box8 HXA.out; obtain ⟨q0, q1, q2, q3, q4, q5, q6, q7⟩ := box8 HXB.out; clear hb2)) | (go_at_call 166; first | (refine (heb.out _ BW.out).mono ?_; rintro e w2 ⟨rfl, hb2⟩; clear heb; replace BW := Aside.mk (BW.out.trans (hb2.mono BW.out.size)); replace HXA := Aside.mk ((hb2.block _ (lt_of_blk HXA.out)).trans HXA.out); replace HXB := Aside.mk ((hb2.block _ (lt_of_blk HXB.out)).trans HXB.out); obtain ⟨p0, p1, p2, p3, p4, p5, p6, p7⟩ := box8 HXA.out; obtain ⟨q0, q1, q2, q3, q4, q5, q6, q7⟩ := box8 HXB.out; clear hb2) | (refine (hed.out _ BW.out).mono ?_; rintro e w2 ⟨rfl, hb2⟩; replace BW := Aside.mk (BW.out.trans (hb2.mono BW.out.size)); replace HXA := Aside.mk ((hb2.block _ (lt_of_blk HXA.out)).trans HXA.out); replace HXB := Aside.mk ((hb2.block _ (lt_of_blk HXB.out)).trans HXB.out); obtain ⟨p0, p1, p2, p3, p4, p5, p6, p7⟩ := box8 HXA.out; obtain ⟨q0, q1, q2, q3, q4, q5, q6, q7⟩ := box8 HXB.out; clear hb2)) | (go_at_call 167; refine (hee.out _ BW.out).mono ?_; rintro e w2 ⟨rfl, hb2⟩; replace BW := Aside.mk (BW.out.trans (hb2.mono BW.out.size)); replace HXA := Aside.mk ((hb2.block _ (lt_of_blk HXA.out)).trans HXA.out); replace HXB := Aside.mk ((hb2.block _ (lt_of_blk HXB.out)).trans HXB.out); obtain ⟨p0, p1, p2, p3, p4, p5, p6, p7⟩ := box8 HXA.out; obtain ⟨q0, q1, q2, q3, q4, q5, q6, q7⟩ := box8 HXB.out; clear hb2) | (go_at_call 168; refine (hew.out _ BW.out).mono ?_; rintro e w2 ⟨rfl, hb2⟩; replace BW := Aside.mk (BW.out.trans (hb2.mono BW.out.size)); replace HXA := Aside.mk ((hb2.block _ (lt_of_blk HXA.out)).trans HXA.out); replace HXB := Aside.mk ((hb2.block _ (lt_of_blk HXB.out)).trans HXB.out); obtain ⟨p0, p1, p2, p3, p4, p5, p6, p7⟩ := box8 HXA.out; obtain ⟨q0, q1, q2, q3, q4, q5, q6, q7⟩ := box8 HXB.out; clear hb2))
        go_ret
        exact ⟨ret_bool (H6.out _ (by simp)), BW.out⟩
      | true =>
        go_wp2_with (first | (go_at_call 82; first | (refine (hca.out _ BW.out).mono ?_; rintro e w2 ⟨rfl, hb2⟩; clear hca; replace BW := Aside.mk (BW.out.trans (hb2.mono BW.out.size)); replace HXA := Aside.mk ((hb2.block _ (lt_of_blk HXA.out)).trans HXA.out); replace HXB := Aside.mk ((hb2.block _ (lt_of_blk HXB.out)).trans HXB.out); obtain ⟨p0, p1, p2, p3, p4, p5, p6, p7⟩ := box8 HXA.out; obtain ⟨q0, q1, q2, q3, q4, q5, q6, q7⟩ := box8 HXB.out; clear hb2) | (refine (hcb.out _ BW.out).mono ?_; rintro e w2 ⟨rfl, hb2⟩; replace BW := Aside.mk (BW.out.trans (hb2.mono BW.out.size)); replace HXA := Aside.mk ((hb2.block _ (lt_of_blk HXA.out)).trans HXA.out); replace HXB := Aside.mk ((hb2.block _ (lt_of_blk HXB.out)).trans HXB.out); obtain ⟨p0, p1, p2, p3, p4, p5, p6, p7⟩ := box8 HXA.out; obtain ⟨q0, q1, q2, q3, q4, q5, q6, q7⟩ := box8 HXB.out; clear hb2)) | (go_at_call 166; first | (refine (heb.out _ BW.out).mono ?_; rintro e w2 ⟨rfl, hb2⟩; clear heb; replace BW := Aside.mk (BW.out.trans (hb2.mono BW.out.size)); replace HXA := Aside.mk ((hb2.block _ (lt_of_blk HXA.out)).trans HXA.out); replace HXB := Aside.mk ((hb2.block _ (lt_of_blk HXB.out)).trans HXB.out); obtain ⟨p0, p1, p2, p3, p4, p5, p6, p7⟩ := box8 HXA.out; obtain ⟨q0, q1, q2, q3, q4, q5, q6, q7⟩ := box8 HXB.out; clear hb2) | (refine (hed.out _ BW.out).mono ?_; rintro e w2 ⟨rfl, hb2⟩; replace BW := Aside.mk (BW.out.trans (hb2.mono BW.out.size)); replace HXA := Aside.mk ((hb2.block _ (lt_of_blk HXA.out)).trans HXA.out); replace HXB := Aside.mk ((hb2.block _ (lt_of_blk HXB.out)).trans HXB.out); obtain ⟨p0, p1, p2, p3, p4, p5, p6, p7⟩ := box8 HXA.out; obtain ⟨q0, q1, q2, q3, q4, q5, q6, q7⟩ := box8 HXB.out; clear hb2)) | (go_at_call 167; refine (hee.out _ BW.out).mono ?_; rintro e w2 ⟨rfl, hb2⟩; replace BW := Aside.mk (BW.out.trans (hb2.mono BW.out.size)); replace HXA := Aside.mk ((hb2.block _ (lt_of_blk HXA.out)).trans HXA.out); replace HXB := Aside.mk ((hb2.block _ (lt_of_blk HXB.out)).trans HXB.out); obtain ⟨p0, p1, p2, p3, p4, p5, p6, p7⟩ := box8 HXA.out; obtain ⟨q0, q1, q2, q3, q4, q5, q6, q7⟩ := box8 HXB.out; clear hb2) | (go_at_call 168; refine (hew.out _ BW.out).mono ?_; rintro e w2 ⟨rfl, hb2⟩; replace BW := Aside.mk (BW.out.trans (hb2.mono BW.out.size)); replace HXA := Aside.mk ((hb2.block _ (lt_of_blk HXA.out)).trans HXA.out); replace HXB := Aside.mk ((hb2.block _ (lt_of_blk HXB.out)).trans HXB.out); obtain ⟨p0, p1, p2, p3, p4, p5, p6, p7⟩ := box8 HXA.out; obtain ⟨q0, q1, q2, q3, q4, q5, q6, q7⟩ := box8 HXB.out; clear hb2))
        go_ret
        exact ⟨ret_bool (H6.out _ (by simp)), BW.out⟩
end Go.Proofs.YtmhjjhaipcgbiaaGreat


/- mintageref18.Equal of two columns. -/
namespace Go.Proofs.YtmhjjhaipcgbiaaGreat
open Go.RowKit
set_option linter.unusedVariables false
set_option linter.unusedSimpArgs false
set_option maxRecDepth 100000
set_option maxHeartbeats 4000000

theorem str_eq {xs ys : List Int} (hx : IsBytes xs) (hy : IsBytes ys) : ((strOfNums xs).toList == (strOfNums ys).toList) = decide (xs = ys) := by
  rw [Bool.eq_iff_iff, beq_iff_eq, decide_eq_true_eq, ByteArray.toList_eq, ByteArray.toList_eq, strOfNums_data, strOfNums_data]
  exact ⟨map_byte_inj xs ys hx hy, fun h => by rw [h]⟩

theorem same16 (m1 m2 : Int) (xs ys : List Int) (A B : SL) (hx : IsBytes xs) (hy : IsBytes ys) (w : World) (ha : Rd w 1 (.slice A.a xs.length A.c) xs.length (xs.map (.int .u8))) (hb : Rd w 1 (.slice B.a ys.length B.c) ys.length (ys.map (.int .u8))) :
    Calls Tryz.prog 85 #[.agg #[.int .i64 m1, .slice A.a xs.length A.c], .agg #[.int .i64 m2, .slice B.a ys.length B.c]] w (BoolP (decide (m1 = m2) && decide (xs = ys)) w) := by
  have BW := Aside.mk ((below_new w (.cells #[.int .i64 m1, .slice A.a xs.length A.c] 60)).trans ((below_new _ (.cells #[.int .i64 m2, .slice B.a ys.length B.c] 60)).mono (by simp)))
  have h1 := conv_any A.a _ A.c xs rfl _ (ha.below BW.out)
  have h2 := conv_any B.a _ B.c ys rfl _ (hb.below BW.out)
  have hd := str_eq hx hy
  clear ha hb
  generalize strOfNums xs = sx at *
  generalize strOfNums ys = sy at *
  generalize decide (xs = ys) = r at *
  generalize xs.length = n at *
  generalize ys.length = m at *
  by_cases e : m1 = m2
  · have e1 : (m1 == m2) = true := by simpa using e
    have HF := Aside.mk (show (sx.toList == sy.toList) = (decide (m1 = m2) && r) by rw [hd]; simp [e])
    clear e hd
    go_enter Tryz.func85, Tryz.ntmps85
    go_wp2
    go_ret
    exact ⟨ret_bool HF.out, BW.out⟩
  · have e1 : (m1 == m2) = false := by simpa using e
    have HF := Aside.mk (show false = (decide (m1 = m2) && r) by simp [e])
    clear e hd
    go_enter Tryz.func85, Tryz.ntmps85
    go_wp2
    go_ret
    exact ⟨ret_bool HF.out, BW.out⟩

/-- The same, field by field. -/
def equalC (a b : Col) : Bool := decide (a.k = b.k ∧ a.s = b.s ∧ a.n = b.n ∧ a.m = b.m ∧ a.bits = b.bits ∧ a.data = b.data ∧ a.ends = b.ends ∧ a.words = b.words)
theorem equalC_refl (a : Col) : equalC a a = true := by simp [equalC]

theorem take_extA {α : Type} {xs ys : List α} {i : Nat} (h1 : i < xs.length) (h2 : i < ys.length) (h : xs.take i = ys.take i) (e : xs[i] = ys[i]) : xs.take (i + 1) = ys.take (i + 1) := by
  rw [List.take_succ_eq_append_getElem h1, List.take_succ_eq_append_getElem h2, h, e]
theorem full_extA {α : Type} {xs ys : List α} (hl : xs.length = ys.length) (h : xs.take xs.length = ys.take xs.length) : xs = ys := by
  rw [List.take_length, hl, List.take_length] at h
  exact h
theorem get_nextA {α : Type} {xs ys : List α} {i : Nat} (h1 : i < xs.length) (h2 : i < ys.length) (e : xs[i] ≠ ys[i]) : xs ≠ ys := fun h => e (by subst h; rfl)

theorem equal_col (a b : Col) (ha : COK a) (hb : COK b) (B D E X B2 D2 E2 X2 : SL) (va vb : List Value) (w : World) (h : RdC w a B D E X va) (h2 : RdC w b B2 D2 E2 X2 vb) :
    Calls Tryz.prog 30 #[colV a B D E X, colV b B2 D2 E2 X2] w (BoolP (equalC a b) w) := by
  have BW := Aside.mk ((below_new w (.cells #[.int .i64 a.k, .int .i64 a.s, .int .i64 a.n, .int .i64 a.m, .slice B.a a.bits.length B.c, .slice D.a a.data.length D.c, .slice E.a a.ends.length E.c, .slice X.a a.words.length X.c] 63)).trans ((below_new _ (.cells #[.int .i64 b.k, .int .i64 b.s, .int .i64 b.n, .int .i64 b.m, .slice B2.a b.bits.length B2.c, .slice D2.a b.data.length D2.c, .slice E2.a b.ends.length E2.c, .slice X2.a b.words.length X2.c] 63)).mono (by simp)))
  have HXA := Aside.mk (show ((w.alloc (.cells #[.int .i64 a.k, .int .i64 a.s, .int .i64 a.n, .int .i64 a.m, .slice B.a a.bits.length B.c, .slice D.a a.data.length D.c, .slice E.a a.ends.length E.c, .slice X.a a.words.length X.c] 63)).alloc (.cells #[.int .i64 b.k, .int .i64 b.s, .int .i64 b.n, .int .i64 b.m, .slice B2.a b.bits.length B2.c, .slice D2.a b.data.length D2.c, .slice E2.a b.ends.length E2.c, .slice X2.a b.words.length X2.c] 63)).heap[w.heap.size]? = some (.cells #[.int .i64 a.k, .int .i64 a.s, .int .i64 a.n, .int .i64 a.m, .slice B.a a.bits.length B.c, .slice D.a a.data.length D.c, .slice E.a a.ends.length E.c, .slice X.a a.words.length X.c] 63 (0, 0)) by
    rw [Below.heap_alloc _ _ _ (by simp)]; exact heap_alloc_new w _)
  have HXB := Aside.mk (show ((w.alloc (.cells #[.int .i64 a.k, .int .i64 a.s, .int .i64 a.n, .int .i64 a.m, .slice B.a a.bits.length B.c, .slice D.a a.data.length D.c, .slice E.a a.ends.length E.c, .slice X.a a.words.length X.c] 63)).alloc (.cells #[.int .i64 b.k, .int .i64 b.s, .int .i64 b.n, .int .i64 b.m, .slice B2.a b.bits.length B2.c, .slice D2.a b.data.length D2.c, .slice E2.a b.ends.length E2.c, .slice X2.a b.words.length X2.c] 63)).heap[w.heap.size + 1]? = some (.cells #[.int .i64 b.k, .int .i64 b.s, .int .i64 b.n, .int .i64 b.m, .slice B2.a b.bits.length B2.c, .slice D2.a b.data.length D2.c, .slice E2.a b.ends.length E2.c, .slice X2.a b.words.length X2.c] 63 (0, 0)) by
    simpa using heap_alloc_new (w.alloc (.cells #[.int .i64 a.k, .int .i64 a.s, .int .i64 a.n, .int .i64 a.m, .slice B.a a.bits.length B.c, .slice D.a a.data.length D.c, .slice E.a a.ends.length E.c, .slice X.a a.words.length X.c] 63)) (.cells #[.int .i64 b.k, .int .i64 b.s, .int .i64 b.n, .int .i64 b.m, .slice B2.a b.bits.length B2.c, .slice D2.a b.data.length D2.c, .slice E2.a b.ends.length E2.c, .slice X2.a b.words.length X2.c] 63))
  have HSM := Aside.mk (same16 a.m b.m a.bits b.bits B B2 ha.bits hb.bits _ (h.bits.below BW.out) (h2.bits.below BW.out))
  have HCA := Aside.mk (fun (w2 : World) (hw : Below w.heap.size w w2) => conv_any D.a _ D.c a.data rfl w2 (h.data.below hw))
  have HCB := Aside.mk (fun (w2 : World) (hw : Below w.heap.size w w2) => conv_any D2.a _ D2.c b.data rfl w2 (h2.data.below hw))
  have HDD := Aside.mk (str_eq ha.data hb.data)
  have HS := Aside.mk (show equalC a b = decide (a.k = b.k ∧ a.s = b.s ∧ a.n = b.n ∧ a.m = b.m ∧ a.bits = b.bits ∧ a.data = b.data ∧ a.ends = b.ends ∧ a.words = b.words) from rfl)
  have HR := Aside.mk h
  have HR2 := Aside.mk h2
  have HKA := Aside.mk ha
  have HKB := Aside.mk hb
  clear h h2 ha hb
  dsimp only [colV]
  by_cases q1 : a.k = b.k
  rotate_left
  · have HF := Aside.mk (show false = equalC a b by rw [HS.out]; simp [q1])
    have q1' : (a.k == b.k) = false := by simpa using q1
    have q1'' : (a.k != b.k) = true := by simpa using q1
    clear q1
    go_enter Tryz.func30, Tryz.ntmps30; go_wp2_with (go_at_call 85; refine HSM.out.mono ?_; rintro e w2 ⟨rfl, hb2⟩; replace BW := Aside.mk (below_chain BW.out hb2); have hda := HCA.out _ BW.out; have hdb := HCB.out _ BW.out; replace HXA := Aside.mk ((hb2.block _ (lt_of_blk HXA.out)).trans HXA.out); replace HXB := Aside.mk ((hb2.block _ (lt_of_blk HXB.out)).trans HXB.out); obtain ⟨p0, p1, p2, p3, p4, p5, p6, p7⟩ := box8 HXA.out; obtain ⟨q0, q1, q2, q3, q4, q5, q6, q7⟩ := box8 HXB.out; clear hb2); go_ret; exact ⟨ret_bool HF.out, BW.out⟩
  simp only [q1] at BW HXA HXB HSM ⊢
  by_cases q2 : a.s = b.s
  rotate_left
  · have HF := Aside.mk (show false = equalC a b by rw [HS.out]; simp [q2])
    have q2' : (a.s == b.s) = false := by simpa using q2
    have q2'' : (a.s != b.s) = true := by simpa using q2
    clear q2
    go_enter Tryz.func30, Tryz.ntmps30; go_wp2_with (go_at_call 85; refine HSM.out.mono ?_; rintro e w2 ⟨rfl, hb2⟩; replace BW := Aside.mk (below_chain BW.out hb2); have hda := HCA.out _ BW.out; have hdb := HCB.out _ BW.out; replace HXA := Aside.mk ((hb2.block _ (lt_of_blk HXA.out)).trans HXA.out); replace HXB := Aside.mk ((hb2.block _ (lt_of_blk HXB.out)).trans HXB.out); obtain ⟨p0, p1, p2, p3, p4, p5, p6, p7⟩ := box8 HXA.out; obtain ⟨q0, q1, q2, q3, q4, q5, q6, q7⟩ := box8 HXB.out; clear hb2); go_ret; exact ⟨ret_bool HF.out, BW.out⟩
  simp only [q2] at BW HXA HXB HSM ⊢
  by_cases q3 : a.n = b.n
  rotate_left
  · have HF := Aside.mk (show false = equalC a b by rw [HS.out]; simp [q3])
    have q3' : (a.n == b.n) = false := by simpa using q3
    have q3'' : (a.n != b.n) = true := by simpa using q3
    clear q3
    go_enter Tryz.func30, Tryz.ntmps30; go_wp2_with (go_at_call 85; refine HSM.out.mono ?_; rintro e w2 ⟨rfl, hb2⟩; replace BW := Aside.mk (below_chain BW.out hb2); have hda := HCA.out _ BW.out; have hdb := HCB.out _ BW.out; replace HXA := Aside.mk ((hb2.block _ (lt_of_blk HXA.out)).trans HXA.out); replace HXB := Aside.mk ((hb2.block _ (lt_of_blk HXB.out)).trans HXB.out); obtain ⟨p0, p1, p2, p3, p4, p5, p6, p7⟩ := box8 HXA.out; obtain ⟨q0, q1, q2, q3, q4, q5, q6, q7⟩ := box8 HXB.out; clear hb2); go_ret; exact ⟨ret_bool HF.out, BW.out⟩
  simp only [q3] at BW HXA HXB HSM ⊢
  obtain ⟨tm, htm⟩ : ∃ tm, tm = (decide (a.m = b.m) && decide (a.bits = b.bits)) := ⟨_, rfl⟩
  rw [← htm] at HSM
  have H6 := Aside.mk (fun (r : Bool) (hr : r = (tm && (decide (a.data = b.data) && (decide (a.ends = b.ends) && decide (a.words = b.words))))) => show r = equalC a b by
    rw [HS.out, hr, htm, Bool.eq_iff_iff]
    simp [q1, q2, q3, and_assoc])
  clear q1 q2 q3 htm
  cases tm with
  | false =>
    have HF := Aside.mk (H6.out false (by simp))
    go_enter Tryz.func30, Tryz.ntmps30; go_wp2_with (go_at_call 85; refine HSM.out.mono ?_; rintro e w2 ⟨rfl, hb2⟩; replace BW := Aside.mk (below_chain BW.out hb2); have hda := HCA.out _ BW.out; have hdb := HCB.out _ BW.out; replace HXA := Aside.mk ((hb2.block _ (lt_of_blk HXA.out)).trans HXA.out); replace HXB := Aside.mk ((hb2.block _ (lt_of_blk HXB.out)).trans HXB.out); obtain ⟨p0, p1, p2, p3, p4, p5, p6, p7⟩ := box8 HXA.out; obtain ⟨q0, q1, q2, q3, q4, q5, q6, q7⟩ := box8 HXB.out; clear hb2); go_ret; exact ⟨ret_bool HF.out, BW.out⟩
  | true =>
    by_cases r1 : a.data = b.data
    rotate_left
    · have HF := Aside.mk (H6.out false (by simp [r1]))
      have e1 := HDD.out
      rw [decide_eq_false r1] at e1
      have e2 : ((strOfNums a.data).toList != (strOfNums b.data).toList) = true := by rw [bne, e1]; rfl
      clear r1
      generalize strOfNums a.data = sx at *
      generalize strOfNums b.data = sy at *
      go_enter Tryz.func30, Tryz.ntmps30; go_wp2_with (go_at_call 85; refine HSM.out.mono ?_; rintro e w2 ⟨rfl, hb2⟩; replace BW := Aside.mk (below_chain BW.out hb2); have hda := HCA.out _ BW.out; have hdb := HCB.out _ BW.out; replace HXA := Aside.mk ((hb2.block _ (lt_of_blk HXA.out)).trans HXA.out); replace HXB := Aside.mk ((hb2.block _ (lt_of_blk HXB.out)).trans HXB.out); obtain ⟨p0, p1, p2, p3, p4, p5, p6, p7⟩ := box8 HXA.out; obtain ⟨q0, q1, q2, q3, q4, q5, q6, q7⟩ := box8 HXB.out; clear hb2); go_ret; exact ⟨ret_bool HF.out, BW.out⟩
    have e1 := HDD.out
    rw [decide_eq_true r1] at e1
    have e2 : ((strOfNums a.data).toList != (strOfNums b.data).toList) = false := by rw [bne, e1]; rfl
    have H7 := Aside.mk (fun (r : Bool) (hr : r = (decide (a.ends = b.ends) && decide (a.words = b.words))) => H6.out r (by rw [hr]; simp [r1]))
    clear r1 H6 HDD
    generalize strOfNums a.data = sx at *
    generalize strOfNums b.data = sy at *
    by_cases r2 : a.ends.length = b.ends.length
    rotate_left
    · have HF := Aside.mk (H7.out false (by rw [decide_eq_false (fun e => r2 (by rw [e]))]; simp))
      have f1 : ((a.ends.length : Int) == (b.ends.length : Int)) = false := by rw [beq_eq_false_iff_ne]; omega
      have f2 : ((a.ends.length : Int) != (b.ends.length : Int)) = true := by rw [bne, f1]; rfl
      clear r2
      go_enter Tryz.func30, Tryz.ntmps30; go_wp2_with (go_at_call 85; refine HSM.out.mono ?_; rintro e w2 ⟨rfl, hb2⟩; replace BW := Aside.mk (below_chain BW.out hb2); have hda := HCA.out _ BW.out; have hdb := HCB.out _ BW.out; replace HXA := Aside.mk ((hb2.block _ (lt_of_blk HXA.out)).trans HXA.out); replace HXB := Aside.mk ((hb2.block _ (lt_of_blk HXB.out)).trans HXB.out); obtain ⟨p0, p1, p2, p3, p4, p5, p6, p7⟩ := box8 HXA.out; obtain ⟨q0, q1, q2, q3, q4, q5, q6, q7⟩ := box8 HXB.out; clear hb2); go_ret; exact ⟨ret_bool HF.out, BW.out⟩
    have f1 : ((a.ends.length : Int) == (b.ends.length : Int)) = true := by rw [beq_iff_eq]; omega
    have f2 : ((a.ends.length : Int) != (b.ends.length : Int)) = false := by rw [bne, f1]; rfl
    by_cases r3 : a.words.length = b.words.length
    rotate_left
    · have HF := Aside.mk (H7.out false (by rw [decide_eq_false (fun e => r3 (by rw [e]) : ¬ a.words = b.words)]; simp))
      have g1 : ((a.words.length : Int) == (b.words.length : Int)) = false := by rw [beq_eq_false_iff_ne]; omega
      have g2 : ((a.words.length : Int) != (b.words.length : Int)) = true := by rw [bne, g1]; rfl
      clear r2 r3
      go_enter Tryz.func30, Tryz.ntmps30; go_wp2_with (go_at_call 85; refine HSM.out.mono ?_; rintro e w2 ⟨rfl, hb2⟩; replace BW := Aside.mk (below_chain BW.out hb2); have hda := HCA.out _ BW.out; have hdb := HCB.out _ BW.out; replace HXA := Aside.mk ((hb2.block _ (lt_of_blk HXA.out)).trans HXA.out); replace HXB := Aside.mk ((hb2.block _ (lt_of_blk HXB.out)).trans HXB.out); obtain ⟨p0, p1, p2, p3, p4, p5, p6, p7⟩ := box8 HXA.out; obtain ⟨q0, q1, q2, q3, q4, q5, q6, q7⟩ := box8 HXB.out; clear hb2); go_ret; exact ⟨ret_bool HF.out, BW.out⟩
    have g1 : ((a.words.length : Int) == (b.words.length : Int)) = true := by rw [beq_iff_eq]; omega
    have g2 : ((a.words.length : Int) != (b.words.length : Int)) = false := by rw [bne, g1]; rfl
    have R2 := Aside.mk r2
    have R3 := Aside.mk r3
    have hle := HKA.out.le
    have hlw := HKA.out.lw
    clear r2 r3
    go_enter Tryz.func30, Tryz.ntmps30
    go_wp2_with (go_at_call 85; refine HSM.out.mono ?_; rintro e w2 ⟨rfl, hb2⟩; replace BW := Aside.mk (below_chain BW.out hb2); have hda := HCA.out _ BW.out; have hdb := HCB.out _ BW.out; replace HXA := Aside.mk ((hb2.block _ (lt_of_blk HXA.out)).trans HXA.out); replace HXB := Aside.mk ((hb2.block _ (lt_of_blk HXB.out)).trans HXB.out); obtain ⟨p0, p1, p2, p3, p4, p5, p6, p7⟩ := box8 HXA.out; obtain ⟨q0, q1, q2, q3, q4, q5, q6, q7⟩ := box8 HXB.out; clear hb2)
    clear p0 p1 p2 p3 p4 p5 p6 p7 q0 q1 q2 q3 q4 q5 q6 q7 hda hdb HCA HCB f1 f2 g1 g2 e1 e2
    go_loopw [5] (fun iv wr => ∃ i : Nat, i ≤ a.ends.length ∧ iv = .int .i64 (i : Int) ∧ Aside (Below w2.heap.size w2 wr ∧ a.ends.take i = b.ends.take i)) (fun iv _ => a.ends.length - (intOf iv).toNat)
    case atStart => exact ⟨0, by omega, rfl, ⟨Below.refl _ _, rfl⟩⟩
    case round =>
      obtain ⟨i, hi, rfl, hp⟩ := hrel
      obtain ⟨p0, p1, p2, p3, p4, p5, p6, p7⟩ := box8 ((hp.out.1.block _ (lt_of_blk HXA.out)).trans HXA.out)
      obtain ⟨q0, q1, q2, q3, q4, q5, q6, q7⟩ := box8 ((hp.out.1.block _ (lt_of_blk HXB.out)).trans HXB.out)
      by_cases hlt : i < a.ends.length
      · have hlt2 : i < b.ends.length := by have := R2.out; omega
        obtain ⟨g1, o1, k1, hs, hel, hecap, hc⟩ := rd_get (HR.out.ends.below (below_chain BW.out hp.out.1)) i hlt
        simp only [Value.slice.injEq, true_and] at hs
        obtain ⟨hs1, hs2⟩ := hs
        obtain ⟨g2, o2, k2, hs, hel2, hecap2, hd⟩ := rd_get (HR2.out.ends.below (below_chain BW.out hp.out.1)) i hlt2
        simp only [Value.slice.injEq, true_and] at hs
        obtain ⟨hs3, hs4⟩ := hs
        rw [hs1] at p6
        rw [hs3] at q6
        rw [hs2] at p6
        rw [hs4] at q6
        clear hs1 hs2 hs3 hs4
        have hx : a.ends.getD i 0 = a.ends[i] := by simp [List.getD_eq_getElem?_getD, hlt]
        have hy : b.ends.getD i 0 = b.ends[i] := by simp [List.getD_eq_getElem?_getD, hlt2]
        rw [hx] at hc
        rw [hy] at hd
        have HT := Aside.mk (fun e => take_extA hlt hlt2 hp.out.2 e)
        have HU := Aside.mk (fun e => get_nextA hlt hlt2 e)
        clear hx hy
        generalize a.ends[i] = x at *
        generalize b.ends[i] = y at *
        by_cases hq : x = y
        · have h1 : (x == y) = true := by simpa using hq
          have h2 : (x != y) = false := by simpa using hq
          have HT2 := Aside.mk (HT.out hq)
          clear hq HT HU
          go_wp2_with fail
          go_quiet (fail)
          go_wp2_with fail
          exact ⟨⟨i + 1, by omega, by simp, ⟨hp.out.1.trans (below_drewN _ _ _), HT2.out⟩⟩, by simp [intOf]; omega⟩
        · have h1 : (x == y) = false := by simpa using hq
          have h2 : (x != y) = true := by simpa using hq
          have HF := Aside.mk (H7.out false (by simp [HU.out hq]))
          clear hq HT HU
          go_wp2_with fail
          go_quiet (fail)
          go_wp2_with fail
          go_ret
          exact ⟨ret_bool HF.out, below_chain BW.out (hp.out.1.trans (below_drewN _ _ _))⟩
      · obtain rfl : i = a.ends.length := by omega
        have H8 := Aside.mk (fun (r : Bool) (hr : r = decide (a.words = b.words)) => H7.out r (by rw [hr, full_extA R2.out hp.out.2]; simp))
        clear H7
        have BR := Aside.mk (below_chain BW.out hp.out.1)
        replace HXA := Aside.mk ((hp.out.1.block _ (lt_of_blk HXA.out)).trans HXA.out)
        replace HXB := Aside.mk ((hp.out.1.block _ (lt_of_blk HXB.out)).trans HXB.out)
        go_wp2_with fail
        clear p0 p1 p2 p3 p4 p5 p6 p7 q0 q1 q2 q3 q4 q5 q6 q7
        clear hp
        go_loopw [6] (fun iv wz => ∃ i : Nat, i ≤ a.words.length ∧ iv = .int .i64 (i : Int) ∧ Aside (Below wr.heap.size wr wz ∧ a.words.take i = b.words.take i)) (fun iv _ => a.words.length - (intOf iv).toNat)
        case atStart => exact ⟨0, by omega, rfl, ⟨Below.refl _ _, rfl⟩⟩
        case round =>
          obtain ⟨i, hi, rfl, hp⟩ := hrel
          obtain ⟨p0, p1, p2, p3, p4, p5, p6, p7⟩ := box8 ((hp.out.1.block _ (lt_of_blk HXA.out)).trans HXA.out)
          obtain ⟨q0, q1, q2, q3, q4, q5, q6, q7⟩ := box8 ((hp.out.1.block _ (lt_of_blk HXB.out)).trans HXB.out)
          by_cases hlt : i < a.words.length
          · have hlt2 : i < b.words.length := by have := R3.out; omega
            have BZ := Aside.mk (below_chain BR.out hp.out.1)
            obtain ⟨ta, tc, hv, ht⟩ := (HR.out.each.below BZ.out).2 i _ (List.getElem?_eq_getElem hlt)
            obtain ⟨ua, uc, hu, hr⟩ := (HR2.out.each.below BZ.out).2 i _ (List.getElem?_eq_getElem hlt2)
            have hvl := HR.out.each.1
            have hul := HR2.out.each.1
            obtain ⟨g1, o1, k1, hs, hel, hecap, hc⟩ := (HR.out.words.below BZ.out).some_ (by omega)
            simp only [Value.slice.injEq, true_and] at hs
            obtain ⟨hs1, hs2⟩ := hs
            obtain ⟨g2, o2, k2, hs, hel2, hecap2, hd⟩ := (HR2.out.words.below BZ.out).some_ (by omega)
            simp only [Value.slice.injEq, true_and] at hs
            obtain ⟨hs3, hs4⟩ := hs
            rw [hs1] at p7
            rw [hs3] at q7
            rw [hs2] at p7
            rw [hs4] at q7
            clear hs1 hs2 hs3 hs4
            have hc2 := hc i _ hv
            have hd2 := hd i _ hu
            have hcA := fun n => conv_any ta _ tc a.words[i] rfl (wr.drewN n) (ht.below (below_drewN _ _ n))
            have hcB := fun n => conv_any ua _ uc b.words[i] rfl (wr.drewN n) (hr.below (below_drewN _ _ n))
            have HDD := Aside.mk (str_eq (HKA.out.words _ (List.getElem_mem hlt)).1 (HKB.out.words _ (List.getElem_mem hlt2)).1)
            have HT := Aside.mk (fun e => take_extA hlt hlt2 hp.out.2 e)
            have HU := Aside.mk (fun e => get_nextA hlt hlt2 e)
            clear hc hd hv hu ht hr
            generalize a.words[i] = x at *
            generalize b.words[i] = y at *
            generalize strOfNums x = sx at *
            generalize strOfNums y = sy at *
            by_cases hq : x = y
            · have h1 := HDD.out
              rw [decide_eq_true hq] at h1
              have h2 : (sx.toList != sy.toList) = false := by rw [bne, h1]; rfl
              have HT2 := Aside.mk (HT.out hq)
              clear hq HT HU
              go_wp2_with fail
              go_quiet (fail)
              go_wp2_with fail
              exact ⟨⟨i + 1, by omega, by simp, ⟨hp.out.1.trans (below_drewN _ _ _), HT2.out⟩⟩, by simp [intOf]; omega⟩
            · have h1 := HDD.out
              rw [decide_eq_false hq] at h1
              have h2 : (sx.toList != sy.toList) = true := by rw [bne, h1]; rfl
              have HF := Aside.mk (H8.out false (by simp [HU.out hq]))
              clear hq HT HU
              go_wp2_with fail
              go_quiet (fail)
              go_wp2_with fail
              go_ret
              exact ⟨ret_bool HF.out, BZ.out.trans (below_drewN _ _ _)⟩
          · obtain rfl : i = a.words.length := by omega
            have HF := Aside.mk (H8.out true (by rw [full_extA R3.out hp.out.2]; simp))
            go_wp2_with fail
            go_ret
            exact ⟨ret_bool HF.out, below_chain BR.out hp.out.1⟩
end Go.Proofs.YtmhjjhaipcgbiaaGreat


/- Join, Cut, Append of columns that are built of values. -/
namespace Go.Proofs.YtmhjjhaipcgbiaaGreat
open Go.RowKit
set_option linter.unusedVariables false
set_option linter.unusedSimpArgs false
set_option maxRecDepth 100000
set_option maxHeartbeats 1000000

/-- The column of values. -/
abbrev colOf (k s : Int) (l : List V) : Col := (CS.of k l).col k s

theorem app_of (k : Int) (l r : List V) : CS.app k (CS.of k l) r = CS.of k (l ++ r) := by simp [CS.app, CS.of, List.foldl_append]
theorem app_zero (k : Int) (r : List V) : CS.app k CS.zero r = CS.of k r := rfl
theorem valC_built {k s : Int} {l : List V} {c : Col} (hF : BF k s l c) (hl : ∀ v ∈ l, vOK k s v) (i : Nat) (h : i < l.length) : valC c i = l[i] := by
  have hv := hl _ (List.getElem_mem h)
  unfold valC
  rw [hF.nul i h]
  cases hn : l[i].null with
  | true =>
    obtain ⟨h1, h2⟩ := hv.2.2.1 hn
    rw [if_pos rfl]
    cases hx : l[i] with
    | mk a b t => rw [hx] at hn h1 h2; simp at hn h1 h2; rw [hn, h1, h2]
  | false =>
    rw [if_neg (by simp), hF.val i h hn]
    cases hx : l[i] with
    | mk a b t => rw [hx] at hn; simp at hn; rw [hn]
theorem valsC_built {k s : Int} {l : List V} {c : Col} (hF : BF k s l c) (hl : ∀ v ∈ l, vOK k s v) (n : Nat) (h : n ≤ l.length) : valsC c n = l.take n := by
  refine List.ext_getElem (by rw [valsC_len, List.length_take]; omega) (fun i h1 h2 => ?_)
  rw [valsC_len] at h1
  simp only [valsC, List.getElem_map, List.getElem_range, List.getElem_take]
  exact valC_built hF hl i (by omega)

theorem room_at {k s : Int} {l r : List V} (hf : Few (l ++ r)) (hl : ∀ v ∈ l ++ r, vOK k s v) (i : Nat) (hi : i < r.length) : Room (CS.app k (CS.of k l) (r.take i)) r[i] := by
  have h : l.length + i < (l ++ r).length := by rw [List.length_append]; omega
  have := of_room hf hl h
  rw [List.take_append, List.take_of_length_le (by omega), show l.length + i - l.length = i by omega, List.getElem_append_right (by omega)] at this
  rw [app_of]
  simpa using this
theorem small_of {k s : Int} {l : List V} (hf : Few l) : Small (CS.of k l) := by
  obtain ⟨h1, h2, h3, h4⟩ := of_sizes k l hf.2
  have := hf.1
  exact ⟨by omega, by omega, by omega, by omega, fun t ht => Nat.le_trans (of_words k l hf.2 t ht) (by decide)⟩
theorem few_app {k s : Int} {l r : List V} (h : Few (l ++ r) ∧ ∀ v ∈ l ++ r, vOK k s v) : (Few l ∧ ∀ v ∈ l, vOK k s v) ∧ (Few r ∧ ∀ v ∈ r, vOK k s v) := by
  obtain ⟨⟨h1, h2⟩, h3⟩ := h
  rw [List.length_append] at h1
  exact ⟨⟨⟨by omega, fun v hv => h2 v (List.mem_append_left _ hv)⟩, fun v hv => h3 v (List.mem_append_left _ hv)⟩, ⟨⟨by omega, fun v hv => h2 v (List.mem_append_right _ hv)⟩, fun v hv => h3 v (List.mem_append_right _ hv)⟩⟩

/-- A column of values in a block, its rows in memory from base on. -/
structure HasC (w : World) (base blk : Nat) (c : Col) (B D E X : SL) (vals : List Value) : Prop where
  box : w.heap[blk]? = some (.cells #[.int .i64 c.k, .int .i64 c.s, .int .i64 c.n, .int .i64 c.m, .slice B.a c.bits.length B.c, .slice D.a c.data.length D.c, .slice E.a c.ends.length E.c, .slice X.a c.words.length X.c] 63 (0, 0))
  own : OwnC w base c B D E X vals
theorem HasC.kept {w w' : World} {base blk : Nat} {c : Col} {B D E X : SL} {vals : List Value} {S : Nat → Prop} (h : HasC w base blk c B D E X vals) (hk : Kept S w w') (h1 : ¬ S blk) (h2 : ∀ b, base ≤ b → b < w.heap.size → ¬ S b) : HasC w' base blk c B D E X vals :=
  ⟨(hk.block _ (lt_of_blk h.box) h1).trans h.box, h.own.keptL hk h2⟩
theorem HasC.below {w w' : World} {base blk : Nat} {c : Col} {B D E X : SL} {vals : List Value} (h : HasC w base blk c B D E X vals) (hb : Below w.heap.size w w') : HasC w' base blk c B D E X vals :=
  ⟨(hb.block _ (lt_of_blk h.box)).trans h.box, h.own.below hb⟩

theorem join_of {k s : Int} (ho : okType k s = true) {l r : List V} (hf : Few (l ++ r) ∧ ∀ v ∈ l ++ r, vOK k s v) {b1 b2 : Nat} (B D E X B2 D2 E2 X2 : SL) (va vb : List Value) (w : World) (h : OwnC w b1 (colOf k s l) B D E X va) (h2 : OwnC w b2 (colOf k s r) B2 D2 E2 X2 vb) :
    Calls Tryz.prog 68 #[colV (colOf k s l) B D E X, colV (colOf k s r) B2 D2 E2 X2] w (ColEP (colOf k s (l ++ r)) w) := by
  obtain ⟨⟨f1, o1⟩, f2, o2⟩ := few_app hf
  have F1 := built_facts ho f1 o1
  have F2 := built_facts ho f2 o2
  have v1 := valsC_built F1 o1
  have v2 := valsC_built F2 o2
  have e1 : CS.app k CS.zero (valsC (colOf k s l) l.length) = CS.of k l := by rw [v1 _ (Nat.le_refl _), List.take_length]; rfl
  have e2 : CS.app k (CS.of k l) (valsC (colOf k s r) r.length) = CS.of k (l ++ r) := by rw [v2 _ (Nat.le_refl _), List.take_length, app_of]
  have := join_yes (colOf k s l) (colOf k s r) F1.cok F2.cok B D E X B2 D2 E2 X2 va vb F1.chk F2.chk rfl rfl (own_addr h.data) (own_addr h2.data) l.length r.length F1.n F2.n (fun i hi => by
      show Room (CS.app k CS.zero (valsC (colOf k s l) i)) (valC (colOf k s l) i)
      rw [v1 i (by omega), valC_built F1 o1 i hi]
      have := room_at (l := []) (r := l) (by simpa using f1) (by simpa using o1) i hi
      exact this) (fun i hi => by
      show Room (CS.app k (CS.app k CS.zero (valsC (colOf k s l) l.length)) (valsC (colOf k s r) i)) (valC (colOf k s r) i)
      rw [e1, v2 i (by omega), valC_built F2 o2 i hi]
      exact room_at hf.1 hf.2 i hi) (by
      show Small (CS.app k (CS.app k CS.zero (valsC (colOf k s l) l.length)) (valsC (colOf k s r) r.length))
      rw [e1, e2]; exact small_of (s := s) hf.1) w h.rd h2.rd
  have e3 : CS.app (colOf k s l).k (CS.app (colOf k s l).k CS.zero (valsC (colOf k s l) l.length)) (valsC (colOf k s r) r.length) = CS.of k (l ++ r) := by
    show CS.app k (CS.app k CS.zero (valsC (colOf k s l) l.length)) (valsC (colOf k s r) r.length) = _
    rw [e1, e2]
  rw [e3] at this
  exact this

theorem append_of {k s : Int} (ho : okType k s = true) (S : Nat → Prop) (bl : Nat) {l r : List V} {c : Col} (ec : c = colOf k s r) (hf : Few (l ++ r) ∧ ∀ v ∈ l ++ r, vOK k s v) (B D E X : SL) (va : List Value) (hD : D.a = none ∨ ∃ g off, D.a = some ⟨g, off, none⟩) (w : World) (hb : BS w S bl k s (CS.of k l)) (hcol : ∀ w', Kept S w w' → RdC w' c B D E X va) :
    Calls Tryz.prog 28 #[.pointer (some ⟨bl, 0, none⟩), colV c B D E X] w (StepP S bl k s (CS.of k (l ++ r)) (.int .i64 0) w) := by
  subst ec
  obtain ⟨⟨f1, o1⟩, f2, o2⟩ := few_app hf
  have F2 := built_facts ho f2 o2
  have v2 := valsC_built F2 o2
  have e2 : CS.app k (CS.of k l) (valsC (colOf k s r) r.length) = CS.of k (l ++ r) := by rw [v2 _ (Nat.le_refl _), List.take_length, app_of]
  have := append_BS S bl (colOf k s r) F2.cok B D E X va F2.chk hD r.length F2.n (CS.of k l) (fun i hi => by
      show Room (CS.app k (CS.of k l) (valsC (colOf k s r) i)) (valC (colOf k s r) i)
      rw [v2 i (by omega), valC_built F2 o2 i hi]
      exact room_at hf.1 hf.2 i hi) w hb hcol
  have e3 : CS.app (colOf k s r).k (CS.of k l) (valsC (colOf k s r) r.length) = CS.of k (l ++ r) := e2
  rw [e3] at this
  exact this

theorem cut_of {k s : Int} (ho : okType k s = true) {l : List V} (hf : Few l ∧ ∀ v ∈ l, vOK k s v) {b1 : Nat} (B D E X : SL) (va : List Value) (f t : Nat) (hft : f ≤ t) (ht : t ≤ l.length) (w : World) (h : OwnC w b1 (colOf k s l) B D E X va) :
    Calls Tryz.prog 109 #[colV (colOf k s l) B D E X, .int .i64 (f : Int), .int .i64 (t : Int)] w (ColEP (colOf k s ((l.take t).drop f)) w) := by
  obtain ⟨hf, hl⟩ := hf
  have F := built_facts ho hf hl
  have v := valsC_built F hl
  have hp : ∀ i, i ≤ l.length → pieceC (colOf k s l) f i = (l.take i).drop f := fun i hi => by unfold pieceC; rw [v i hi]
  have hm : ∀ x ∈ (l.take t).drop f, x ∈ l := fun x hx => List.mem_of_mem_take (List.mem_of_mem_drop hx)
  have hf' : Few ((l.take t).drop f) := ⟨by have := hf.1; simp only [List.length_drop, List.length_take]; omega, fun x hx => hf.2 x (hm x hx)⟩
  have := cut_yes (colOf k s l) F.cok B D E X va F.chk (own_addr h.data) l.length F.n f t hft ht (fun i h1 h2 => by
      show Room (CS.app k CS.zero (pieceC (colOf k s l) f i)) (valC (colOf k s l) i)
      rw [hp i (by omega), valC_built F hl i (by omega)]
      have h3 : i - f < (l.drop f).length := by rw [List.length_drop]; omega
      have := room_at (k := k) (s := s) (l := []) (r := l.drop f) ⟨by have := hf.1; simp only [List.nil_append, List.length_drop]; omega, fun x hx => hf.2 x (List.mem_of_mem_drop (by simpa using hx))⟩ (fun x hx => hl x (List.mem_of_mem_drop (by simpa using hx))) (i - f) h3
      rw [List.getElem_drop, show CS.of k [] = CS.zero from rfl] at this
      rw [List.drop_take]
      simpa [show f + (i - f) = i by omega] using this) (by
      show Small (CS.app k CS.zero (pieceC (colOf k s l) f t))
      rw [hp t ht]; exact small_of (s := s) hf') w h.rd
  have e3 : CS.app (colOf k s l).k CS.zero (pieceC (colOf k s l) f t) = CS.of k ((l.take t).drop f) := by rw [hp t ht]; rfl
  rw [e3] at this
  exact this

/-! ### the same, of columns in boxes -/
theorem join_eq {k s : Int} (ho : okType k s = true) {l r : List V} {a b c : Col} (ea : a = colOf k s l) (eb : b = colOf k s r) (ec : c = colOf k s (l ++ r)) (hf : Few (l ++ r) ∧ ∀ v ∈ l ++ r, vOK k s v) {base x y : Nat} {B D E X B2 D2 E2 X2 : SL} {va vb : List Value} {w : World} (h : HasC w base x a B D E X va) (h2 : HasC w base y b B2 D2 E2 X2 vb) :
    Calls Tryz.prog 68 #[colV a B D E X, colV b B2 D2 E2 X2] w (ColEP c w) := by
  subst ea; subst eb; subst ec
  exact join_of ho hf B D E X B2 D2 E2 X2 va vb w h.own h2.own
theorem cut_eq {k s : Int} (ho : okType k s = true) {l : List V} {a c : Col} {f t : Nat} (ea : a = colOf k s l) (ec : c = colOf k s ((l.take t).drop f)) (hf : Few l ∧ ∀ v ∈ l, vOK k s v) (hft : f ≤ t) (ht : t ≤ l.length) {base x : Nat} {B D E X : SL} {va : List Value} {w : World} (h : HasC w base x a B D E X va) :
    Calls Tryz.prog 109 #[colV a B D E X, .int .i64 (f : Int), .int .i64 (t : Int)] w (ColEP c w) := by
  subst ea; subst ec
  exact cut_of ho hf B D E X va f t hft ht w h.own
theorem equal_eq {k s : Int} (ho : okType k s = true) {l : List V} {a b : Col} (ea : a = colOf k s l) (eb : b = colOf k s l) (hf : Few l ∧ ∀ v ∈ l, vOK k s v) {B D E X B2 D2 E2 X2 : SL} {va vb : List Value} {w : World} (h : RdC w a B D E X va) (h2 : RdC w b B2 D2 E2 X2 vb) :
    Calls Tryz.prog 30 #[colV a B D E X, colV b B2 D2 E2 X2] w (BoolP true w) := by
  subst ea; subst eb
  have F := built_facts ho hf.1 hf.2
  have := equal_col _ _ F.cok F.cok B D E X B2 D2 E2 X2 va vb w h h2
  rwa [equalC_refl] at this
theorem check_eq {k s : Int} (ho : okType k s = true) {l : List V} {a : Col} (ea : a = colOf k s l) (hf : Few l ∧ ∀ v ∈ l, vOK k s v) {B D E X : SL} {va : List Value} {w : World} (h : RdC w a B D E X va) :
    Calls Tryz.prog 82 #[colV a B D E X] w (IntP 0 w) := by
  subst ea
  have F := built_facts ho hf.1 hf.2
  have := check_any _ F.cok B D E X va w h
  rwa [F.chk] at this
/-- A builder whose blocks lie behind those of w5. -/
structure B5 (w5 W : World) (bl : Nat) (k s : Int) (l : List V) : Prop where
  bs : BS W (fun b => w5.heap.size ≤ b) bl k s (CS.of k l)
  bel : Below w5.heap.size w5 W
theorem B5.below {w5 W W' : World} {bl : Nat} {k s : Int} {l : List V} (h : B5 w5 W bl k s l) (hb : Below W.heap.size W W') : B5 w5 W' bl k s l := ⟨h.bs.below hb, below_chain h.bel hb⟩
theorem B5.step {w5 W W' : World} {bl : Nat} {k s : Int} {l l' : List V} {r : Value} {e : Ending} (h : B5 w5 W bl k s l) (hs : StepP (fun b => w5.heap.size ≤ b) bl k s (CS.of k l') r W e W') : e = .returned r ∧ B5 w5 W' bl k s l' := by
  obtain ⟨rfl, hb, hk⟩ := hs
  exact ⟨rfl, hb.mono (fun b hb _ => hb.elim id (fun h' => Nat.le_trans h.bel.size h')), h.bel.trans (hk.to_below h.bel.size (fun _ h => h))⟩
theorem append5 {k s : Int} (ho : okType k s = true) {bl : Nat} {l r : List V} {c : Col} (ec : c = colOf k s r) (hf : Few (l ++ r) ∧ ∀ v ∈ l ++ r, vOK k s v) {base x : Nat} {B D E X : SL} {va : List Value} {w5 W : World} (h : HasC w5 base x c B D E X va) (hB : B5 w5 W bl k s l) :
    Calls Tryz.prog 28 #[.pointer (some ⟨bl, 0, none⟩), colV c B D E X] W fun e w' => e = .returned (.int .i64 0) ∧ B5 w5 w' bl k s (l ++ r) :=
  (append_of ho _ bl ec hf B D E X va (own_addr h.own.data) W hB.bs (fun w' hk => (h.own.below (hB.bel.trans (hk.to_below hB.bel.size (fun _ h => h)))).rd)).mono (fun e w' hs => hB.step hs)
theorem few_sub {k s : Int} {v l : List V} (h : Few v ∧ ∀ x ∈ v, vOK k s x) (hl : l.length ≤ v.length) (hm : ∀ x ∈ l, x ∈ v) : Few l ∧ ∀ x ∈ l, vOK k s x :=
  ⟨⟨by have := h.1.1; omega, fun x hx => h.1.2 x (hm x hx)⟩, fun x hx => h.2 x (hm x hx)⟩
theorem column_of {k s : Int} {l : List V} (hf : Few l) (S : Nat → Prop) (bl : Nat) {c : Col} (ec : c = colOf k s l) (w : World) (h : BS w S bl k s (CS.of k l)) : Calls Tryz.prog 34 #[.pointer (some ⟨bl, 0, none⟩)] w (ColBP c w) := by
  subst ec
  obtain ⟨h1, h2, h3, h4, h5⟩ := small_of (k := k) (s := s) hf
  exact column_BS S bl k s (CS.of k l) h1 h2 h3 h4 h5 w h
end Go.Proofs.YtmhjjhaipcgbiaaGreat


/- A builder's first values. Plain. -/
namespace Go.Proofs.YtmhjjhaipcgbiaaGreat
open Go.RowKit
set_option linter.unusedVariables false
set_option linter.unusedSimpArgs false
set_option maxRecDepth 100000
set_option maxHeartbeats 1000000

theorem fold_pre (k : Int) : ∀ (r : List V) (c : CS), ∃ nu da en wo, r.foldl (CS.add k) c = ⟨c.nulls ++ nu, c.data ++ da, c.ends ++ en, c.words ++ wo⟩
  | [], c => ⟨[], [], [], [], by simp⟩
  | v :: r, c => by
    have h1 : ∃ nu da en wo, c.add k v = ⟨c.nulls ++ nu, c.data ++ da, c.ends ++ en, c.words ++ wo⟩ := by
      unfold CS.add
      split
      · exact ⟨[v.null], v.text, [((c.data ++ v.text).length : Int)], [], by simp⟩
      split
      · split
        · exact ⟨[v.null], lows 0 4, [], [], by simp⟩
        · obtain ⟨wo, hw⟩ := addWord_pre c.words v.text
          exact ⟨[v.null], lows (codeOf c.words v.text) 4, [], wo, by rw [hw]; simp⟩
      · exact ⟨[v.null], lows v.bits (widthOf k).toNat, [], [], by simp⟩
    obtain ⟨nu, da, en, wo, h1⟩ := h1
    obtain ⟨nu2, da2, en2, wo2, h2⟩ := fold_pre k r (c.add k v)
    rw [List.foldl_cons, h2, h1]
    exact ⟨nu ++ nu2, da ++ da2, en ++ en2, wo ++ wo2, by simp [List.append_assoc]⟩
theorem of_front (k : Int) (l : List V) (n : Nat) : (CS.of k (l.take n)).nulls = (CS.of k l).nulls.take (CS.of k (l.take n)).nulls.length ∧ (CS.of k (l.take n)).data = (CS.of k l).data.take (CS.of k (l.take n)).data.length ∧
    (CS.of k (l.take n)).ends = (CS.of k l).ends.take (CS.of k (l.take n)).ends.length ∧ (CS.of k (l.take n)).words = (CS.of k l).words.take (CS.of k (l.take n)).words.length := by
  have h : CS.of k l = (l.drop n).foldl (CS.add k) (CS.of k (l.take n)) := by
    unfold CS.of
    rw [← List.foldl_append, List.take_append_drop]
  obtain ⟨nu, da, en, wo, h2⟩ := fold_pre k (l.drop n) (CS.of k (l.take n))
  rw [h, h2]
  exact ⟨by simp, by simp, by simp, by simp⟩
theorem nulls_len (k : Int) (l : List V) : (CS.of k l).nulls.length = l.length := by rw [nulls_of]; simp
theorem fixed_len {k : Int} (h1 : k ≠ 15) (h2 : k ≠ 16) {W : Nat} (hw : widthOf k = (W : Int)) (l : List V) : (CS.of k l).data.length = l.length * W ∧ (CS.of k l).ends = [] ∧ (CS.of k l).words = [] := by
  rw [fixed_of h1 h2]
  refine ⟨?_, rfl, rfl⟩
  show ((l.map (·.bits)).flatMap fun x => lows x (widthOf k).toNat).length = _
  rw [hw, Int.toNat_natCast, flatMap_len _ W (fun x => lows_len x W)]
  simp
theorem coded_len (l : List V) : (CS.of 16 l).data.length = l.length * 4 ∧ (CS.of 16 l).ends = [] ∧ (CS.of 16 l).words = wordsOf [] l := by
  rw [coded_of]
  refine ⟨?_, rfl, rfl⟩
  show ((codesOf [] l).flatMap fun x => lows x 4).length = _
  rw [flatMap_len _ 4 (fun x => lows_len x 4), codes_len]
theorem running_len (l : List V) (n : Nat) (h : n ≤ l.length) : (CS.of 15 (l.take n)).ends.length = n ∧ aheadI (CS.of 15 (l.take n)).ends n = ((CS.of 15 (l.take n)).data.length : Int) ∧ (CS.of 15 (l.take n)).words = [] ∧ (CS.of 15 l).words = [] := by
  have hl : (l.take n).length = n := by rw [List.length_take]; omega
  refine ⟨by rw [(running_ends _).1, hl], ?_, (running_data _).2, (running_data _).2⟩
  rw [running_ahead (l.take n) n (by omega), (running_data _).1, List.take_of_length_le (by omega)]

/-- How many words the first values need: the loop's step. -/
theorem need_step (l : List V) (i : Nat) (h : i < l.length) : (wordsOf [] (l.take (i + 1))).length = if l[i].null then (wordsOf [] (l.take i)).length else max (wordsOf [] (l.take i)).length (codeOf (wordsOf [] (l.take i)) l[i].text + 1) := by
  rw [words_step l [] i h]
  split
  · rfl
  · cases hc : (wordsOf [] (l.take i)).contains l[i].text with
    | true =>
      have := (List.getElem?_eq_some_iff.1 (codeOf_get hc)).1
      rw [addWord_old hc]; omega
    | false => rw [addWord_new hc, codeOf_new hc]; simp
/-- A code lies among the first bytes. -/
theorem need_word (l : List V) (n i : Nat) (hm : l.length ≤ 100000000) (h : i < n) (hn : n ≤ l.length) : wordAt ((CS.of 16 l).data.take (n * 4)) (i * 4) 4 = if (l[i]'(by omega)).null then 0 else codeOf (wordsOf [] (l.take i)) (l[i]'(by omega)).text := by
  have hf := (of_front 16 l n).2.1
  have hl : (l.take n).length = n := by rw [List.length_take]; omega
  rw [(coded_len _).1, hl] at hf
  rw [← hf]
  have := coded_word 0 (l.take n) (by omega) i (by omega)
  rw [List.getElem_take, List.take_take, Nat.min_eq_left (by omega)] at this
  exact this
end Go.Proofs.YtmhjjhaipcgbiaaGreat


/- (*dict.List).Back: the first words stay. -/
namespace Go.Proofs.YtmhjjhaipcgbiaaGreat
open Go.RowKit Go.Maps
set_option linter.unusedVariables false
set_option linter.unusedSimpArgs false
set_option maxRecDepth 100000
set_option maxHeartbeats 1000000

/-- The codes while words are struck, from the n-th on: j are gone. -/
def CX (D : DataW Unit) (ws : List (List Int)) (n j : Nat) : Prop :=
  (∀ t, IsBytes t → Maps.has D (wordKey t) = (ws.take n ++ ws.drop (n + j)).contains t) ∧ ∀ (i : Nat) t, i < n → ws[i]? = some t → D.atKey (wordKey t) (.lit (.int .i64 0)) = .lit (.int .i64 (i : Int))
theorem CX.start {D : DataW Unit} {ws : List (List Int)} (h : codesOK D ws) (n : Nat) : CX D ws n 0 := by
  refine ⟨fun t ht => ?_, fun i t _ hi => h.2 i t hi⟩
  rw [Nat.add_zero, List.take_append_drop]; exact h.1 t ht
theorem CX.done {D : DataW Unit} {ws : List (List Int)} {n j : Nat} (h : CX D ws n j) (hj : ws.length ≤ n + j) : codesOK D (ws.take n) := by
  refine ⟨fun t ht => ?_, fun i t hi => ?_⟩
  · have := h.1 t ht
    rwa [List.drop_eq_nil_of_le hj, List.append_nil] at this
  · rw [List.getElem?_take] at hi
    split at hi
    · exact h.2 i t (by omega) hi
    · cases hi
theorem CX.step {D : DataW Unit} {ws : List (List Int)} {n j : Nat} (h : CX D ws n j) (hn : ws.Nodup) (hb : ∀ t ∈ ws, IsBytes t) (hj : n + j < ws.length) : CX (D.del (wordKey ws[n + j])) ws n (j + 1) ∧ Maps.has D (wordKey ws[n + j]) = true := by
  have hd : ws.drop (n + j) = ws[n + j] :: ws.drop (n + (j + 1)) := by rw [List.drop_eq_getElem_cons hj]; rfl
  have hbt := hb _ (List.getElem_mem hj)
  have hu : (ws.take n ++ ws[n + j] :: ws.drop (n + (j + 1))).Nodup := by
    have h1 : (ws.take n ++ ws.drop (n + j)).Sublist ws := by
      have : ws.take n ++ ws.drop (n + j) = ws.take n ++ (ws.drop n).drop j := by rw [List.drop_drop]
      rw [this]
      conv => rhs; rw [← List.take_append_drop n ws]
      exact List.Sublist.append (List.Sublist.refl _) (List.drop_sublist _ _)
    rw [hd] at h1
    exact h1.nodup hn
  refine ⟨⟨fun t ht => ?_, fun i t hi he => ?_⟩, ?_⟩
  · by_cases e : t = ws[n + j]
    · subst e
      rw [has_del_same]
      rw [List.nodup_append] at hu
      obtain ⟨_, h2, h3⟩ := hu
      rw [List.nodup_cons] at h2
      symm
      rw [Bool.eq_false_iff]
      intro hc
      rw [List.contains_iff_mem] at hc
      rcases List.mem_append.1 hc with h4 | h4
      · exact h3 _ h4 _ (List.mem_cons_self ..) rfl
      · exact h2.1 h4
    · rw [has_del_other (fun e' => e (wordKey_inj ht hbt e')), h.1 t ht, hd]
      rw [Bool.eq_iff_iff, List.contains_iff_mem, List.contains_iff_mem, List.mem_append, List.mem_append, List.mem_cons]
      simp [e]
  · have hne : t ≠ ws[n + j] := by
      rintro rfl
      have h1 := List.getElem?_eq_some_iff.1 he
      obtain ⟨h3, h4⟩ := h1
      have := (List.getElem_inj hn).1 h4
      omega
    rw [atKey_del_other (fun e' => hne (wordKey_inj (hb t (List.mem_of_getElem? he)) hbt e'))]
    exact h.2 i t hi he
  · rw [h.1 _ hbt, hd]
    simp

theorem size_own {w : World} {b n : Nat} {D : DataW Unit} (h : w.ownsMap Tryz.prog 9 (plainElem Tryz.prog 3) b n D) : w.ownsMap Tryz.prog 9 (plainElem Tryz.prog 3) b (Maps.size D) D ∧ Maps.size D ≤ n := by
  obtain ⟨es, clock, hb, F, hs, rfl⟩ := h
  have e : Maps.size (DataW.map ((es.toList.map (Go.WideElems.rg Tryz.prog 9 (plainElem (H := Unit) Tryz.prog 3))).foldr DataW.insert [])) = es.size := by
    rw [size_eq, length_sorted]; simp
  exact ⟨⟨es, clock, hb, F, Nat.le_of_eq e.symm, rfl⟩, by rw [e]; exact hs⟩

/-- What the loop holds. -/
structure DBI (ws : List (List Int)) (mb n j : Nat) (w wr : World) : Prop where
  map : ∃ D : DataW Unit, wr.ownsMap Tryz.prog 9 (plainElem Tryz.prog 3) mb (Maps.size D) D ∧ CX D ws n j ∧ Maps.size D + j ≤ ws.length
  kept : Kept (fun b => b = mb) w wr
theorem DBI.step {ws : List (List Int)} {mb n j : Nat} {w wr : World} (h : DBI ws mb n j w wr) (hn : ws.Nodup) (hb : ∀ t ∈ ws, IsBytes t) (hj : n + j < ws.length) (hl : ws[n + j].length ≤ 100000000) :
    ∃ w1, (∀ ty, (Builtin.delete_ #[210, 9] ty #[.map (some mb), .string (strOfNums ws[n + j])]).run Tryz.prog wr.drew = .ok (.tuple #[]) w1) ∧ DBI ws mb n (j + 1) w w1 := by
  obtain ⟨⟨D, h1, h2, h3⟩, hk⟩ := h
  have hk1 := wordKey_key ws[n + j] (by unfold maxLen; omega)
  obtain ⟨h4, h5⟩ := h2.step hn hb hj
  have hT := h1.tidy string_law
  have hsz := size_del (k := wordKey ws[n + j]) hT
  rw [h5, if_pos rfl] at hsz
  obtain ⟨w1, hr, ho, ht⟩ := h1.drew.drop string_law Tryz.underlying210 hk1 0
  refine ⟨w1, fun ty => ?_, ⟨⟨_, (size_own ho).1, h4, by omega⟩, ?_⟩⟩
  · exact hr
  · exact (hk.trans (Kept.of_below (S := fun b => b = mb) (below_drewN _ _ 1)) (fun _ e _ => e)).trans ((Kept.of_grown ht.grown).mono (fun b e _ => by simpa using e)) (fun _ e _ => e)

def DBackP (T : Nat → Prop) (lw : Nat) (ws : List (List Int)) (w : World) (e : Ending) (w' : World) : Prop := e = .returned (.int .i64 0) ∧ WL w' T lw ws ∧ Kept T w w'

theorem own_len (a : Option Addr) (n m c : Nat) : (Value.slice a n c).ownBlock = (Value.slice a m c).ownBlock := by cases a <;> rfl
/-- The first elements of a row. -/
theorem Own.front {w : World} {base : Nat} {E : TypeId} {sz n c : Nat} {a : Option Addr} {xs : List Value} (h : Own w base E sz (.slice a n c) n xs) {m : Nat} (hm : m ≤ n) : Own w base E sz (.slice a m c) m (xs.take (m * sz)) := by
  rcases h.2 with ⟨e, rfl⟩ | ⟨g, off, cap, cur, e, _⟩
  · cases e
    obtain rfl : m = 0 := by omega
    have : xs = [] := List.eq_nil_of_length_eq_zero (by simpa using h.1)
    subst this
    simpa using Own.nil w base E sz
  · cases e
    have := h.cut (i := 0) (j := m) (Nat.zero_le _) hm
    simpa using this

theorem dback_done {T : Nat → Prop} {lw n mb wc : Nat} {ws : List (List Int)} {wa : Option Addr} {vals : List Value} {D : DataW Unit} {w wr : World} (hn : n ≤ ws.length) (H : WLx w T lw ws (.slice wa ws.length wc) mb vals D) (hI : DBI ws mb n (ws.length - n) w wr) :
    WL (wr.setCell ⟨lw, 0, none⟩ (.slice wa n wc)) T lw (ws.take n) ∧ Kept T w (wr.setCell ⟨lw, 0, none⟩ (.slice wa n wc)) := by
  obtain ⟨⟨D', m1, m2, m3⟩, hk⟩ := hI
  obtain ⟨n0, hm0, _⟩ := H.map
  obtain ⟨es, clk, hmb, _⟩ := hm0
  have hne : mb ≠ lw := map_ne_cells hmb H.blk
  have hb := (hk.block lw (lt_of_blk H.blk) (fun e => hne e.symm)).trans H.blk
  have K2 : Kept (fun b => b = mb ∨ b = lw) w (wr.setCell ⟨lw, 0, none⟩ (.slice wa n wc)) := (hk.mono (fun b e _ => .inl e)).trans (Kept.setCell _ _ _) (fun b e _ => .inr e)
  have hrow : Own wr 0 43 1 (.slice wa ws.length wc) ws.length vals := H.row.kept hk (fun b e h => by
    subst h
    obtain ⟨cur, hg⟩ := own_blk H.row e
    exact map_ne_cells hmb hg rfl)
  have hlen : (ws.take n).length = n := by rw [List.length_take]; omega
  have hvl : vals.length = ws.length := H.words.1
  refine ⟨⟨.slice wa n wc, mb, vals.take n, D', ⟨?_, ⟨Maps.size D', ?_, by rw [hlen]; omega⟩, m2.done (by omega), ?_, ⟨by rw [List.length_take, List.length_take, hvl], ?_⟩, H.tl, H.tm, fun b e => H.tw b (own_len wa n ws.length wc ▸ e), ?_, fun t ht => H.bytes t (List.mem_of_mem_take ht)⟩⟩, K2.mono (fun b e _ => e.elim (fun e => e ▸ H.tm) (fun e => e ▸ H.tl))⟩
  · have := heap_setCell_at (k := 0) hb (.slice wa n wc)
    simpa using this
  · obtain ⟨es', clk', hb', r⟩ := m1
    exact ⟨es', clk', (Below.heap_setCell wr _ _ _ hne).trans hb', r⟩
  · rw [hlen]
    have h1 := hrow.front hn
    rw [Nat.mul_one] at h1
    exact h1.set_other (h1.blk_ne hb (by decide)) _
  · intro i t hi
    rw [List.getElem?_take] at hi
    split at hi
    · obtain ⟨v, h1, h2, h3⟩ := H.words.2 i t hi
      refine ⟨v, by rw [List.getElem?_take, if_pos (by assumption)]; exact h1, h2.kept K2 (fun b e h => ?_), h3⟩
      obtain ⟨cur, hg⟩ := own_blk h2 e
      rcases h with h | h
      · exact map_ne_cells hmb hg h.symm
      · exact blk_ne H.blk hg (by decide) h.symm
    · cases hi
  · exact (List.take_sublist _ _).nodup H.nodup

theorem dback_some (T : Nat → Prop) (lw : Nat) (ws : List (List Int)) (n : Nat) (hn : n ≤ ws.length) (hw : ws.length ≤ 100000000) (hl : ∀ t ∈ ws, t.length ≤ 100000000) (g off wc mb : Nat) (vals : List Value) (D : DataW Unit) (w : World) (h : WLx w T lw ws (.slice (some ⟨g, off, none⟩) ws.length wc) mb vals D) :
    Calls Tryz.prog 89 #[.pointer (some ⟨lw, 0, none⟩), .int .i64 (n : Int)] w (DBackP T lw (ws.take n) w) := by
  have hc0 := cell_blk (k := 0) h.blk
  have hc1 := cell_blk (k := 1) h.blk
  simp at hc0 hc1
  have hcap : ws.length ≤ wc := by
    rcases h.row.2 with ⟨e, _⟩ | ⟨g', off', cap, cur, e, _, _, h5, _⟩
    · cases e
    · cases e; exact h5
  have hmax : wc ≤ 9223372036854775807 := by
    rcases h.row.2 with ⟨e, _⟩ | ⟨g', off', cap, cur, e, _, _, _, h5, _⟩
    · cases e
    · cases e; unfold maxLen at h5; omega
  obtain ⟨n0, hm0, hn0⟩ := h.map
  obtain ⟨hm1, hm2⟩ := size_own hm0
  have HS := Aside.mk (show DBI ws mb n 0 w w from ⟨⟨D, hm1, CX.start h.codes n, by omega⟩, Kept.refl _ _⟩)
  have HNE := Aside.mk (show mb ≠ lw by obtain ⟨es, clk, hmb, _⟩ := hm0; exact map_ne_cells hmb h.blk)
  have HGM := Aside.mk (show g ≠ mb by
    obtain ⟨es, clk, hmb, _⟩ := hm0
    obtain ⟨cur, hg⟩ := own_blk h.row (b := g) rfl
    exact fun e => map_ne_cells hmb hg e.symm)
  have H := Aside.mk h
  have HL := Aside.mk hl
  clear h hm0 hm1 hm2 hl
  by_cases hnc : n < wc
  · go_enter Tryz.func89, Tryz.ntmps89
    go_wp2_with fail
    go_loopw [25] (fun iv wr => ∃ j : Nat, j ≤ ws.length - n ∧ iv = .int .i64 (j : Int) ∧ Aside (DBI ws mb n j w wr)) (fun iv _ => (ws.length - n) - (intOf iv).toNat)
    case atStart => exact ⟨0, by omega, rfl, HS⟩
    case round =>
      obtain ⟨j, hj, rfl, hp⟩ := hrel
      have d0 := hp.out.kept.cell hc0 (fun e => HNE.out e.symm)
      have d1 := hp.out.kept.cell hc1 (fun e => HNE.out e.symm)
      have hf0 := frozen_blk (k := 0) ((hp.out.kept.block lw (lt_of_blk H.out.blk) (fun e => HNE.out e.symm)).trans H.out.blk)
      clear hc0 hc1
      by_cases hlt : j < ws.length - n
      · obtain ⟨v, v1, v2, v3⟩ := H.out.words.2 (n + j) _ (List.getElem?_eq_getElem (by omega))
        obtain ⟨ta, tc, rfl⟩ := v2.form
        obtain ⟨g', o', k', e1, _, _, _, _, hcc, _⟩ := H.out.row.some_ (by omega)
        simp only [Value.slice.injEq, Option.some.injEq, Addr.mk.injEq, and_true, true_and] at e1
        obtain ⟨⟨rfl, rfl⟩, rfl⟩ := e1
        have hx := hp.out.kept.cell (hcc (n + j) _ v1) HGM.out
        rw [← Nat.add_assoc] at hx
        have hxd : wr.cell? ⟨g, off + n + j, none⟩ = some (.slice ta (ws[n + j]'(by omega)).length tc) := hx
        obtain ⟨es, clk, hmb, _⟩ := H.out.map.choose_spec.1
        have hconv := conv_any ta _ tc (ws[n + j]'(by omega)) rfl wr.drew (((v2.rd).kept hp.out.kept (fun b e h => by
          obtain ⟨cur, hg⟩ := own_blk v2 e
          exact map_ne_cells hmb hg h.symm)).below (below_drewN _ _ 1))
        obtain ⟨w1, hdel, hI1⟩ := hp.out.step H.out.nodup H.out.bytes (by omega) (HL.out _ (List.getElem_mem _))
        have HI1 := Aside.mk hI1
        clear hmb hI1 hx hcc v1 v2 v3
        generalize ws[n + j]'(by omega) = tx at *
        generalize strOfNums tx = sx at *
        go_wp2_with fail
        go_region
        go_wp2_with fail
        exact ⟨⟨j + 1, by omega, by simp, HI1⟩, by simp [intOf]; omega⟩
      · obtain rfl : j = ws.length - n := by omega
        obtain ⟨r1, r2⟩ := dback_done hn H.out hp.out
        have HR := Aside.mk (And.intro r1 r2)
        clear r1 r2
        go_wp2_with fail
        go_ret
        exact ⟨rfl, HR.out.1, HR.out.2⟩
  · have hnl : ws.length = n := by omega
    have HNL := Aside.mk hnl
    have HWC := Aside.mk (show n = wc by omega)
    obtain ⟨r1, r2⟩ := dback_done hn H.out (show DBI ws mb n (ws.length - n) w w by rw [hnl, Nat.sub_self]; exact HS.out)
    have HR := Aside.mk (And.intro r1 r2)
    have hf0 := frozen_blk (k := 0) H.out.blk
    clear r1 r2
    have hz : (ws.length : Int) - (n : Int) = 0 := by omega
    obtain rfl : n = wc := by omega
    rw [hnl] at hc0
    have HN2 := hnl
    clear hnl hz HNL
    go_enter Tryz.func89, Tryz.ntmps89
    go_wp2_with fail
    go_loopw [25] (fun iv wr => iv = .int .i64 0 ∧ wr = w) (fun iv _ => 0)
    case atStart => exact ⟨rfl, rfl⟩
    case round =>
      obtain ⟨rfl, rfl⟩ := hrel
      go_wp2_with fail
      go_ret
      exact ⟨rfl, HR.out.1, HR.out.2⟩

theorem dback_any (T : Nat → Prop) (lw : Nat) (ws : List (List Int)) (n : Nat) (hn : n ≤ ws.length) (hw : ws.length ≤ 100000000) (hl : ∀ t ∈ ws, t.length ≤ 100000000) (w : World) (h : WL w T lw ws) :
    Calls Tryz.prog 89 #[.pointer (some ⟨lw, 0, none⟩), .int .i64 (n : Int)] w (DBackP T lw (ws.take n) w) := by
  obtain ⟨wv, mb, vals, D, h⟩ := h
  obtain ⟨a, c, rfl⟩ := h.row.form
  rcases h.row.2 with ⟨e, hz⟩ | ⟨g, off, cap, cur, e, _⟩
  · simp only [Value.slice.injEq] at e
    obtain ⟨rfl, _, rfl⟩ := e
    have hws : ws = [] := List.eq_nil_of_length_eq_zero hz
    subst hws
    obtain rfl : n = 0 := by simpa using hn
    have hc0 := cell_blk (k := 0) h.blk
    have hc1 := cell_blk (k := 1) h.blk
    have hf0 := frozen_blk (k := 0) h.blk
    simp at hc0 hc1
    obtain ⟨n0, hm0, hn0⟩ := h.map
    obtain ⟨hm1, hm2⟩ := size_own hm0
    obtain ⟨r1, r2⟩ := dback_done (n := 0) (Nat.zero_le _) h (wr := w) ⟨⟨D, hm1, CX.start h.codes 0, by simp at hn0 ⊢; omega⟩, Kept.refl _ _⟩
    have HR := Aside.mk (And.intro r1 r2)
    clear r1 r2 h hm0 hm1 hm2 hn0
    go_enter Tryz.func89, Tryz.ntmps89
    go_wp2_with fail
    go_loopw [25] (fun iv wr => iv = .int .i64 0 ∧ wr = w) (fun iv _ => 0)
    case atStart => exact ⟨rfl, rfl⟩
    case round =>
      obtain ⟨rfl, rfl⟩ := hrel
      go_wp2_with fail
      go_ret
      exact ⟨rfl, HR.out.1, HR.out.2⟩
  · cases e
    exact dback_some T lw ws n hn hw hl g off c mb vals D w h
end Go.Proofs.YtmhjjhaipcgbiaaGreat


/- Slicing a slice: its run, whatever the room; what the piece reads. Over any program. -/
namespace Go.Proofs.YtmhjjhaipcgbiaaGreat
open Go.RowKit
set_option linter.unusedSimpArgs false

/-- Where the piece from i on begins. -/
def cutA (a : Option Addr) (c i sz : Nat) : Option Addr := if c = i then a else a.map (·.add (i * sz))
section
variable {P : Program} {T e : TypeId} {sz : Nat}
theorem run_slice_mid (hT : P.underlying T = some (.slice e)) (hs : (P.info? e).map (·.size) = some sz) (a : Option Addr) (n c i j : Nat) (hij : i ≤ j) (hjc : j ≤ c) (w : World) :
    (Instr.slice T (.slice a n c) (some (.int .i64 (i : Int))) (some (.int .i64 (j : Int))) none).run P w = .ok (.slice (cutA a c i sz) (j - i) (c - i)) w := by
  obtain ⟨inf, hi, hz⟩ := Option.map_eq_some_iff.1 hs
  simp [Instr.slice, Instr.sliceBounds, Instr.sliceBound, run_underlying hT, sizeOf, typeInfo, hi, hz, asIntOf, go_sem, hij, hjc, cutA]
theorem run_slice_to (hT : P.underlying T = some (.slice e)) (hs : (P.info? e).map (·.size) = some sz) (a : Option Addr) (n c j : Nat) (hjc : j ≤ c) (w : World) :
    (Instr.slice T (.slice a n c) none (some (.int .i64 (j : Int))) none).run P w = .ok (.slice (cutA a c 0 sz) (j - 0) (c - 0)) w := by
  obtain ⟨inf, hi, hz⟩ := Option.map_eq_some_iff.1 hs
  simp [Instr.slice, Instr.sliceBounds, Instr.sliceBound, run_underlying hT, sizeOf, typeInfo, hi, hz, asIntOf, go_sem, hjc, cutA]
theorem run_slice_from (hT : P.underlying T = some (.slice e)) (hs : (P.info? e).map (·.size) = some sz) (a : Option Addr) (n c i : Nat) (hin : i ≤ n) (w : World) :
    (Instr.slice T (.slice a n c) (some (.int .i64 (i : Int))) none none).run P w = .ok (.slice (cutA a c i sz) (n - i) (c - i)) w := by
  obtain ⟨inf, hi, hz⟩ := Option.map_eq_some_iff.1 hs
  simp [Instr.slice, Instr.sliceBounds, Instr.sliceBound, run_underlying hT, sizeOf, typeInfo, hi, hz, asIntOf, go_sem, hin, cutA]
end

theorem Rd.mid {w : World} {sz n c : Nat} {a : Option Addr} {xs : List Value} (h : Rd w sz (.slice a n c) n xs) {i j : Nat} (hij : i ≤ j) (hjn : j ≤ n) : Rd w sz (.slice (cutA a c i sz) (j - i) (c - i)) (j - i) ((xs.drop (i * sz)).take ((j - i) * sz)) := by
  obtain ⟨hl, a', cap, e, h1, h2, h3, h4⟩ := h
  simp only [Value.slice.injEq, true_and] at e
  obtain ⟨rfl, rfl⟩ := e
  have hi2 : i * sz + (j - i) * sz = j * sz := by rw [← Nat.add_mul]; congr 1; omega
  have hj2 : j * sz ≤ n * sz := Nat.mul_le_mul_right _ hjn
  refine ⟨by rw [List.length_take, List.length_drop, hl]; omega, _, _, rfl, by omega, by omega, fun ea => ?_, fun k u hu => ?_⟩
  · unfold cutA at ea
    split at ea
    · have := h3 ea; omega
    · have := h3 (by simpa using ea); omega
  · have hk := (List.getElem?_eq_some_iff.1 hu).1
    rw [List.length_take, List.length_drop] at hk
    rw [List.getElem?_take, if_pos (by omega), List.getElem?_drop] at hu
    obtain ⟨b, off, rfl, hc⟩ := h4 _ u hu
    have hci : c ≠ i := by
      intro e
      have : j - i = 0 := by omega
      rw [this] at hk; omega
    refine ⟨b, off + i * sz, ?_, by rw [Nat.add_assoc]; exact hc⟩
    rw [cutA, if_neg hci]
    simp [addr_add]
theorem Own.mid {w : World} {base : Nat} {E : TypeId} {sz n c : Nat} {a : Option Addr} {xs : List Value} (h : Own w base E sz (.slice a n c) n xs) {i j : Nat} (hij : i ≤ j) (hjn : j ≤ n) : Own w base E sz (.slice (cutA a c i sz) (j - i) (c - i)) (j - i) ((xs.drop (i * sz)).take ((j - i) * sz)) ∨ (j - i = 0 ∧ c = i) := by
  rcases h.2 with ⟨e, hn⟩ | ⟨g, off, cap, cur, e, _⟩
  · simp only [Value.slice.injEq] at e
    exact .inr ⟨by omega, by omega⟩
  · simp only [Value.slice.injEq, true_and] at e
    obtain ⟨rfl, rfl⟩ := e
    by_cases hci : c = i
    · have hnc : n ≤ c := by
        rcases h.2 with ⟨e, _⟩ | ⟨_, _, _, _, e, _, _, h5, _⟩
        · cases e
        · cases e; exact h5
      exact .inr ⟨by omega, hci⟩
    · refine .inl ?_
      have := h.cut hij hjn
      rw [cutA, if_neg hci]
      simpa [addr_add] using this
end Go.Proofs.YtmhjjhaipcgbiaaGreat


/- (*column.Builder).Back: the first values stay. -/
namespace Go.Proofs.YtmhjjhaipcgbiaaGreat
open Go.RowKit
set_option linter.unusedVariables false
set_option linter.unusedSimpArgs false
set_option maxRecDepth 100000
set_option maxHeartbeats 1000000

theorem assert_fixed3 (v : Value) (w : World) : (Instr.typeAssert (.iface 167 v) 159 165 true).run Tryz.prog w = .ok (.tuple #[.agg #[.int .i64 0], .bool false]) w := by kernel_rfl

theorem own_cap {w : World} {base : Nat} {E : TypeId} {sz n c : Nat} {a : Option Addr} {xs : List Value} (h : Own w base E sz (.slice a n c) n xs) : n ≤ c := by
  rcases h.2 with ⟨e, hn⟩ | ⟨g, off, cap, cur, e, _, _, h5, _⟩
  · cases e; omega
  · cases e; exact h5
theorem own_slice_to {w : World} {base : Nat} {E : TypeId} {sz n c : Nat} {a : Option Addr} {xs : List Value} (h : Own w base E sz (.slice a n c) n xs) {P : Program} {T e : TypeId} (hT : P.underlying T = some (.slice e)) {q : Nat} (hs : (P.info? e).map (·.size) = some q) {m : Nat} (hm : m ≤ n) (W : World) :
    (Instr.slice T (.slice a n c) none (some (.int .i64 (m : Int))) none).run P W = .ok (.slice a m c) W := by
  have := run_slice_to (n := n) hT hs a c m (Nat.le_trans hm (own_cap h)) W
  rw [this]
  have : cutA a c 0 q = a := by
    unfold cutA
    split
    · rfl
    · rcases own_addr h with rfl | ⟨g, off, rfl⟩ <;> simp [addr_add]
  rw [this]; rfl

theorem box6 {w : World} {b : Nat} {x0 x1 x2 x3 x4 x5 : Value} {T : TypeId} (h : w.heap[b]? = some (.cells #[x0, x1, x2, x3, x4, x5] T (0, 0))) : w.cell? ⟨b, 0, none⟩ = some x0 ∧ w.cell? ⟨b, 1, none⟩ = some x1 ∧ w.cell? ⟨b, 2, none⟩ = some x2 ∧ w.cell? ⟨b, 3, none⟩ = some x3 ∧ w.cell? ⟨b, 4, none⟩ = some x4 ∧ w.cell? ⟨b, 5, none⟩ = some x5 := by
  refine ⟨?_, ?_, ?_, ?_, ?_, ?_⟩ <;> (rw [cell_blk h]; rfl)

/-- A row of the builder is laid anew into its cell. -/
theorem IsB.turn_nulls {w : World} {bl lw base : Nat} {k s : Int} {nulls nulls' : List Bool} {data ends : List Int} {nv nv' dv ev : Value} (h : IsB w bl lw base k s nulls data ends nv dv ev) (hown : Own w base 4 1 nv' nulls'.length (nulls'.map .bool)) :
    IsB (w.setCell ⟨bl, 2, none⟩ nv') bl lw base k s nulls' data ends nv' dv ev ∧ Kept (fun b => b = bl) w (w.setCell ⟨bl, 2, none⟩ nv') := by
  obtain ⟨mv, hl⟩ := h.lst
  have hne : bl ≠ lw := blk_ne h.blk hl (by decide)
  refine ⟨⟨by simpa using heap_setCell_at (k := 2) h.blk nv', ⟨mv, by rw [Below.heap_setCell _ _ _ _ (fun e => hne e.symm)]; exact hl⟩, h.bbl, h.blw, hown.set_other (hown.blk_ne h.blk (by decide)) _, h.data.set_other (h.data.blk_ne h.blk (by decide)) _, h.ends.set_other (h.ends.blk_ne h.blk (by decide)) _⟩, Kept.setCell w ⟨bl, 2, none⟩ nv'⟩
theorem IsB.turn_data {w : World} {bl lw base : Nat} {k s : Int} {nulls : List Bool} {data data' ends : List Int} {nv dv dv' ev : Value} (h : IsB w bl lw base k s nulls data ends nv dv ev) (hown : Own w base 5 1 dv' data'.length (data'.map (.int .u8))) :
    IsB (w.setCell ⟨bl, 3, none⟩ dv') bl lw base k s nulls data' ends nv dv' ev ∧ Kept (fun b => b = bl) w (w.setCell ⟨bl, 3, none⟩ dv') := by
  obtain ⟨mv, hl⟩ := h.lst
  have hne : bl ≠ lw := blk_ne h.blk hl (by decide)
  refine ⟨⟨by simpa using heap_setCell_at (k := 3) h.blk dv', ⟨mv, by rw [Below.heap_setCell _ _ _ _ (fun e => hne e.symm)]; exact hl⟩, h.bbl, h.blw, h.nulls.set_other (h.nulls.blk_ne h.blk (by decide)) _, hown.set_other (hown.blk_ne h.blk (by decide)) _, h.ends.set_other (h.ends.blk_ne h.blk (by decide)) _⟩, Kept.setCell w ⟨bl, 3, none⟩ dv'⟩
theorem IsB.turn_ends {w : World} {bl lw base : Nat} {k s : Int} {nulls : List Bool} {data ends ends' : List Int} {nv dv ev ev' : Value} (h : IsB w bl lw base k s nulls data ends nv dv ev) (hown : Own w base 3 1 ev' ends'.length (ends'.map (.int .i64))) :
    IsB (w.setCell ⟨bl, 4, none⟩ ev') bl lw base k s nulls data ends' nv dv ev' ∧ Kept (fun b => b = bl) w (w.setCell ⟨bl, 4, none⟩ ev') := by
  obtain ⟨mv, hl⟩ := h.lst
  have hne : bl ≠ lw := blk_ne h.blk hl (by decide)
  refine ⟨⟨by simpa using heap_setCell_at (k := 4) h.blk ev', ⟨mv, by rw [Below.heap_setCell _ _ _ _ (fun e => hne e.symm)]; exact hl⟩, h.bbl, h.blw, h.nulls.set_other (h.nulls.blk_ne h.blk (by decide)) _, h.data.set_other (h.data.blk_ne h.blk (by decide)) _, hown.set_other (hown.blk_ne h.blk (by decide)) _⟩, Kept.setCell w ⟨bl, 4, none⟩ ev'⟩

theorem own_front {w : World} {base : Nat} {E : TypeId} {n c : Nat} {a : Option Addr} {α : Type} {l : List α} {f : α → Value} (h : Own w base E 1 (.slice a n c) n (l.map f)) {m : Nat} (hm : m ≤ n) : Own w base E 1 (.slice a m c) (l.take m).length ((l.take m).map f) := by
  have hl : l.length = n := by have := h.1; simpa using this
  have := h.front hm
  rw [Nat.mul_one] at this
  rw [List.length_take, Nat.min_eq_left (by omega), List.map_take]
  exact this

/-- What Back leaves of a builder's rows. -/
def BackP (bl lw : Nat) (k s : Int) (nulls : List Bool) (data ends : List Int) (nv dv ev : Value) (w : World) (e : Ending) (w' : World) : Prop :=
  e = .returned (.int .i64 0) ∧ IsB w' bl lw 0 k s nulls data ends nv dv ev ∧ Kept (fun b => b = bl) w w'

theorem back_fixed (bl lw : Nat) (k s : Int) (h1 : (k == 15) = false) (h2 : (k == 16) = false) (W : Nat) (hW : widthOf k = (W : Int)) (hW8 : W ≤ 8) (nulls : List Bool) (data ends : List Int) (na da ea : Option Addr) (nn nc dn dc en ec : Nat) (hnn : nulls.length = nn) (hdn : data.length = dn) (n : Nat) (hn : n ≤ nn) (hd : n * W ≤ dn) (hl : dn ≤ 100000000) (hl2 : nn ≤ 100000000) (w : World)
    (h : IsB w bl lw 0 k s nulls data ends (.slice na nn nc) (.slice da dn dc) (.slice ea en ec)) :
    Calls Tryz.prog 31 #[.pointer (some ⟨bl, 0, none⟩), .int .i64 (n : Int)] w (BackP bl lw k s (nulls.take n) (data.take (n * W)) ends (.slice na n nc) (.slice da (n * W) dc) (.slice ea en ec) w) := by
  subst hnn
  subst hdn
  have hs1 := fun W' => own_slice_to h.nulls Tryz.underlying140 (q := 1) (by kernel_rfl) hn W'
  have hs2 := fun W' => own_slice_to h.data Tryz.underlying43 (q := 1) (by kernel_rfl) hd W'
  obtain ⟨T1, T2⟩ := h.turn_nulls (own_front h.nulls hn)
  obtain ⟨a0, a1, a2, a3, a4, a5⟩ := box6 h.blk
  have hbl := lt_of_blk h.blk
  have hf0 := fun k => frozen_blk (k := k) h.blk
  have H0 := Aside.mk h
  have H1 := Aside.mk T1
  have K1 := Aside.mk T2
  clear h T1 T2
  have ta1 := assert_running
  have ta2 := assert_fixed
  generalize hnn : nulls.length = nn at *
  generalize hdn : data.length = dn at *
  have HNN := Aside.mk hnn
  have HDN := Aside.mk hdn
  clear hnn hdn
  have hmul : IntKind.i64.wrap ((n : Int) * (W : Int)) = ((n * W : Nat) : Int) := by
    have e : (n : Int) * (W : Int) = ((n * W : Nat) : Int) := by simp
    rw [e]
    exact IntWalk.i64_in _ (by omega)
  generalize n * W = m at *
  go_enter Tryz.func31, Tryz.ntmps31
  go_wp2_with (first | (go_at_call 86; refine (of_fixed k s h1 h2 _).mono ?_; rintro e w1 ⟨rfl, rfl⟩; rw [hW]))
  have B3 := Aside.mk (show Below (w.setCell ⟨bl, 2, none⟩ (.slice na n nc)).heap.size (w.setCell ⟨bl, 2, none⟩ (.slice na n nc)) (((w.setCell ⟨bl, 2, none⟩ (.slice na n nc)).alloc (.cells #[.int .i64 k, .int .i64 s] 23)).alloc (.cells #[.int .i64 (W : Int)] 165)) from ((Below.refl _ _).alloc (Nat.le_refl _) _).alloc (by simp) _)
  have hx3 := Aside.mk (show (((w.setCell ⟨bl, 2, none⟩ (.slice na n nc)).alloc (.cells #[.int .i64 k, .int .i64 s] 23)).alloc (.cells #[.int .i64 (W : Int)] 165)).heap[w.heap.size + 1]? = some (.cells #[.int .i64 (W : Int)] 165 (0, 0)) from by
    simpa using heap_alloc_new ((w.setCell ⟨bl, 2, none⟩ (.slice na n nc)).alloc (.cells #[.int .i64 k, .int .i64 s] 23)) (.cells #[.int .i64 (W : Int)] 165))
  generalize (((w.setCell ⟨bl, 2, none⟩ (.slice na n nc)).alloc (.cells #[.int .i64 k, .int .i64 s] 23)).alloc (.cells #[.int .i64 (W : Int)] 165)) = w3 at *
  have H3 := Aside.mk (H1.out.below B3.out)
  have K3 := Aside.mk (K1.out.trans (Kept.of_below (S := fun b => b = bl) B3.out) (fun _ e _ => e))
  have hf3 := fun k => frozen_blk (k := k) H3.out.blk
  clear a0 a1 a2 a3 a4 a5 hf0
  obtain ⟨a0, a1, a2, a3, a4, a5⟩ := box6 H3.out.blk
  have hx := cell_blk (k := 0) hx3.out
  simp at hx
  have HF := Aside.mk (H3.out.turn_data (dv' := .slice da m dc) (data' := data.take m) (own_front (n := dn) (by have := H3.out.data; rw [HDN.out] at this; exact this) hd))
  go_region
  go_wp2
  go_ret
  refine ⟨rfl, (HF.out.1).drewN 1, ?_⟩
  exact K3.out.trans (HF.out.2.trans (Kept.of_below (S := fun b => b = bl) (below_drewN _ _ 1)) (fun _ e _ => e)) (fun _ e _ => e)

theorem back_running (bl lw : Nat) (s : Int) (nulls : List Bool) (data ends : List Int) (na da ea : Option Addr) (nn nc dn dc en ec : Nat) (hnn : nulls.length = nn) (hdn : data.length = dn) (hen : ends.length = en) (n m : Nat) (hn : n ≤ nn) (hne : n ≤ en) (hd : m ≤ dn) (ha : aheadI (ends.take n) n = (m : Int)) (hl : dn ≤ 100000000) (hl2 : nn ≤ 100000000) (hl3 : en ≤ 100000000) (w : World)
    (h : IsB w bl lw 0 15 s nulls data ends (.slice na nn nc) (.slice da dn dc) (.slice ea en ec)) :
    Calls Tryz.prog 31 #[.pointer (some ⟨bl, 0, none⟩), .int .i64 (n : Int)] w (BackP bl lw 15 s (nulls.take n) (data.take m) (ends.take n) (.slice na n nc) (.slice da m dc) (.slice ea n ec) w) := by
  subst hnn
  subst hdn
  subst hen
  have hs1 := fun W' => own_slice_to h.nulls Tryz.underlying140 (q := 1) (by kernel_rfl) hn W'
  have hs2 := fun W' => own_slice_to h.data Tryz.underlying43 (q := 1) (by kernel_rfl) hd W'
  have hs3 := fun W' => own_slice_to h.ends Tryz.underlying61 (q := 1) (by kernel_rfl) hne W'
  obtain ⟨T1, T2⟩ := h.turn_nulls (own_front h.nulls hn)
  obtain ⟨a0, a1, a2, a3, a4, a5⟩ := box6 h.blk
  have hf0 := fun k => frozen_blk (k := k) h.blk
  have H1 := Aside.mk T1
  have K1 := Aside.mk T2
  clear h T1 T2
  have ta1 := assert_running2
  generalize hnn : nulls.length = nn at *
  generalize hdn : data.length = dn at *
  generalize hen : ends.length = en at *
  have HNN := Aside.mk hnn
  have HDN := Aside.mk hdn
  have HEN := Aside.mk hen
  have HA := Aside.mk ha
  clear hnn hdn hen ha
  go_enter Tryz.func31, Tryz.ntmps31
  go_wp2_with (go_at_call 86; refine (of_running s _).mono ?_; rintro e w1 ⟨rfl, rfl⟩; clear hf0 a0 a1 a2 a3 a4 a5; have B3 := Aside.mk (below_new (w.setCell ⟨bl, 2, none⟩ (.slice na n nc)) (.cells #[.int .i64 15, .int .i64 s] 23)); generalize ((w.setCell ⟨bl, 2, none⟩ (.slice na n nc)).alloc (.cells #[.int .i64 15, .int .i64 s] 23)) = w3 at *; have H3 := Aside.mk (H1.out.below B3.out); have K3 := Aside.mk (K1.out.trans (Kept.of_below (S := fun b => b = bl) B3.out) (fun _ e _ => e)); have hf3 := fun k => frozen_blk (k := k) H3.out.blk; have hbl3 := lt_of_blk H3.out.blk; obtain ⟨a0, a1, a2, a3, a4, a5⟩ := box6 H3.out.blk)
  obtain ⟨T3, T4⟩ := H3.out.turn_ends (ev' := .slice ea n ec) (ends' := ends.take n) (own_front (n := en) (by have := H3.out.ends; rw [HEN.out] at this; exact this) hne)
  have B4 := Aside.mk (below_new (w3.setCell ⟨bl, 4, none⟩ (.slice ea n ec)) (.cells #[] 162))
  have K4 := Aside.mk (K3.out.trans T4 (fun _ e _ => e))
  have H4 := Aside.mk (T3.below B4.out)
  clear T3 T4 a0 a1 a2 a3 a4 a5 hbl3
  generalize ((w3.setCell ⟨bl, 4, none⟩ (.slice ea n ec)).alloc (.cells #[] 162)) = w4 at *
  replace K4 := Aside.mk (K4.out.trans (Kept.of_below (S := fun b => b = bl) B4.out) (fun _ e _ => e))
  obtain ⟨a0, a1, a2, a3, a4, a5⟩ := box6 H4.out.blk
  have hlt : (ends.take n).length = n := by have := HEN.out; rw [List.length_take]; omega
  have HC := Aside.mk (show Calls Tryz.prog 87 #[.agg #[.int .i64 0, .int .i64 0, .int .i64 0, .int .i64 0, .slice none 0 0, .slice none 0 0, .slice ea n ec, .slice none 0 0], .int .i64 (n : Int)] w4.drew (IntP (m : Int) w4.drew) from by
    have := cahead_any ⟨0, 0, 0, 0, [], [], ends.take n, []⟩ ⟨none, 0⟩ ⟨none, 0⟩ ⟨ea, ec⟩ ⟨none, 0⟩ n (by show n ≤ (ends.take n).length; omega) (by show (ends.take n).length ≤ _; omega) w4.drew (by
      have := (H4.out.ends.rd).below (below_drewN w4 _ 1)
      rw [hlt] at this
      show Rd w4.drew 1 (.slice ea (ends.take n).length ec) (ends.take n).length _
      rw [hlt]; exact this)
    dsimp only [colV] at this
    rw [hlt, HA.out] at this
    exact this)
  clear hlt
  go_region_law ((refine step_call (P := Tryz.prog) w4.drew (by rfl) 87 [.tmp 57, .tmp 58] _ (by rfl) [.agg #[.int .i64 0, .int .i64 0, .int .i64 0, .int .i64 0, .slice none 0 0, .slice none 0 0, .slice ea n ec, .slice none 0 0], .int .i64 (n : Int)] (by rfl) (fun _ _ => rfl) HC.out ?_; rintro e wc ⟨rfl, hbc⟩; have HBC := Aside.mk (show Below w4.heap.size w4 wc from (below_drewN w4 _ 1).trans hbc); have HX := Aside.mk (H4.out.below HBC.out); obtain ⟨d0, d1, d2, d3, d4, d5⟩ := box6 HX.out.blk; have hf5 := fun k => frozen_blk (k := k) HX.out.blk; clear hbc; refine ⟨_, rfl, ?_⟩))
  all_goals
    obtain ⟨T5, T6⟩ := HX.out.turn_data (dv' := .slice da m dc) (data' := data.take m) (own_front (n := dn) (by have := HX.out.data; rw [HDN.out] at this; exact this) hd)
    have HF := Aside.mk (And.intro T5 T6)
    clear T5 T6
    go_wp2
    go_ret
    refine ⟨rfl, HF.out.1, ?_⟩
    exact (K4.out.trans (Kept.of_below (S := fun b => b = bl) HBC.out) (fun _ e _ => e)).trans HF.out.2 (fun _ e _ => e)

/-- .. and of its words. -/
def BackCP (T : Nat → Prop) (bl lw : Nat) (s : Int) (nulls : List Bool) (data ends : List Int) (ws : List (List Int)) (nv dv ev : Value) (w : World) (e : Ending) (w' : World) : Prop :=
  e = .returned (.int .i64 0) ∧ IsB w' bl lw 0 16 s nulls data ends nv dv ev ∧ WL w' T lw ws ∧ Kept (fun b => b = bl ∨ T b) w w'

theorem back_coded (T : Nat → Prop) (ws : List (List Int)) (q : Nat → Nat) (bl lw : Nat) (s : Int) (nulls : List Bool) (data ends : List Int) (na da ea : Option Addr) (nn nc dn dc en ec : Nat) (hnn : nulls.length = nn) (hdn : data.length = dn) (n : Nat) (hn : n ≤ nn) (hd : n * 4 ≤ dn) (hl : dn ≤ 100000000) (hl2 : nn ≤ 100000000) (hb : IsBytes data) (hq0 : q 0 = 0) (hq1 : ∀ i, i < n → nulls[i]? = some true → q (i + 1) = q i) (hq2 : ∀ i, i < n → nulls[i]? = some false → q (i + 1) = max (q i) (wordAt (data.take (n * 4)) (i * 4) 4 + 1) ∧ wordAt (data.take (n * 4)) (i * 4) 4 ≤ 100000000) (hq3 : ∀ i, i ≤ n → q i ≤ ws.length) (hws : ws.length ≤ 100000000) (hwl : ∀ t ∈ ws, t.length ≤ 100000000) (w : World)
    (h : IsB w bl lw 0 16 s nulls data ends (.slice na nn nc) (.slice da dn dc) (.slice ea en ec)) (hL : WL w T lw ws) (hT : ∀ b, T b → b ≠ bl ∧ (Value.slice na 0 0).ownBlock ≠ some b ∧ (Value.slice da 0 0).ownBlock ≠ some b ∧ (Value.slice ea 0 0).ownBlock ≠ some b) :
    Calls Tryz.prog 31 #[.pointer (some ⟨bl, 0, none⟩), .int .i64 (n : Int)] w (BackCP T bl lw s (nulls.take n) (data.take (n * 4)) ends (ws.take (q n)) (.slice na n nc) (.slice da (n * 4) dc) (.slice ea en ec) w) := by
  subst hnn
  subst hdn
  have hs1 := fun W' => own_slice_to h.nulls Tryz.underlying140 (q := 1) (by kernel_rfl) hn W'
  have hs2 := fun W' => own_slice_to h.data Tryz.underlying43 (q := 1) (by kernel_rfl) hd W'
  obtain ⟨T1, T2⟩ := h.turn_nulls (own_front h.nulls hn)
  obtain ⟨a0, a1, a2, a3, a4, a5⟩ := box6 h.blk
  have hbl := lt_of_blk h.blk
  have hf0 := fun k => frozen_blk (k := k) h.blk
  have H0 := Aside.mk h
  have H1 := Aside.mk T1
  have K1 := Aside.mk T2
  clear h T1 T2
  have HQ1 := Aside.mk hq1
  have HQ2 := Aside.mk hq2
  have HQ3 := Aside.mk hq3
  have HL := Aside.mk hL
  have HT := Aside.mk hT
  have HB := Aside.mk hb
  have HWL := Aside.mk hwl
  clear hq1 hq2 hq3 hL hT hb hwl
  have ta1 := assert_running3
  have ta2 := assert_fixed3
  have ta3 := assert_coded3
  generalize hnn : nulls.length = nn at *
  generalize hdn : data.length = dn at *
  have HNN := Aside.mk hnn
  have HDN := Aside.mk hdn
  clear hnn hdn
  have hmul : IntKind.i64.wrap ((n : Int) * 4) = ((n * 4 : Nat) : Int) := by
    have e : (n : Int) * 4 = ((n * 4 : Nat) : Int) := by simp
    rw [e]
    exact IntWalk.i64_in _ (by omega)
  have hmul0 : (n : Int) * 4 = ((n * 4 : Nat) : Int) := by simp
  generalize hm4 : n * 4 = m at *
  have HM := Aside.mk hm4
  clear hm4
  go_enter Tryz.func31, Tryz.ntmps31
  go_wp2_with (first | (go_at_call 86; refine (of_coded s _).mono ?_; rintro e w1 ⟨rfl, rfl⟩))
  have B3 := Aside.mk (show Below (w.setCell ⟨bl, 2, none⟩ (.slice na n nc)).heap.size (w.setCell ⟨bl, 2, none⟩ (.slice na n nc)) (((w.setCell ⟨bl, 2, none⟩ (.slice na n nc)).alloc (.cells #[  .int .i64 16, .int .i64 s] 23)).alloc (.cells #[.int .i64 4] 167)) from ((Below.refl _ _).alloc (Nat.le_refl _) _).alloc (by simp) _)
  have hx3 := Aside.mk (show (((w.setCell ⟨bl, 2, none⟩ (.slice na n nc)).alloc (.cells #[  .int .i64 16, .int .i64 s] 23)).alloc (.cells #[.int .i64 4] 167)).heap[w.heap.size + 1]? = some (.cells #[.int .i64 4] 167 (0, 0)) from by
    simpa using heap_alloc_new ((w.setCell ⟨bl, 2, none⟩ (.slice na n nc)).alloc (.cells #[  .int .i64 16, .int .i64 s] 23)) (.cells #[.int .i64 4] 167))
  generalize (((w.setCell ⟨bl, 2, none⟩ (.slice na n nc)).alloc (.cells #[  .int .i64 16, .int .i64 s] 23)).alloc (.cells #[.int .i64 4] 167)) = w3 at *
  have H3 := Aside.mk (H1.out.below B3.out)
  have K3 := Aside.mk (K1.out.trans (Kept.of_below (S := fun b => b = bl) B3.out) (fun _ e _ => e))
  have hf3 := fun k => frozen_blk (k := k) H3.out.blk
  clear a0 a1 a2 a3 a4 a5 hf0
  obtain ⟨a0, a1, a2, a3, a4, a5⟩ := box6 H3.out.blk
  have hx := cell_blk (k := 0) hx3.out
  simp at hx
  have HF := Aside.mk (H3.out.turn_data (dv' := .slice da m dc) (data' := data.take m) (own_front (n := dn) (by have := H3.out.data; rw [HDN.out] at this; exact this) hd))
  go_region
  have H5 := Aside.mk ((HF.out.1).drewN 1)
  have K5 := Aside.mk (K3.out.trans (HF.out.2.trans (Kept.of_below (S := fun b => b = bl) (below_drewN _ _ 1)) (fun _ e _ => e)) (fun _ e _ => e))
  have hx5 := Aside.mk (show ((w3.setCell ⟨bl, 3, none⟩ (.slice da m dc)).drew).heap[w.heap.size + 1]? = some (.cells #[.int .i64 4] 167 (0, 0)) from by
    show (w3.setCell ⟨bl, 3, none⟩ (.slice da m dc)).heap[w.heap.size + 1]? = _
    rw [Below.heap_setCell _ _ _ _ (by simp; omega)]
    exact hx3.out)
  have e1 : ∀ W : World, W.drewN 1 = W.drew := fun _ => rfl
  rw [e1] at H5 K5
  clear HF H3 K3 hx3 B3 hf3 a0 a1 a2 a3 a4 a5 hx e1
  generalize (w3.setCell ⟨bl, 3, none⟩ (.slice da m dc)).drew = w5 at *
  obtain ⟨a0, a1, a2, a3, a4, a5⟩ := box6 H5.out.blk
  go_wp2_with fail
  have hm8 : m ≤ 100000000 := by omega
  clear a0 a1 a2 a3 a4 a5 hs1 hs2 ta1 ta2 ta3 hmul hmul0
  go_loopw [8, 99] (fun qv iv wr => ∃ i : Nat, i ≤ n ∧ iv = .int .i64 (i : Int) ∧ qv = .int .i64 (q i : Int) ∧ Aside (Below w5.heap.size w5 wr)) (fun _ iv _ => n - (intOf iv).toNat)
  case atStart => exact ⟨0, by omega, rfl, by rw [hq0]; rfl, ⟨Below.refl _ _⟩⟩
  case round =>
    obtain ⟨i, hi, rfl, rfl, hp⟩ := hrel
    have HR := Aside.mk (H5.out.below hp.out)
    obtain ⟨a0, a1, a2, a3, a4, a5⟩ := box6 HR.out.blk
    by_cases hlt : i < n
    · have hnl : (nulls.take n).length = n := by have := HNN.out; rw [List.length_take]; omega
      have hrn := HR.out.nulls.rd
      rw [hnl] at hrn
      obtain ⟨g, off, cap, e, hl1, hl2', hcc⟩ := hrn.some_ (by rw [List.length_map]; omega)
      simp only [Value.slice.injEq, true_and] at e
      obtain ⟨e1, e2⟩ := e
      subst e1 e2
      have hil : i < nulls.length := by have := HNN.out; omega
      have hci : wr.cell? ⟨g, off + i, none⟩ = some (.bool nulls[i]) := hcc i _ (by rw [List.getElem?_map, List.getElem?_take, if_pos hlt, List.getElem?_eq_getElem hil]; rfl)
      have hgi : nulls[i]? = some nulls[i] := List.getElem?_eq_getElem hil
      clear hcc hrn
      generalize nulls[i] = bv at *
      cases bv with
      | true =>
        have HE := Aside.mk (HQ1.out i hlt hgi)
        clear hgi
        go_wp2_with fail
        exact ⟨⟨i + 1, by omega, by simp, by rw [HE.out], hp⟩, by simp [intOf]; omega⟩
      | false =>
        obtain ⟨he1, he2⟩ := HQ2.out i hlt hgi
        have HE := Aside.mk he1
        have hxb := (hp.out.block _ (lt_of_blk hx5.out)).trans hx5.out
        have hx0 := cell_blk (k := 0) hxb
        simp at hx0
        have hdl : (data.take m).length = m := by have := HDN.out; rw [List.length_take]; omega
        have HC := Aside.mk (show Calls Tryz.prog 88 #[.agg #[.int .i64 4], .agg #[.int .i64 0, .int .i64 0, .int .i64 0, .int .i64 0, .slice none 0 0, .slice da m dc, .slice none 0 0, .slice none 0 0], .int .i64 (i : Int)] wr.drew (U64P (wordAt (data.take m) (i * 4) 4) wr.drew) from by
          have := fword_any 4 (.inr (.inr (.inl rfl))) ⟨0, 0, 0, 0, [], data.take m, [], []⟩ ⟨none, 0⟩ ⟨da, dc⟩ ⟨none, 0⟩ ⟨none, 0⟩ i (by show i * 4 + 4 ≤ (data.take m).length; have := HM.out; omega) (fun x hx => HB.out x (List.mem_of_mem_take hx)) (by show (data.take m).length ≤ _; omega) wr.drew (by
            have := (HR.out.data.rd).below (below_drewN wr _ 1)
            rw [hdl] at this
            show Rd wr.drew 1 (.slice da (data.take m).length dc) (data.take m).length _
            rw [hdl]; exact this)
          dsimp only [colV] at this
          rw [hdl] at this
          exact this)
        generalize wordAt (data.take m) (i * 4) 4 = y at *
        have hwr : IntKind.i64.wrap (y : Int) = (y : Int) := IntWalk.i64_in _ (by omega)
        have hws2 : IntKind.i64.wrap ((y : Int) + 1) = (y : Int) + 1 := IntWalk.i64_in _ (by omega)
        have hq8 := HQ3.out i hi
        clear he1 hgi hdl hnl
        go_wp2_with fail
        go_region_law ((refine step_call (P := Tryz.prog) wr.drew (by rfl) 88 [.tmp 108, .tmp 113, .tmp 114] _ (by rfl) [.agg #[.int .i64 4], .agg #[.int .i64 0, .int .i64 0, .int .i64 0, .int .i64 0, .slice none 0 0, .slice da m dc, .slice none 0 0, .slice none 0 0], .int .i64 (i : Int)] (by rfl) (fun _ _ => rfl) HC.out ?_; rintro e wc ⟨rfl, hbc⟩; have HBC := Aside.mk (show Below w5.heap.size w5 wc from below_chain (hp.out.trans (below_drewN wr _ 1)) hbc); clear hbc; refine ⟨_, rfl, ?_⟩))
        all_goals
          go_wp2_with fail
          refine ⟨⟨i + 1, by omega, by simp, ?_, HBC⟩, by simp [intOf]; omega⟩
          rw [HE.out]
          congr 1
          split <;> omega
    · have hin : n = i := by omega
      subst hin
      have HDB := Aside.mk (dback_any T lw ws (q n) (HQ3.out n (Nat.le_refl _)) hws HWL.out wr ((HL.out.kept K5.out (fun b hb _ => (HT.out b hb).1)).below hp.out))
      go_wp2_with (go_at_call 89; refine HDB.out.mono ?_; rintro e w7 ⟨rfl, hl7, hk7⟩; have H7 := Aside.mk (And.intro hl7 hk7); clear hl7 hk7)
      go_ret
      have ho : ∀ (a : Option Addr) (x y : Nat), (Value.slice a x y).ownBlock = (Value.slice a 0 0).ownBlock := fun a _ _ => by cases a <;> rfl
      refine ⟨rfl, HR.out.kept H7.out.2 (fun h => (HT.out _ h).1 rfl) (fun b hb h => ?_) H7.out.1.lst, H7.out.1, ?_⟩
      · obtain ⟨_, h2, h3, h4⟩ := HT.out _ h
        rw [ho na, ho da, ho ea] at hb
        rcases hb with e | e | e
        · exact h2 e
        · exact h3 e
        · exact h4 e
      · exact ((K5.out.trans (Kept.of_below (S := fun b => b = bl) hp.out) (fun _ e _ => e)).mono (fun b e _ => .inl e)).trans H7.out.2 (fun b e _ => .inr e)

theorem own_len0 (a : Option Addr) (x y : Nat) : (Value.slice a x y).ownBlock = (Value.slice a 0 0).ownBlock := by cases a <;> rfl
theorem back_BS (S : Nat → Prop) (bl : Nat) (k s : Int) (l : List V) (ho : okType k s = true) (hf : Few l) (hl : ∀ v ∈ l, vOK k s v) (n : Nat) (hn : n ≤ l.length) (w : World) (h : BS w S bl k s (CS.of k l)) :
    Calls Tryz.prog 31 #[.pointer (some ⟨bl, 0, none⟩), .int .i64 (n : Int)] w (StepP S bl k s (CS.of k (l.take n)) (.int .i64 0) w) := by
  obtain ⟨lw, nv, dv, ev, T, h⟩ := h
  obtain ⟨na, nc, rfl⟩ := h.b.nulls.form
  obtain ⟨da, dc, rfl⟩ := h.b.data.form
  obtain ⟨ea, ec, rfl⟩ := h.b.ends.form
  obtain ⟨s1, s2, s3, s4⟩ := of_sizes k l hf.2
  have hwl := of_words k l hf.2
  obtain ⟨f1, f2, f3, f4⟩ := of_front k l n
  have hll : (l.take n).length = n := by rw [List.length_take]; omega
  have h20 := hf.1
  rw [nulls_len, hll] at f1
  have fin : ∀ (m q : Nat) (e : Ending) (w' : World), (CS.of k l).data.take m = (CS.of k (l.take n)).data → e = .returned (.int .i64 0) → (∃ x, IsB w' bl lw 0 k s ((CS.of k l).nulls.take n) ((CS.of k l).data.take m) (CS.of k (l.take n)).ends (.slice na n nc) (.slice da m dc) (.slice ea x ec)) → WL w' T lw (CS.of k (l.take n)).words → Kept (fun b => b = bl ∨ T b) w w' → StepP S bl k s (CS.of k (l.take n)) (.int .i64 0) w e w' := by
    rintro m q e w' hd rfl ⟨x, hb⟩ hL hk
    rw [hd, ← f1] at hb
    refine ⟨rfl, ⟨lw, _, _, _, T, hb, hL, fun y hy => ?_, .inl h.sb, fun y hy => .inl (h.sn y ?_)⟩, hk.mono (fun b e _ => e.elim (fun e => e ▸ h.sb) (fun e => (h.ts b e).1))⟩
    · obtain ⟨a0, a1, a2, a3, a4, a5⟩ := h.ts y hy
      rw [own_len0] at a3 a4 a5
      exact ⟨.inl a0, Nat.lt_of_lt_of_le a1 hk.size, a2, by rw [own_len0]; exact a3, by rw [own_len0]; exact a4, by rw [own_len0]; exact a5⟩
    · rw [own_len0 na, own_len0 da, own_len0 ea] at hy ⊢
      exact hy
  by_cases h15 : k = 15
  · subst h15
    obtain ⟨r1, r2, r3, r4⟩ := running_len l n hn
    have e1 : (CS.of 15 l).ends.length = l.length := (running_ends l).1
    rw [r1] at f3
    refine (back_running bl lw s (CS.of 15 l).nulls (CS.of 15 l).data (CS.of 15 l).ends na da ea _ nc _ dc _ ec rfl rfl rfl n (CS.of 15 (l.take n)).data.length (by omega) (by omega) (by rw [f2, List.length_take]; omega) (by rw [← f3]; exact r2) (by omega) (by omega) (by omega) w h.b).mono ?_
    rintro e w' ⟨rfl, hb, hk⟩
    refine fin _ 0 _ w' f2.symm rfl ⟨n, by rw [f3]; exact hb⟩ ?_ (hk.mono (fun b e _ => .inl e))
    rw [r3, ← r4]
    exact h.l.kept hk (fun b hb _ e => (h.ts b hb).2.2.1 e)
  by_cases h16 : k = 16
  · subst h16
    obtain ⟨r1, r2, r3⟩ := coded_len (l.take n)
    obtain ⟨t1, t2, t3⟩ := coded_len l
    rw [hll] at r1
    rw [r1] at f2
    refine (back_coded T (CS.of 16 l).words (fun i => (wordsOf [] (l.take i)).length) bl lw s (CS.of 16 l).nulls (CS.of 16 l).data (CS.of 16 l).ends na da ea _ nc _ dc _ ec rfl rfl n (by omega) (by omega) (by omega) (by omega) ?_ rfl ?_ ?_ ?_ (by omega) (fun t ht => Nat.le_trans (hwl t ht) (by decide)) w h.b h.l ?_).mono ?_
    · rw [coded_of]; intro x hx
      obtain ⟨y, _, hx⟩ := List.mem_flatMap.1 hx
      exact lows_bytes _ _ x hx
    · intro i hi hb
      rw [nulls_of, List.getElem?_map, List.getElem?_eq_getElem (by omega)] at hb
      rw [need_step l i (by omega), if_pos (by simpa using hb)]
    · intro i hi hb
      rw [nulls_of, List.getElem?_map, List.getElem?_eq_getElem (by omega)] at hb
      have hb : l[i].null = false := by simpa using hb
      rw [need_step l i (by omega), need_word l n i (by omega) hi hn, hb]
      refine ⟨rfl, ?_⟩
      have := codeOf_le (wordsOf [] (l.take i)) l[i].text
      have h2 := words_len (l.take i) []
      rw [List.length_take] at h2
      simp at h2 ⊢
      omega
    · intro i hi
      rw [t3]
      have := words_pre (l.drop i) (wordsOf [] (l.take i))
      rw [← words_app, List.take_append_drop] at this
      exact this.length_le
    · intro b hb
      obtain ⟨a0, a1, a2, a3, a4, a5⟩ := h.ts b hb
      rw [own_len0] at a3 a4 a5
      exact ⟨a2, a3, a4, a5⟩
    · rintro e w' ⟨rfl, hb, hL, hk⟩
      refine fin _ 0 _ w' f2.symm rfl ⟨_, by rw [r2, ← t2]; exact hb⟩ ?_ hk
      rw [f4, r3]; exact hL
  · obtain ⟨W, hW, _, hW8⟩ := width_pos ho h15
    obtain ⟨r1, r2, r3⟩ := fixed_len h15 h16 hW (l.take n)
    obtain ⟨t1, t2, t3⟩ := fixed_len h15 h16 hW l
    rw [hll] at r1
    rw [r1] at f2
    refine (back_fixed bl lw k s (by simpa using h15) (by simpa using h16) W hW hW8 (CS.of k l).nulls (CS.of k l).data (CS.of k l).ends na da ea _ nc _ dc _ ec rfl rfl n (by omega) (by rw [t1]; exact Nat.mul_le_mul_right _ hn) (by omega) (by omega) w h.b).mono ?_
    rintro e w' ⟨rfl, hb, hk⟩
    refine fin _ 0 _ w' f2.symm rfl ⟨_, by rw [r2, ← t2]; exact hb⟩ ?_ (hk.mono (fun b e _ => .inl e))
    rw [r3, ← t3]
    exact h.l.kept hk (fun b hb _ e => (h.ts b hb).2.2.1 e)
end Go.Proofs.YtmhjjhaipcgbiaaGreat


/- A builder's refused answers: nothing changes. -/
namespace Go.Proofs.YtmhjjhaipcgbiaaGreat
open Go.RowKit
set_option linter.unusedVariables false
set_option linter.unusedSimpArgs false
set_option maxRecDepth 100000
set_option maxHeartbeats 1000000

/-- A return ahead of the loop over a function. -/
theorem left_plain {P : Program} {fn : Func} {tmps : Array Value} {R : Ending → World → Prop} {W : World} {v : Value} (hr : (results fn tmps).run P W = .ok v W) (h : R (.returned v) W) :
    LeavesInM Fence.wide 9 P fn tmps R [] .returning W := ⟨v, hr, h⟩
theorem BS.cells {w : World} {S : Nat → Prop} {bl : Nat} {k s : Int} {c : CS} (h : BS w S bl k s c) : w.cell? ⟨bl, 0, none⟩ = some (.int .i64 k) ∧ w.cell? ⟨bl, 1, none⟩ = some (.int .i64 s) ∧ ∃ na nc, w.cell? ⟨bl, 2, none⟩ = some (.slice na c.nulls.length nc) := by
  obtain ⟨lw, nv, dv, ev, T, h⟩ := h
  obtain ⟨na, nc, e⟩ := h.b.nulls.form
  refine ⟨?_, ?_, na, nc, ?_⟩
  · rw [cell_blk h.b.blk]; rfl
  · rw [cell_blk h.b.blk]; rfl
  · rw [cell_blk h.b.blk, e]; rfl

def NewNP (w : World) (e : Ending) (w' : World) : Prop := e = .returned (.tuple #[.pointer none, .int .i64 170]) ∧ Below w.heap.size w w'
theorem new_no (k s : Int) (w : World) (h : okType k s = false) : Calls Tryz.prog 11 #[.agg #[.int .i64 k, .int .i64 s]] w (NewNP w) := by
  have HC := Aside.mk (fun W => show Calls Tryz.prog 70 #[.agg #[.int .i64 k, .int .i64 s]] W fun e w' => e = .returned (.int .i64 170) ∧ Below W.heap.size W w' from by have := checkType_any k s W; rwa [h] at this)
  clear h
  go_enter Tryz.func11, Tryz.ntmps11
  go_wp2_with (go_at_call 70; refine (HC.out _).mono ?_; rintro e w1 ⟨rfl, hb1⟩; have HB1 := Aside.mk hb1; clear hb1)
  go_ret2
  exact ⟨rfl, (below_new w _).trans (HB1.out.mono (by simp))⟩

theorem put_word (S : Nat → Prop) (bl : Nat) (k s : Int) (c : CS) (X : Nat) (hk : wordedB k = true) (w : World) (h : BS w S bl k s c) :
    Calls Tryz.prog 17 #[.pointer (some ⟨bl, 0, none⟩), .int .u64 (X : Int)] w (IntP 170 w) := by
  have HT := Aside.mk (texts_BS S bl k s c w h)
  rw [hk] at HT
  clear h hk
  go_enter Tryz.func17, Tryz.ntmps17
  go_wp2_with (go_at_call 73; refine HT.out.mono ?_; rintro e w1 ⟨rfl, rfl⟩)
  go_ret
  exact ⟨rfl, Below.refl _ _⟩
theorem put_bad (S : Nat → Prop) (bl : Nat) (k s : Int) (c : CS) (X : Nat) (hX : X < 18446744073709551616) (hk : wordedB k = false) (hf : fitsB k s X = false) (w : World) (h : BS w S bl k s c) :
    Calls Tryz.prog 17 #[.pointer (some ⟨bl, 0, none⟩), .int .u64 (X : Int)] w (IntP 172 w) := by
  have HT := Aside.mk (texts_BS S bl k s c w h)
  rw [hk] at HT
  obtain ⟨hc0, hc1, _⟩ := h.cells
  have HF := Aside.mk (fun W => show Calls Tryz.prog 74 #[.agg #[.int .i64 k, .int .i64 s], .int .u64 (X : Int)] W (FitsP false W) from by have := fits_any k s X (by omega) (by omega) W; rwa [hf] at this)
  clear h hk hf
  go_enter Tryz.func17, Tryz.ntmps17
  go_wp2_with (first | (go_at_call 73; refine HT.out.mono ?_; rintro e w1 ⟨rfl, rfl⟩) | (go_at_call 74; refine (HF.out _).mono ?_; rintro e w2 ⟨rfl, hb2⟩; have B2 := Aside.mk hb2; clear hb2))
  go_ret
  exact ⟨rfl, B2.out⟩
theorem text_no (S : Nat → Prop) (bl : Nat) (k s : Int) (c : CS) (v : Value) (hk : wordedB k = false) (w : World) (h : BS w S bl k s c) :
    Calls Tryz.prog 21 #[.pointer (some ⟨bl, 0, none⟩), v] w (IntP 170 w) := by
  have HT := Aside.mk (texts_BS S bl k s c w h)
  rw [hk] at HT
  clear h hk
  go_enter Tryz.func21, Tryz.ntmps21
  go_wp2_with (go_at_call 73; refine HT.out.mono ?_; rintro e w1 ⟨rfl, rfl⟩)
  go_ret
  exact ⟨rfl, Below.refl _ _⟩
theorem back_no (S : Nat → Prop) (bl : Nat) (k s : Int) (c : CS) (n : Int) (hm : c.nulls.length ≤ 100000000) (hn : n < 0 ∨ (c.nulls.length : Int) < n) (w : World) (h : BS w S bl k s c) :
    Calls Tryz.prog 31 #[.pointer (some ⟨bl, 0, none⟩), .int .i64 n] w (IntP 173 w) := by
  obtain ⟨hc0, hc1, na, nc, hc2⟩ := h.cells
  clear h
  by_cases h0 : n < 0
  · clear hn
    go_enter Tryz.func31, Tryz.ntmps31
    go_wp2
    go_ret
    exact ⟨rfl, Below.refl _ _⟩
  · have h1 : (c.nulls.length : Int) < n := by omega
    clear hn
    go_enter Tryz.func31, Tryz.ntmps31
    go_wp2
    go_ret
    exact ⟨rfl, Below.refl _ _⟩
theorem len_BS (S : Nat → Prop) (bl : Nat) (k s : Int) (c : CS) (w : World) (h : BS w S bl k s c) :
    Calls Tryz.prog 33 #[.pointer (some ⟨bl, 0, none⟩)] w fun e w' => e = .returned (.int .i64 (c.nulls.length : Int)) ∧ w = w' := by
  obtain ⟨hc0, hc1, na, nc, hc2⟩ := h.cells
  clear h
  go_enter Tryz.func33, Tryz.ntmps33
  go_wp2
  go_ret
  exact ⟨rfl, rfl⟩

/-- A column of another type. -/
theorem append_no (S : Nat → Prop) (bl : Nat) (k s : Int) (cs : CS) (c : Col) (hc : COK c) (B D E X : SL) (vals : List Value) (hr : checkC c = 0) (ht : ¬ (c.k = k ∧ c.s = s)) (w : World) (h : BS w S bl k s cs) (hcol : RdC w c B D E X vals) :
    Calls Tryz.prog 28 #[.pointer (some ⟨bl, 0, none⟩), colV c B D E X] w (IntP 174 w) := by
  have hck := Aside.mk (fun (w2 : World) (hb : Below w.heap.size w w2) => check_any c hc B D E X vals w2 (hcol.below hb))
  rw [hr] at hck
  have HBC := Aside.mk (fun (w2 : World) (hb : Below w.heap.size w w2) => (h.below hb).cells)
  have hlt := World.block_lt_of_cell? _ _ h.cells.1
  have HT := Aside.mk ht
  clear h hcol hr hc ht
  dsimp only [colV] at hck ⊢
  refine calls_of_marks Tryz.func28 rfl ?_; simp only [Tryz.ntmps28, List.size_toArray, List.length_cons, List.length_nil, Nat.reduceAdd, Nat.reduceSub, Array.replicate_succ, Array.replicate_zero, List.push_toArray, List.append_toArray, List.nil_append, List.cons_append]
  go_wp2_with fail
  obtain ⟨t1, t2, t3, t4⟩ := below_two w (.cells #[.pointer (some ⟨bl, 0, none⟩)] 25 (0, 0)) (.cells #[.int .i64 c.k, .int .i64 c.s, .int .i64 c.n, .int .i64 c.m, .slice B.a c.bits.length B.c, .slice D.a c.data.length D.c, .slice E.a c.ends.length E.c, .slice X.a c.words.length X.c] 63 (0, 0))
  have hg : ∀ W', ((w.alloc (.cells #[.pointer (some ⟨bl, 0, none⟩)] 25)).alloc (.cells #[.int .i64 c.k, .int .i64 c.s, .int .i64 c.n, .int .i64 c.m, .slice B.a c.bits.length B.c, .slice D.a c.data.length D.c, .slice E.a c.ends.length E.c, .slice X.a c.words.length X.c] 63)) = W' → Below w.heap.size w W' ∧ W'.heap.size = w.heap.size + 2 ∧ W'.heap[w.heap.size]? = some (.cells #[.pointer (some ⟨bl, 0, none⟩)] 25 (0, 0)) ∧ W'.heap[w.heap.size + 1]? = some (.cells #[.int .i64 c.k, .int .i64 c.s, .int .i64 c.n, .int .i64 c.m, .slice B.a c.bits.length B.c, .slice D.a c.data.length D.c, .slice E.a c.ends.length E.c, .slice X.a c.words.length X.c] 63 (0, 0)) := fun W' e => e ▸ ⟨t1, t2, t3, t4⟩
  clear t1 t2 t3 t4
  generalize ((w.alloc (.cells #[.pointer (some ⟨bl, 0, none⟩)] 25)).alloc (.cells #[.int .i64 c.k, .int .i64 c.s, .int .i64 c.n, .int .i64 c.m, .slice B.a c.bits.length B.c, .slice D.a c.data.length D.c, .slice E.a c.ends.length E.c, .slice X.a c.words.length X.c] 63)) = w2 at *
  obtain ⟨t1, t2, t3, t4⟩ := hg w2 rfl
  have B2 := Aside.mk t1
  have H3 := Aside.mk t3
  have H4 := Aside.mk t4
  clear t1 t2 t3 t4 hg
  refine (hck.out _ B2.out).mono ?_
  rintro e w3 ⟨rfl, hb3⟩
  have B3 := Aside.mk (below_chain B2.out hb3)
  replace H3 := Aside.mk ((hb3.block _ (lt_of_blk H3.out)).trans H3.out)
  replace H4 := Aside.mk ((hb3.block _ (lt_of_blk H4.out)).trans H4.out)
  clear hb3
  obtain ⟨c0, c1, c2, c3, c4, c5, c6, c7⟩ := box8 H4.out
  have d0 : w3.cell? ⟨w.heap.size, 0, none⟩ = some (.pointer (some ⟨bl, 0, none⟩)) := by rw [cell_blk H3.out]; rfl
  obtain ⟨e0, e1, _⟩ := HBC.out w3 B3.out
  by_cases hk : c.k = k
  · have d1 : (c.k == k) = true := by simpa using hk
    have d2 : (c.s == s) = false := by have := HT.out; simp; intro e; exact this ⟨hk, e⟩
    clear hk
    go_wp2_with fail
    go_quiet (fail)
    go_wp2_with fail
    refine left_plain (v := .int .i64 174) (by simp [results, Tryz.results28, go_sem]) ⟨rfl, B3.out.trans (below_drewN _ _ _)⟩
  · have d1 : (c.k == k) = false := by simpa using hk
    clear hk
    go_wp2_with fail
    go_quiet (fail)
    go_wp2_with fail
    refine left_plain (v := .int .i64 174) (by simp [results, Tryz.results28, go_sem]) ⟨rfl, B3.out.trans (below_drewN _ _ _)⟩
end Go.Proofs.YtmhjjhaipcgbiaaGreat


/- An append to an owned row: what stood there stands there still. Over any program. -/
namespace Go.Proofs.YtmhjjhaipcgbiaaGreat
open Go.RowKit
set_option linter.unusedSimpArgs false
set_option linter.unusedVariables false

theorem own_front0 {w : World} {base : Nat} {E : TypeId} {sz n c m : Nat} {a : Option Addr} {xs ys : List Value} (h : Own w base E sz (.slice a (n + m) c) (n + m) (xs ++ ys)) (hx : xs.length = n * sz) : Own w base E sz (.slice a n c) n xs := by
  rcases h.2 with ⟨e, hn⟩ | ⟨g, off, cap, cur, e, h1, h2, h3, h4, h5, h6⟩
  · simp only [Value.slice.injEq] at e
    obtain ⟨rfl, _, rfl⟩ := e
    obtain rfl : n = 0 := by omega
    have : xs = [] := List.eq_nil_of_length_eq_zero (by simpa using hx)
    subst this
    exact Own.nil _ _ _ _
  · cases e
    refine ⟨hx, .inr ⟨g, off, c, cur, rfl, h1, h2, by omega, h4, h5, fun j hj => ?_⟩⟩
    rw [h6 j (by rw [Nat.add_mul]; omega), List.getElem?_append_left (by omega)]

section
variable {P : Program}
/-- What an append leaves. -/
structure AppP (w : World) (base : Nat) (e : TypeId) (size : Nat) (v : Value) (n : Nat) (xs : List Value) (m : Nat) (news : List Value) (v' : Value) (w' : World) : Prop where
  own : Own w' base e size v' (n + m) (xs ++ news)
  old : Own w' base e size v n xs
  grown : w.grownBy w' v.ownBlock
  blk : v'.ownBlock = v.ownBlock ∨ ∃ b, v'.ownBlock = some b ∧ w.heap.size ≤ b
  same : (∃ a c, v = .slice a n c ∧ v' = .slice a (n + m) c) ∨ ∃ b, v'.ownBlock = some b ∧ w.heap.size ≤ b

theorem run_append_own2 (w : World) (base : Nat) (t tx ty e : TypeId) (i : TypeInfo) (z : Value) (size bytes : Nat) (ht : P.underlying t = some (.slice e)) (hi : P.info? e = some i) (hz : i.zero = some z)
    (hsize : i.size = size) (hby : i.bytes = bytes) (hzs : z.cells.size = size)
    (v : Value) (n : Nat) (xs : List Value) (hown : Own w base e size v n xs)
    (x : Value) (m : Nat) (news : List Value) (hs : Src P size tx x m news w)
    (h63 : n + m ≤ maxLen) (hbytes : (n + m) * bytes ≤ 140737488355328) (hbase : base ≤ w.heap.size) :
    ∃ v' w', (Builtin.append_ #[t, tx] ty #[v, x]).run P w = .ok v' w' ∧ AppP w base e size v n xs m news v' w' := by
  subst hsize
  subst hby
  have hl : news.length = m * i.size := hs.newsLen
  have hsmall : n + m ≤ 9223372036854775807 := by simp only [maxLen] at h63; omega
  have hlen : (xs ++ news).length = (n + m) * i.size := by rw [List.length_append, hown.1, hl, Nat.add_mul]
  have grown : ∀ (old : Nat), old < n + m → ∀ (row : Option Nat),
      Own (w.drew.alloc (.cells ((xs ++ news).toArray ++ Builtin.zeroCells z.cells (grownCap w (n + m) old e - (n + m))) e)) base e i.size
        (.slice (some ⟨w.heap.size, 0, none⟩) (n + m) (grownCap w (n + m) old e)) (n + m) (xs ++ news) ∧
      w.grownBy (w.drew.alloc (.cells ((xs ++ news).toArray ++ Builtin.zeroCells z.cells (grownCap w (n + m) old e - (n + m))) e)) row := by
    intro old ho row
    have hge := grownCap_ge w (n + m) old e
    have hcm : grownCap w (n + m) old e ≤ maxLen := grownCap_le_maxLen w (n + m) old e h63
    refine ⟨⟨hlen, .inr ⟨w.heap.size, 0, _, _, rfl, hbase, heap_alloc_new w.drew _, hge, hcm, ?_, fun j hj => ?_⟩⟩, ⟨rfl, rfl, rfl, by simp, fun k hk _ => Below.heap_alloc w.drew _ k hk⟩⟩
    · simp only [Array.size_append, List.size_toArray, size_zeroCells, hzs, hlen, ← Nat.add_mul]
      rw [Nat.zero_add]
      exact Nat.le_of_eq (by congr 1; omega)
    · rw [Nat.zero_add, Array.getElem?_append_left (by simpa [hlen] using hj)]
      simp
  have old : ∀ (o : Obj), Own (w.drew.alloc o) base e i.size v n xs := fun o => hown.below (((below_drewN w _ 1).alloc (Nat.le_refl _) o))
  rcases hown.2 with ⟨rfl, rfl⟩ | ⟨g, off, cap, cur, rfl, hbg, hg, hnc, hcm, hcs, htake⟩
  · have hx : xs = [] := List.eq_nil_of_length_eq_zero (by simpa using hown.1)
    subst hx
    by_cases hm : m = 0
    · subst hm
      have hn : news = [] := List.eq_nil_of_length_eq_zero (by simpa using hl)
      subst hn
      refine ⟨.slice none 0 0, w, ?_, Own.nil w base e i.size, hown, ⟨rfl, rfl, rfl, Nat.le_refl _, fun _ _ _ => rfl⟩, .inl rfl, .inl ⟨none, 0, rfl, rfl⟩⟩
      rcases hs.kind with ⟨e', hk⟩ | hk <;> simp [Builtin.append_, run_underlying ht, run_underlying hk, sizeOf, typeInfo, hi, hs.len, hs.cells]
    · have hr := run_append_grow_src (P := P) w t tx ty e i z ht hi hz none 0 0 [] (by simp [Builtin.firstCells]) x m news hs (by omega) (by omega) (growslice_fits (by omega) (by simpa using hbytes))
      have hgr := grown 0 (by omega) (Value.ownBlock (.slice none 0 0))
      exact ⟨_, _, hr, hgr.1, old _, hgr.2, .inr ⟨_, rfl, Nat.le_refl _⟩, .inr ⟨_, rfl, Nat.le_refl _⟩⟩
  · have hxs : ∀ j u, xs[j]? = some u → w.cell? ((⟨g, off, none⟩ : Addr).add j) = some u := by
      intro j u hu
      rw [addr_add, cell_blk hg, htake j (by have := (List.getElem?_eq_some_iff.1 hu).1; rw [hown.1] at this; exact this)]
      exact hu
    by_cases hroom : n + m ≤ cap
    · have hfit : n * i.size + news.length ≤ cap * i.size := by rw [hl, ← Nat.add_mul]; exact Nat.mul_le_mul_right _ hroom
      have hst := run_storeCells_at P g (off + n * i.size) e news 0 cur w hg (by omega) hs.one
      simp only [Nat.add_zero] at hst
      have hr : (Builtin.append_ #[t, tx] ty #[.slice (some ⟨g, off, none⟩) n cap, x]).run P w = .ok (.slice (some ⟨g, off, none⟩) (n + m) cap) (w.setRow g (cur.toList.take (off + n * i.size) ++ news ++ cur.toList.drop (off + n * i.size + news.length)).toArray) := by
        rcases hs.kind with ⟨e', hk⟩ | hk <;> simp [Builtin.append_, run_underlying ht, run_underlying hk, sizeOf, typeInfo, hi, hs.len, hroom, hs.cells, addr_add, hst]
      have ho : Own (w.setRow g (cur.toList.take (off + n * i.size) ++ news ++ cur.toList.drop (off + n * i.size + news.length)).toArray) base e i.size (.slice (some ⟨g, off, none⟩) (n + m) cap) (n + m) (xs ++ news) := by
        refine ⟨hlen, .inr ⟨g, off, cap, _, rfl, hbg, setRow_heap w g cur _ e _ hg, hroom, hcm, ?_, fun j hj => ?_⟩⟩
        · simp only [List.size_toArray, List.length_append, List.length_take, List.length_drop, Array.length_toList]
          omega
        · have hx := hown.1
          have ht1 : (cur.toList.take (off + n * i.size)).length = off + n * i.size := by rw [List.length_take, Array.length_toList]; omega
          rw [List.getElem?_toArray]
          by_cases hj2 : j < n * i.size
          · rw [List.append_assoc, List.getElem?_append_left (by omega), List.getElem?_take, if_pos (by omega), Array.getElem?_toList, htake j hj2, List.getElem?_append_left (by omega)]
          · rw [List.append_assoc, List.getElem?_append_right (by omega), ht1, List.getElem?_append_left (by rw [hl]; rw [Nat.add_mul] at hj; omega), List.getElem?_append_right (by omega)]
            congr 1
            omega
      exact ⟨_, _, hr, ho, own_front0 ho hown.1, ⟨rfl, rfl, rfl, by simp, fun k _ hk => setRow_other w g k _ (fun e => hk (by simp [Value.ownBlock, e]))⟩, .inl rfl, .inl ⟨_, _, rfl, rfl⟩⟩
    · have hold : (Builtin.firstCells i.size n (.slice (some ⟨g, off, none⟩) n cap)).run P w.drew = .ok xs.toArray w.drew := run_firstCells_some w.drew i.size n ⟨g, off, none⟩ n cap xs hown.1 (by simpa using hxs)
      have hr := run_append_grow_src (P := P) w t tx ty e i z ht hi hz (some ⟨g, off, none⟩) n cap xs hold x m news hs (by omega) (by omega) (growslice_fits (by omega) hbytes)
      have hgr := grown cap (by omega) (Value.ownBlock (.slice (some ⟨g, off, none⟩) n cap))
      exact ⟨_, _, hr, hgr.1, old _, hgr.2, .inr ⟨_, rfl, Nat.le_refl _⟩, .inr ⟨_, rfl, Nat.le_refl _⟩⟩

theorem wpList_app2 (w : World) {ops : Array Oper} {rest : List Oper} {o : Oper} {a : Act} {Q : Exit → Act → World → Prop} (hgd : o.guard = none) (s x : Operand) (t tx : TypeId)
    (ho : o.op = .call { callee := .builtin .append, args := #[s, x], argTypes := #[t, tx] })
    (base : Nat) (e : TypeId) (z : Value) (size bytes : Nat) (ht : P.underlying t = some (.slice e)) (hi : (P.info? e).map (fun i => (i.zero, i.size, i.bytes)) = some (some z, size, bytes))
    (hzs : z.cells.size = size)
    (v : Value) (n : Nat) (xs : List Value) (hs : a.eval s = v) (hown : Own w base e size v n xs)
    (u : Value) (m : Nat) (news : List Value) (hx : a.eval x = u) (hsrc : Src P size tx u m news w)
    (h63 : n + m ≤ maxLen) (hbytes : (n + m) * bytes ≤ 140737488355328) (hbase : base ≤ w.heap.size)
    (h : ∀ v' w', AppP w base e size v n xs m news v' w' → wpList P ops Q rest (a.put o.dst v') w') : wpList P ops Q (o :: rest) a w := by
  obtain ⟨i0, hi, hz0, hz1, hz2⟩ := info_parts hi
  obtain ⟨v', w', hr, h2⟩ := run_append_own2 (P := P) w base t tx o.type e i0 z size bytes ht hi hz0 hz1 hz2 hzs v n xs hown u m news hsrc h63 hbytes hbase
  have hw : Region.wanted o (yielded ops a.tmps) = true := by simp [Region.wanted, hgd]
  simp only [wpList, hw, if_true]
  left
  unfold Oper.wp execOp
  simp only [ho, resolve, invoke, builtin, Sem.run_bind, Sem.run_pure, Result.andThen_ok, List.map_toArray, List.map_cons, List.map_nil, hs, hx, hr]
  exact h v' w' h2

theorem step_app2 (w : World) {ops : Array Oper} {o : Oper} {a : Act} {K : Act → World → Prop} {Q : Exit → Act → World → Prop} {E' : Prop} (s x : Operand) (t tx : TypeId)
    (ho : o.op = .call { callee := .builtin .append, args := #[s, x], argTypes := #[t, tx] }) (hgd : o.guard = none)
    (base : Nat) (e : TypeId) (z : Value) (size bytes : Nat) (ht : P.underlying t = some (.slice e)) (hi : (P.info? e).map (fun i => (i.zero, i.size, i.bytes)) = some (some z, size, bytes))
    (hzs : z.cells.size = size)
    (v : Value) (n : Nat) (xs : List Value) (hs : a.eval s = v) (hown : Own w base e size v n xs)
    (u : Value) (m : Nat) (news : List Value) (hx : a.eval x = u) (hsrc : Src P size tx u m news w)
    (h63 : n + m ≤ maxLen) (hbytes : (n + m) * bytes ≤ 140737488355328) (hbase : base ≤ w.heap.size)
    (h : ∀ v' w', AppP w base e size v n xs m news v' w' → K (a.put o.dst v') w') : if Region.wanted o (yielded ops a.tmps) = true then Oper.wp P o a w K Q else E' := by
  obtain ⟨i0, hi, hz0, hz1, hz2⟩ := info_parts hi
  obtain ⟨v', w', hr, h2⟩ := run_append_own2 (P := P) w base t tx o.type e i0 z size bytes ht hi hz0 hz1 hz2 hzs v n xs hown u m news hsrc h63 hbytes hbase
  have hw : Region.wanted o (yielded ops a.tmps) = true := by simp [Region.wanted, hgd]
  rw [if_pos hw]
  unfold Oper.wp execOp
  simp only [ho, resolve, invoke, builtin, Sem.run_bind, Sem.run_pure, Result.andThen_ok, List.map_toArray, List.map_cons, List.map_nil, hs, hx, hr]
  exact h v' w' h2
end

/-- A row that is owned stays where blocks of other types turn. -/
theorem Own.keptT {w w' : World} {base : Nat} {E : TypeId} {sz n : Nat} {v : Value} {xs : List Value} {S : Nat → Prop} (h : Own w base E sz v n xs) (hk : Kept S w w') (hS : ∀ b, S b → b < w.heap.size → ∀ cs, w.heap[b]? ≠ some (.cells cs E (0, 0))) : Own w' base E sz v n xs := by
  refine h.kept hk (fun b e hb => ?_)
  rcases h.2 with ⟨rfl, _⟩ | ⟨g, off, cap, cur, rfl, _, hg, _⟩
  · cases e
  · cases e; exact hS _ hb (lt_of_blk hg) _ hg
end Go.Proofs.YtmhjjhaipcgbiaaGreat


/- mintageref18.put. -/
namespace Go.Proofs.YtmhjjhaipcgbiaaGreat
open Go.RowKit
set_option linter.unusedVariables false
set_option linter.unusedSimpArgs false
set_option maxRecDepth 100000
set_option maxHeartbeats 1000000

theorem lows_succ18 (X n : Nat) : lows X (n + 1) = lows X n ++ [((X / 256 ^ n % 256 : Nat) : Int)] := by simp [lows, List.range_succ]

def Put18P (base : Nat) (a : Option Addr) (c : Nat) (data : List Int) (X W : Nat) (w : World) (e : Ending) (w' : World) : Prop :=
  ∃ a' c', e = .returned (.slice a' (data.length + W) c') ∧ Own w' base 5 1 (.slice a' (data.length + W) c') (data.length + W) ((data ++ lows X W).map (.int .u8)) ∧ Kept (fun b => (Value.slice a data.length c).ownBlock = some b) w w' ∧
    ((Value.slice a' (data.length + W) c').ownBlock = (Value.slice a data.length c).ownBlock ∨ ∃ b, (Value.slice a' (data.length + W) c').ownBlock = some b ∧ w.heap.size ≤ b)
structure Put18I (base : Nat) (a : Option Addr) (c : Nat) (data : List Int) (X i : Nat) (a' : Option Addr) (c' : Nat) (w wr : World) : Prop where
  own : Own wr base 5 1 (.slice a' (data.length + i) c') (data.length + i) ((data ++ lows X i).map (.int .u8))
  kept : Kept (fun b => (Value.slice a data.length c).ownBlock = some b) w wr
  blk : (Value.slice a' (data.length + i) c').ownBlock = (Value.slice a data.length c).ownBlock ∨ ∃ b, (Value.slice a' (data.length + i) c').ownBlock = some b ∧ w.heap.size ≤ b
theorem put18_next {base : Nat} {a : Option Addr} {c : Nat} {data : List Int} {X i : Nat} {a' a2 : Option Addr} {c' c2 : Nat} {w wr w2 : World} {o : Obj} {y : Int} (h : Put18I base a c data X i a' c' w wr) (hy : y = ((X / 256 ^ i % 256 : Nat) : Int))
    (hA : AppP (wr.alloc o) base 5 1 (.slice a' (data.length + i) c') (data.length + i) ((data ++ lows X i).map (.int .u8)) 1 [.int .u8 y] (.slice a2 (data.length + i + 1) c2) w2) : Put18I base a c data X (i + 1) a2 c2 w w2 := by
  subst hy
  refine ⟨?_, ?_, ?_⟩
  · have := hA.own
    rw [lows_succ18]
    simpa [List.append_assoc, Nat.add_assoc] using this
  · refine h.kept.trans ((Kept.of_below (below_new wr o)).trans (Kept.of_grown hA.grown) (S := fun b => (Value.slice a' (data.length + i) c').ownBlock = some b) (fun b e _ => e.symm)) (fun b e hlt => ?_)
    rcases h.blk with h1 | ⟨b', h1, h2⟩
    · exact h1 ▸ e
    · rw [h1] at e; cases e; omega
  · have hs : (wr.alloc o).heap.size = wr.heap.size + 1 := by simp
    have hk := h.kept.size
    rcases hA.blk with h1 | ⟨b', h1, h2⟩
    · exact (show (Value.slice a2 (data.length + (i + 1)) c2).ownBlock = _ from h1) ▸ h.blk
    · exact .inr ⟨b', h1, by omega⟩

theorem put18_any (base : Nat) (data : List Int) (X W : Nat) (hX : X < 18446744073709551616) (hW : W ≤ 8) (hl : data.length ≤ 100000000) (a : Option Addr) (c : Nat) (w : World) (h : Own w base 5 1 (.slice a data.length c) data.length (data.map (.int .u8))) (hb : base ≤ w.heap.size) :
    Calls Tryz.prog 77 #[.slice a data.length c, .int .u64 (X : Int), .int .i64 (W : Int)] w (Put18P base a c data X W w) := by
  have H := Aside.mk (show Put18I base a c data X 0 a c w w from ⟨by simpa [lows] using h, Kept.refl _ _, .inl rfl⟩)
  have HX := Aside.mk hX
  clear h hX
  generalize hdl : data.length = n at *
  have HDL := Aside.mk hdl
  go_enter Tryz.func77, Tryz.ntmps77
  go_wp2
  go_loopw [0, 1, 7] (fun bv xv iv wr => ∃ (i : Nat) (a' : Option Addr) (c' : Nat), i ≤ W ∧ bv = .slice a' (n + i) c' ∧ xv = .int .u64 ((X / 256 ^ i : Nat) : Int) ∧ iv = .int .i64 (i : Int) ∧ Aside (Put18I base a c data X i a' c' w wr)) (fun _ _ iv _ => W - (intOf iv).toNat)
  case atStart => exact ⟨0, a, c, by omega, rfl, by simp, rfl, H⟩
  case round =>
    clear H
    obtain ⟨i, a', c', hi, rfl, rfl, rfl, hp⟩ := hrel
    have hk := hp.out.kept.size
    by_cases hlt : i < W
    · have hy : X / 256 ^ i < 18446744073709551616 := Nat.lt_of_le_of_lt (Nat.div_le_self _ _) HX.out
      have HY := Aside.mk (show X / 256 ^ (i + 1) = X / 256 ^ i / 256 by rw [Nat.pow_succ, Nat.div_div_eq_div_mul])
      have HO := Aside.mk (show Own wr base 5 1 (.slice a' (n + i) c') (n + i) ((data ++ lows X i).map (.int .u8)) from hdl ▸ hp.out.own)
      have HQ := Aside.mk (show (((X / 256 ^ i : Nat) : Int) % 256) = ((X / 256 ^ i % 256 : Nat) : Int) by simp)
      clear hdl
      generalize hyg : X / 256 ^ i = y at *
      have HYG := Aside.mk hyg
      clear hyg
      go_wp2_with (at_builtin; refine wpList_app2 _ rfl _ _ 43 43 rfl base 5 (.int .u8 0) 1 1 Tryz.underlying43 u8info rfl _ (n + i) ((data ++ lows X i).map (.int .u8)) rfl (HO.out.alloc _) _ 1 [_] rfl (src_one Tryz.underlying43 _ _ _ rfl rfl) (by unfold maxLen; omega) (by omega) (Nat.le_trans hb (by simp; omega)) ?_)
      intro v' w5 hA
      obtain ⟨a5, c5, rfl⟩ := hA.own.form
      have HA := Aside.mk hA
      clear hA
      go_wp2_with fail
      have e := HDL.out
      subst e
      exact ⟨⟨i + 1, a5, c5, by omega, by rw [Nat.add_assoc], by rw [HY.out]; simp, by simp, ⟨put18_next (y := (y : Int) % 256) hp.out (by rw [HYG.out]; exact HQ.out) (by have := HA.out; rw [← List.map_append] at this; exact this)⟩⟩, by simp [intOf]; omega⟩
    · obtain rfl : i = W := by omega
      go_wp2_with fail
      go_ret
      subst hdl
      exact ⟨a', c', rfl, hp.out.own, hp.out.kept, hp.out.blk⟩
end Go.Proofs.YtmhjjhaipcgbiaaGreat


/- mintageref16.Of. -/
namespace Go.Proofs.YtmhjjhaipcgbiaaGreat
open Go.RowKit
set_option linter.unusedVariables false
set_option linter.unusedSimpArgs false
set_option maxRecDepth 100000
set_option maxHeartbeats 1000000

/-- What the loop holds. -/
structure Of16I (l : List Bool) (i : Nat) (w wr : World) (v : Value) : Prop where
  b1 : wr.heap[w.heap.size + 1]? = some (.cells #[.int .i64 (l.length : Int), v] 60 (0, 0))
  b0 : wr.heap[w.heap.size]? = some (.cells #[.int .i64 0, .slice none 0 0] 60 (0, 0))
  own : Own wr w.heap.size 5 1 v (mof (l.take i)).length ((mof (l.take i)).map (.int .u8))
  bel : Below w.heap.size w wr
theorem mof_take (l : List Bool) {i : Nat} (hi : i < l.length) : mof (l.take (i + 1)) = mput (mof (l.take i)) i l[i] := by
  rw [List.take_succ_eq_append_getElem hi, mof_snoc, List.length_take, Nat.min_eq_left (by omega)]
theorem mof_take_len (l : List Bool) {i : Nat} (hi : i ≤ l.length) : (mof (l.take i)).length = (i + 7) / 8 := by rw [mof_len, List.length_take, Nat.min_eq_left hi]

/-- .. behind the byte more. -/
structure Of16M (l : List Bool) (i : Nat) (w wr : World) (v : Value) : Prop where
  b1 : wr.heap[w.heap.size + 1]? = some (.cells #[.int .i64 (l.length : Int), v] 60 (0, 0))
  b0 : wr.heap[w.heap.size]? = some (.cells #[.int .i64 0, .slice none 0 0] 60 (0, 0))
  own : Own wr w.heap.size 5 1 v (i / 8 + 1) ((mrow (mof (l.take i)) i).map (.int .u8))
  bel : Below w.heap.size w wr
theorem of16_same {l : List Bool} {i : Nat} {w wr : World} {v : Value} (h : Of16I l i w wr v) (hi : i < l.length) (h8 : i % 8 ≠ 0) : Of16M l i w wr v := by
  have e : mrow (mof (l.take i)) i = mof (l.take i) := by rw [mrow, if_neg h8]
  refine ⟨h.b1, h.b0, ?_, h.bel⟩
  have := h.own
  rw [mof_take_len l (by omega)] at this
  rw [e, show i / 8 + 1 = (i + 7) / 8 by omega]; exact this
theorem of16_more {l : List Bool} {i : Nat} {w wr w5 : World} {va v5 : Value} {o : Obj} (h : Of16I l i w wr va) (hi : i < l.length) (h8 : i % 8 = 0) (hA : AppP (wr.alloc o) w.heap.size 5 1 va ((i + 7) / 8) ((mof (l.take i)).map (.int .u8)) 1 [.int .u8 0] v5 w5) : Of16M l i w (w5.setCell ⟨w.heap.size + 1, 1, none⟩ v5) v5 := by
  have e : mrow (mof (l.take i)) i = mof (l.take i) ++ [0] := by rw [mrow, if_pos h8]
  have n1 : va.ownBlock ≠ some (w.heap.size + 1) := h.own.blk_ne h.b1 (by decide)
  have n0 : va.ownBlock ≠ some w.heap.size := h.own.blk_ne h.b0 (by decide)
  have K : Kept (fun b => va.ownBlock = some b) wr w5 := (Kept.of_below (below_new wr o)).trans ((Kept.of_grown hA.grown).mono (fun b e _ => e.symm)) (fun _ e _ => e)
  have g1 := (K.block _ (lt_of_blk h.b1) n1).trans h.b1
  have g0 := (K.block _ (lt_of_blk h.b0) n0).trans h.b0
  refine ⟨by simpa using heap_setCell_at (k := 1) g1 v5, by rw [Below.heap_setCell _ _ _ _ (by simp)]; exact g0, ?_, (h.bel.trans (K.to_below h.bel.size (fun b e => (h.own.lt b e).1))).setCell (by simp) _⟩
  have := hA.own.set_other (a := ⟨w.heap.size + 1, 1, none⟩) (hA.own.blk_ne g1 (by decide)) v5
  rw [e, List.map_append, show i / 8 + 1 = (i + 7) / 8 + 1 by omega]
  exact this
theorem of16_no {l : List Bool} {i : Nat} {w wr : World} {v : Value} (h : Of16M l i w wr v) (hi : i < l.length) (hb : l[i] = false) : Of16I l (i + 1) w wr v := by
  refine ⟨h.b1, h.b0, ?_, h.bel⟩
  have e : mof (l.take (i + 1)) = mrow (mof (l.take i)) i := by rw [mof_take l hi, hb]; rfl
  rw [e, mrow_len _ _ (mof_take_len l (by omega))]
  exact h.own
theorem of16_yes {l : List Bool} {i g off cap : Nat} {w wr : World} (h : Of16M l i w wr (.slice (some ⟨g, off, none⟩) (i / 8 + 1) cap)) (hi : i < l.length) (hb : l[i] = true) :
    Of16I l (i + 1) w (wr.setCell ⟨g, off + i / 8, none⟩ (.int .u8 (morb ((mrow (mof (l.take i)) i).getD (i / 8) 0) (i % 8)))) (.slice (some ⟨g, off, none⟩) (i / 8 + 1) cap) := by
  have hg1 : w.heap.size ≤ g := (h.own.lt g rfl).1
  have n1 : g ≠ w.heap.size + 1 := fun e => h.own.blk_ne h.b1 (by decide) (by rw [← e]; rfl)
  have n0 : g ≠ w.heap.size := fun e => h.own.blk_ne h.b0 (by decide) (by rw [← e]; rfl)
  refine ⟨by rw [Below.heap_setCell _ _ _ _ (by simpa using fun e => n1 e.symm)]; exact h.b1, by rw [Below.heap_setCell _ _ _ _ (by simpa using fun e => n0 e.symm)]; exact h.b0, ?_, h.bel.setCell hg1 _⟩
  have e : mof (l.take (i + 1)) = (mrow (mof (l.take i)) i).set (i / 8) (morb ((mrow (mof (l.take i)) i).getD (i / 8) 0) (i % 8)) := by rw [mof_take l hi, hb]; rfl
  rw [e, List.length_set, mrow_len _ _ (mof_take_len l (by omega)), List.map_set]
  exact h.own.stored (i / 8) _

theorem Of16I.drew {l : List Bool} {i : Nat} {w wr : World} {v : Value} (h : Of16I l i w wr v) : Of16I l i w wr.drew v := ⟨h.b1, h.b0, h.own.drewN 1, h.bel.trans (below_drewN _ _ 1)⟩

theorem of16_any (l : List Bool) (v : Value) (w : World) (hl : l.length ≤ 100000000) (h : Rd w 1 v l.length (l.map .bool)) : Calls Tryz.prog 79 #[v] w (MofP l w) := by
  obtain ⟨a, cap, rfl⟩ := h.form
  have HR := Aside.mk h
  clear h
  generalize hn : l.length = n at *
  have HN := Aside.mk hn
  clear hn
  go_enter Tryz.func79, Tryz.ntmps79
  go_wp2
  go_loopw [4] (fun iv wr => ∃ i : Nat, i ≤ n ∧ iv = .int .i64 (i : Int) ∧ Aside (∃ v, Of16I l i w wr v)) (fun iv _ => n - (intOf iv).toNat)
  case atStart =>
    refine ⟨0, by omega, rfl, ⟨.slice none 0 0, ?_, ?_, Own.nil _ _ _ _, ((Below.refl _ _).alloc (Nat.le_refl _) _).alloc (by simp) _⟩⟩
    · have := heap_alloc_new (w.alloc (.cells #[.int .i64 0, .slice none 0 0] 60)) (.cells #[.int .i64 (n : Int), .slice none 0 0] 60)
      rw [HN.out]
      simpa using this
    · rw [Below.heap_alloc _ _ _ (by simp)]; exact heap_alloc_new _ _
  case round =>
    obtain ⟨i, hi, rfl, hp⟩ := hrel
    obtain ⟨v', hI⟩ := hp.out
    clear hp
    obtain ⟨va, vc, rfl⟩ := hI.own.form
    have c10 := cell_blk (k := 0) hI.b1
    have c11 := cell_blk (k := 1) hI.b1
    have f11 := fun k => frozen_blk (k := k) hI.b1
    have hlt1 := lt_of_blk hI.b1
    simp at c10 c11
    have HI := Aside.mk hI
    clear hI
    by_cases hlt : i < n
    · have hil : i < l.length := by have := HN.out; omega
      have hml := mof_take_len l (i := i) (by omega)
      rw [hml] at c11 HI
      obtain ⟨g, off, cp, e, h1, h2, hcc⟩ := HR.out.some_ (by rw [List.length_map]; omega)
      simp only [Value.slice.injEq, true_and] at e
      obtain ⟨rfl, rfl⟩ := e
      have hcb : w.cell? ⟨g, off + i, none⟩ = some (.bool l[i]) := hcc i _ (by rw [List.getElem?_map, List.getElem?_eq_getElem hil]; rfl)
      have hbit := (HI.out.bel.cell (p := ⟨g, off + i, none⟩) (World.block_lt_of_cell? _ _ hcb)).trans hcb
      have HMT := Aside.mk (mof_take l hil)
      have hglt : g < w.heap.size := World.block_lt_of_cell? _ _ hcb
      have HX := Aside.mk (And.intro hml hglt)
      clear hcc hcb hml
      obtain ⟨bit, hbv⟩ : ∃ b, b = l[i] := ⟨_, rfl⟩
      rw [← hbv] at hbit
      have HBV := Aside.mk hbv.symm
      clear hbv
      have hs1 := HI.out.bel.size
      have hor : bits .or .u8 ((mrow (mof (l.take i)) i).getD (i / 8) 0) (2 ^ (i % 8) % 256) = morb ((mrow (mof (l.take i)) i).getD (i / 8) 0) (i % 8) := rfl
      by_cases h8 : i % 8 = 0
      · have e8 : ((i : Int) % 8 == 0) = true := by simp; omega
        have HO := Aside.mk (show Own wr w.heap.size 5 1 (.slice va ((i + 7) / 8) vc) ((i + 7) / 8) ((mof (l.take i)).map (.int .u8)) from by
          have := HI.out.own; rw [HX.out.1] at this; exact this)
        have HE8 := Aside.mk h8
        clear h8
        go_upto_region 7 with (at_builtin; refine wpList_app2 _ rfl _ _ 43 43 rfl w.heap.size 5 (.int .u8 0) 1 1 Tryz.underlying43 u8info rfl _ ((i + 7) / 8) ((mof (l.take i)).map (.int .u8)) rfl (HO.out.alloc _) _ 1 [.int .u8 0] rfl (src_one Tryz.underlying43 _ _ _ rfl rfl) (by unfold maxLen; omega) (by omega) (Nat.le_trans hs1 (by simp)) ?_)
        intro v5 w5 hA
        obtain ⟨a5, c5, rfl⟩ := hA.own.form
        have K5 := Aside.mk (show Kept (fun b => (Value.slice va ((i + 7) / 8) vc).ownBlock = some b) wr w5 from (Kept.of_below (below_new wr _)).trans ((Kept.of_grown hA.grown).mono (fun b e _ => e.symm)) (fun _ e _ => e))
        have hn5 := HO.out.blk_ne HI.out.b1 (by decide)
        have g1 := (K5.out.block _ hlt1 hn5).trans HI.out.b1
        have hbit5 := K5.out.cell hbit (fun e => by have h3 : w.heap.size ≤ g := (HO.out.lt _ e).1; omega)
        have HM := Aside.mk (of16_more HI.out hil HE8.out hA)
        clear c10 c11 f11 hbit hA hn5
        have c10 := cell_blk (k := 0) g1
        have c11 := cell_blk (k := 1) g1
        have f11 := fun k => frozen_blk (k := k) g1
        have hlt5 := lt_of_blk g1
        simp at c10 c11
        clear g1
        have hge : i / 8 + 1 = (i + 7) / 8 + 1 := by have := HE8.out; omega
        have hgne : g ≠ w.heap.size + 1 := by omega
        cases bit with
        | false =>
          have HD := Aside.mk (of16_no HM.out hil HBV.out)
          go_wp2_with fail
          exact ⟨⟨i + 1, by omega, by simp, ⟨_, HD.out⟩⟩, by simp [intOf]; omega⟩
        | true =>
          go_wp2_with fail
          clear c10 c11 f11 hbit5
          generalize w5.setCell ⟨w.heap.size + 1, 1, none⟩ (.slice a5 ((i + 7) / 8 + 1) c5) = w6 at *
          obtain ⟨g8, o8, p8, ev8, hg8, hlt8, hcp8, hcp9, hcells, hfz⟩ := HM.out.own.some_ (by omega)
          have hnl : i / 8 < (mrow (mof (l.take i)) i).length := by rw [mrow_len _ _ (mof_take_len l (by omega))]; omega
          have hx := hcells (i / 8) (.int .u8 ((mrow (mof (l.take i)) i).getD (i / 8) 0)) (by simp [List.getElem?_eq_getElem hnl])
          have hfx := hfz (o8 + i / 8)
          have HY := Aside.mk (of16_yes (by have := HM.out; rw [ev8] at this; exact this) hil HBV.out)
          have c10 := cell_blk (k := 0) HM.out.b1
          have c11 := cell_blk (k := 1) HM.out.b1
          have f11 := fun k => frozen_blk (k := k) HM.out.b1
          simp at c10 c11
          rw [ev8] at c11
          clear hcells hfz
          generalize (mrow (mof (l.take i)) i).getD (i / 8) 0 = x at *
          have hn1 : g8 ≠ w.heap.size + 1 := fun e => HM.out.own.blk_ne HM.out.b1 (by decide) (by rw [ev8, ← e]; rfl)
          go_region
          go_wp2_with fail
          exact ⟨⟨i + 1, by omega, by simp, ⟨_, HY.out.drew⟩⟩, by simp [intOf]; omega⟩
      · have e8 : ((i : Int) % 8 == 0) = false := by simp; omega
        have HM := Aside.mk (of16_same HI.out hil h8)
        cases bit with
        | false =>
          have HD := Aside.mk (of16_no HM.out hil HBV.out)
          go_wp2_with fail
          exact ⟨⟨i + 1, by omega, by simp, ⟨_, HD.out⟩⟩, by simp [intOf]; omega⟩
        | true =>
          obtain ⟨g8, o8, p8, ev8, hg8, hlt8, hcp8, hcp9, hcells, hfz⟩ := HM.out.own.some_ (by omega)
          have hnl : i / 8 < (mrow (mof (l.take i)) i).length := by rw [mrow_len _ _ (mof_take_len l (by omega))]; omega
          have hx := hcells (i / 8) (.int .u8 ((mrow (mof (l.take i)) i).getD (i / 8) 0)) (by simp [List.getElem?_eq_getElem hnl])
          have hfx := hfz (o8 + i / 8)
          have HY := Aside.mk (of16_yes (by have := HM.out; rw [ev8] at this; exact this) hil HBV.out)
          rw [ev8] at c11
          clear hcells hfz
          generalize (mrow (mof (l.take i)) i).getD (i / 8) 0 = x at *
          have hn1 : g8 ≠ w.heap.size + 1 := fun e => HM.out.own.blk_ne HM.out.b1 (by decide) (by rw [ev8, ← e]; rfl)
          go_wp2_with fail
          go_region
          go_wp2_with fail
          exact ⟨⟨i + 1, by omega, by simp, ⟨_, HY.out.drew⟩⟩, by simp [intOf]; omega⟩
    · obtain rfl : i = n := by omega
      have c00 := cell_blk (k := 0) HI.out.b0
      have c01 := cell_blk (k := 1) HI.out.b0
      have f00 := fun k => frozen_blk (k := k) HI.out.b0
      simp at c00 c01
      have e1 : l.take i = l := by rw [← HN.out]; simp
      have HI2 := HI.out
      rw [e1] at c11 HI2
      have HI3 := Aside.mk HI2
      have HN2 := HN.out
      rw [HN2] at c10
      clear HI HI2 e1 HN2
      go_wp2_with fail
      refine bodyPost_ret (v := .agg #[.int .i64 (i : Int), .slice va (mof l).length vc]) (by simp [results, Tryz.results79, go_sem, c00, c01]) rfl ?_
      refine ⟨_, by rw [HN.out], ?_, ?_⟩
      · have h9 := HI3.out.own
        rw [show l.take i = l by rw [← HN.out]; simp] at h9
        have h0 := h9.blk_ne HI3.out.b0 (by decide)
        exact (h9.set_other (a := ⟨w.heap.size, 0, none⟩) h0 (.int .i64 (i : Int))).set_other (a := ⟨w.heap.size, 1, none⟩) h0 (.slice va (mof l).length vc)
      · exact (HI3.out.bel.setCell (Nat.le_refl _) _).setCell (Nat.le_refl _) _
end Go.Proofs.YtmhjjhaipcgbiaaGreat
