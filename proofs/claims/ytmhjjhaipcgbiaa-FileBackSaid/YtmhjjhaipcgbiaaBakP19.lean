/- Texts of this claim, one behind the other: Small0, Same. -/
import Derived.Test.YtmhjjhaipcgbiaaBakP18
import Derived.Test.YtmhjjhaipcgbiaaBakP17
import Derived.Test.YtmhjjhaipcgbiaaBakP13

namespace Go.Proofs.Ytmhjjhaipcgbiaa
open Go.RowKit
set_option linter.unusedVariables false
set_option linter.unusedSimpArgs false
set_option maxRecDepth 100000
set_option maxHeartbeats 1000000
theorem width_nat (k : Int) : ∃ W : Nat, widthOf k = (W : Int) ∧ W ≤ 8 := by
  unfold widthOf
  split
  · exact ⟨1, rfl, by decide⟩
  split
  · exact ⟨2, rfl, by decide⟩
  split
  · exact ⟨4, rfl, by decide⟩
  split
  · exact ⟨8, rfl, by decide⟩
  · exact ⟨0, rfl, by decide⟩
theorem data_max (k : Int) (l : List V) (m : Nat) (hm : 8 ≤ m) (hl : ∀ v ∈ l, v.text.length ≤ m) : (CS.of k l).data.length ≤ l.length * m ∧ ∀ t ∈ (CS.of k l).words, t.length ≤ m := by
  induction l using snoc_ind with
  | h0 => exact ⟨Nat.zero_le _, fun t ht => (by cases ht)⟩
  | h1 l v ih =>
    obtain ⟨h1, h2⟩ := ih (fun v hv => hl v (List.mem_append_left _ hv))
    have hv := hl v (by simp)
    obtain ⟨W, hW, hW8⟩ := width_nat k
    have hw8 : (widthOf k).toNat ≤ 8 := by rw [hW]; exact hW8
    have hs : (l ++ [v]).length * m = l.length * m + m := by rw [List.length_append, List.length_singleton, Nat.add_mul, Nat.one_mul]
    rw [CS.of_snoc, hs]
    unfold CS.add
    split
    · refine ⟨?_, h2⟩
      simp only [List.length_append]; omega
    split
    · refine ⟨by simp only [List.length_append, lows_len]; omega, ?_⟩
      dsimp only
      split
      · exact h2
      · unfold addWord
        split
        · exact h2
        · intro t ht
          rcases List.mem_append.1 ht with h | h
          · exact h2 t h
          · simp at h; subst h; exact hv
    · exact ⟨by simp only [List.length_append, lows_len]; omega, h2⟩
end Go.Proofs.Ytmhjjhaipcgbiaa


namespace Go.Proofs.Ytmhjjhaipcgbiaa
open Go.RowKit
set_option linter.unusedVariables false
set_option linter.unusedSimpArgs false
set_option maxRecDepth 100000
set_option maxHeartbeats 4000000
def sameC (a b : Col) : Bool := decide (checkC a = 0 ∧ checkC b = 0 ∧ a.k = b.k ∧ a.s = b.s ∧ a.n = b.n ∧ a.bits = b.bits ∧ a.data = b.data ∧ a.ends = b.ends ∧ a.words = b.words)
theorem same_any (a b : Col) (ha : COK a) (hb : COK b) (B D E X B2 D2 E2 X2 : SL) (va vb : List Value) (w : World) (h : RdC w a B D E X va) (h2 : RdC w b B2 D2 E2 X2 vb) : Calls Try.prog 22 #[colV a B D E X, colV b B2 D2 E2 X2] w (BoolP (sameC a b) w) := by
  have hca := Aside.mk (fun (w2 : World) (hw : Below w.heap.size w w2) => check_any a ha B D E X va w2 (h.below hw))
  have hcb := Aside.mk (fun (w2 : World) (hw : Below w.heap.size w w2) => check_any b hb B2 D2 E2 X2 vb w2 (h2.below hw))
  have heb := Aside.mk (fun (w2 : World) (hw : Below w.heap.size w w2) => equal_bytes a.bits b.bits B B2 (Nat.le_trans ha.lb (by decide)) w2 (h.bits.below hw) (h2.bits.below hw))
  have hed := Aside.mk (fun (w2 : World) (hw : Below w.heap.size w w2) => equal_bytes a.data b.data D D2 (Nat.le_trans ha.ld (by decide)) w2 (h.data.below hw) (h2.data.below hw))
  have hee := Aside.mk (fun (w2 : World) (hw : Below w.heap.size w w2) => equal_ints a.ends b.ends E E2 (Nat.le_trans ha.le (by decide)) w2 (h.ends.below hw) (h2.ends.below hw))
  have hew := Aside.mk (fun (w2 : World) (hw : Below w.heap.size w w2) => equal_words a.words b.words X X2 va vb (Nat.le_trans ha.lw (by decide)) (fun t ht => (ha.words t ht).2) w2 (h.words.below hw) (h2.words.below hw) (h.each.below hw) (h2.each.below hw))
  have HS := Aside.mk (show sameC a b = decide (checkC a = 0 ∧ checkC b = 0 ∧ a.k = b.k ∧ a.s = b.s ∧ a.n = b.n ∧ a.bits = b.bits ∧ a.data = b.data ∧ a.ends = b.ends ∧ a.words = b.words) from rfl)
  clear h h2 ha hb
  dsimp only [colV] at hca hcb ⊢
  generalize checkC a = ra at *
  generalize checkC b = rb at *
  obtain ⟨tb, htb⟩ : ∃ tb, tb = decide (a.bits = b.bits) := ⟨_, rfl⟩
  rw [← htb] at heb
  have HTB := Aside.mk htb
  clear htb
  have BW := Aside.mk ((below_new w (.cells #[.int .i64 a.k, .int .i64 a.s, .int .i64 a.n, .int .i64 a.m, .slice B.a a.bits.length B.c, .slice D.a a.data.length D.c, .slice E.a a.ends.length E.c, .slice X.a a.words.length X.c] 43)).trans ((below_new _ (.cells #[.int .i64 b.k, .int .i64 b.s, .int .i64 b.n, .int .i64 b.m, .slice B2.a b.bits.length B2.c, .slice D2.a b.data.length D2.c, .slice E2.a b.ends.length E2.c, .slice X2.a b.words.length X2.c] 43)).mono (by simp)))
  have HXA := Aside.mk (show ((w.alloc (.cells #[.int .i64 a.k, .int .i64 a.s, .int .i64 a.n, .int .i64 a.m, .slice B.a a.bits.length B.c, .slice D.a a.data.length D.c, .slice E.a a.ends.length E.c, .slice X.a a.words.length X.c] 43)).alloc (.cells #[.int .i64 b.k, .int .i64 b.s, .int .i64 b.n, .int .i64 b.m, .slice B2.a b.bits.length B2.c, .slice D2.a b.data.length D2.c, .slice E2.a b.ends.length E2.c, .slice X2.a b.words.length X2.c] 43)).heap[w.heap.size]? = some (.cells #[.int .i64 a.k, .int .i64 a.s, .int .i64 a.n, .int .i64 a.m, .slice B.a a.bits.length B.c, .slice D.a a.data.length D.c, .slice E.a a.ends.length E.c, .slice X.a a.words.length X.c] 43 (0, 0)) by
    rw [Below.heap_alloc _ _ _ (by simp)]; exact heap_alloc_new w _)
  have HXB := Aside.mk (show ((w.alloc (.cells #[.int .i64 a.k, .int .i64 a.s, .int .i64 a.n, .int .i64 a.m, .slice B.a a.bits.length B.c, .slice D.a a.data.length D.c, .slice E.a a.ends.length E.c, .slice X.a a.words.length X.c] 43)).alloc (.cells #[.int .i64 b.k, .int .i64 b.s, .int .i64 b.n, .int .i64 b.m, .slice B2.a b.bits.length B2.c, .slice D2.a b.data.length D2.c, .slice E2.a b.ends.length E2.c, .slice X2.a b.words.length X2.c] 43)).heap[w.heap.size + 1]? = some (.cells #[.int .i64 b.k, .int .i64 b.s, .int .i64 b.n, .int .i64 b.m, .slice B2.a b.bits.length B2.c, .slice D2.a b.data.length D2.c, .slice E2.a b.ends.length E2.c, .slice X2.a b.words.length X2.c] 43 (0, 0)) by
    simpa using heap_alloc_new (w.alloc (.cells #[.int .i64 a.k, .int .i64 a.s, .int .i64 a.n, .int .i64 a.m, .slice B.a a.bits.length B.c, .slice D.a a.data.length D.c, .slice E.a a.ends.length E.c, .slice X.a a.words.length X.c] 43)) (.cells #[.int .i64 b.k, .int .i64 b.s, .int .i64 b.n, .int .i64 b.m, .slice B2.a b.bits.length B2.c, .slice D2.a b.data.length D2.c, .slice E2.a b.ends.length E2.c, .slice X2.a b.words.length X2.c] 43))
  go_enter Try.func22, Try.ntmps22
  go_wp2_with fail
  generalize ((w.alloc (.cells #[.int .i64 a.k, .int .i64 a.s, .int .i64 a.n, .int .i64 a.m, .slice B.a a.bits.length B.c, .slice D.a a.data.length D.c, .slice E.a a.ends.length E.c, .slice X.a a.words.length X.c] 43)).alloc (.cells #[.int .i64 b.k, .int .i64 b.s, .int .i64 b.n, .int .i64 b.m, .slice B2.a b.bits.length B2.c, .slice D2.a b.data.length D2.c, .slice E2.a b.ends.length E2.c, .slice X2.a b.words.length X2.c] 43)) = w1 at *
  refine (hca.out _ BW.out).mono ?_
  rintro e w2 ⟨rfl, hb2⟩
  replace BW := Aside.mk (BW.out.trans (hb2.mono BW.out.size)); replace HXA := Aside.mk ((hb2.block _ (lt_of_blk HXA.out)).trans HXA.out); replace HXB := Aside.mk ((hb2.block _ (lt_of_blk HXB.out)).trans HXB.out); obtain ⟨p0, p1, p2, p3, p4, p5, p6, p7⟩ := box8 HXA.out; obtain ⟨q0, q1, q2, q3, q4, q5, q6, q7⟩ := box8 HXB.out; clear hb2
  clear hca
  by_cases h1 : ra = 0
  rotate_left
  · have HF := Aside.mk (show false = sameC a b by rw [HS.out]; simp [h1])
    have h1' : (ra == 0) = false := by simpa using h1
    clear h1
    go_wp2_with (first | (go_at_call 30; first | (refine (hca.out _ BW.out).mono ?_; rintro e w2 ⟨rfl, hb2⟩; clear hca; replace BW := Aside.mk (BW.out.trans (hb2.mono BW.out.size)); replace HXA := Aside.mk ((hb2.block _ (lt_of_blk HXA.out)).trans HXA.out); replace HXB := Aside.mk ((hb2.block _ (lt_of_blk HXB.out)).trans HXB.out); obtain ⟨p0, p1, p2, p3, p4, p5, p6, p7⟩ := box8 HXA.out; obtain ⟨q0, q1, q2, q3, q4, q5, q6, q7⟩ := box8 HXB.out; clear hb2) | (refine (hcb.out _ BW.out).mono ?_; rintro e w2 ⟨rfl, hb2⟩; replace BW := Aside.mk (BW.out.trans (hb2.mono BW.out.size)); replace HXA := Aside.mk ((hb2.block _ (lt_of_blk HXA.out)).trans HXA.out); replace HXB := Aside.mk ((hb2.block _ (lt_of_blk HXB.out)).trans HXB.out); obtain ⟨p0, p1, p2, p3, p4, p5, p6, p7⟩ := box8 HXA.out; obtain ⟨q0, q1, q2, q3, q4, q5, q6, q7⟩ := box8 HXB.out; clear hb2)) | (go_at_call 58; first | (refine (heb.out _ BW.out).mono ?_; rintro e w2 ⟨rfl, hb2⟩; clear heb; replace BW := Aside.mk (BW.out.trans (hb2.mono BW.out.size)); replace HXA := Aside.mk ((hb2.block _ (lt_of_blk HXA.out)).trans HXA.out); replace HXB := Aside.mk ((hb2.block _ (lt_of_blk HXB.out)).trans HXB.out); obtain ⟨p0, p1, p2, p3, p4, p5, p6, p7⟩ := box8 HXA.out; obtain ⟨q0, q1, q2, q3, q4, q5, q6, q7⟩ := box8 HXB.out; clear hb2) | (refine (hed.out _ BW.out).mono ?_; rintro e w2 ⟨rfl, hb2⟩; replace BW := Aside.mk (BW.out.trans (hb2.mono BW.out.size)); replace HXA := Aside.mk ((hb2.block _ (lt_of_blk HXA.out)).trans HXA.out); replace HXB := Aside.mk ((hb2.block _ (lt_of_blk HXB.out)).trans HXB.out); obtain ⟨p0, p1, p2, p3, p4, p5, p6, p7⟩ := box8 HXA.out; obtain ⟨q0, q1, q2, q3, q4, q5, q6, q7⟩ := box8 HXB.out; clear hb2)) | (go_at_call 59; refine (hee.out _ BW.out).mono ?_; rintro e w2 ⟨rfl, hb2⟩; replace BW := Aside.mk (BW.out.trans (hb2.mono BW.out.size)); replace HXA := Aside.mk ((hb2.block _ (lt_of_blk HXA.out)).trans HXA.out); replace HXB := Aside.mk ((hb2.block _ (lt_of_blk HXB.out)).trans HXB.out); obtain ⟨p0, p1, p2, p3, p4, p5, p6, p7⟩ := box8 HXA.out; obtain ⟨q0, q1, q2, q3, q4, q5, q6, q7⟩ := box8 HXB.out; clear hb2) | (go_at_call 60; refine (hew.out _ BW.out).mono ?_; rintro e w2 ⟨rfl, hb2⟩; replace BW := Aside.mk (BW.out.trans (hb2.mono BW.out.size)); replace HXA := Aside.mk ((hb2.block _ (lt_of_blk HXA.out)).trans HXA.out); replace HXB := Aside.mk ((hb2.block _ (lt_of_blk HXB.out)).trans HXB.out); obtain ⟨p0, p1, p2, p3, p4, p5, p6, p7⟩ := box8 HXA.out; obtain ⟨q0, q1, q2, q3, q4, q5, q6, q7⟩ := box8 HXB.out; clear hb2))
    go_ret
    exact ⟨ret_bool HF.out, BW.out⟩
  have h1' : (ra == 0) = true := by simpa using h1
  by_cases h2 : rb = 0
  rotate_left
  · have HF := Aside.mk (show false = sameC a b by rw [HS.out]; simp [h2])
    have h2' : (rb == 0) = false := by simpa using h2
    clear h2
    go_wp2_with (first | (go_at_call 30; first | (refine (hca.out _ BW.out).mono ?_; rintro e w2 ⟨rfl, hb2⟩; clear hca; replace BW := Aside.mk (BW.out.trans (hb2.mono BW.out.size)); replace HXA := Aside.mk ((hb2.block _ (lt_of_blk HXA.out)).trans HXA.out); replace HXB := Aside.mk ((hb2.block _ (lt_of_blk HXB.out)).trans HXB.out); obtain ⟨p0, p1, p2, p3, p4, p5, p6, p7⟩ := box8 HXA.out; obtain ⟨q0, q1, q2, q3, q4, q5, q6, q7⟩ := box8 HXB.out; clear hb2) | (refine (hcb.out _ BW.out).mono ?_; rintro e w2 ⟨rfl, hb2⟩; replace BW := Aside.mk (BW.out.trans (hb2.mono BW.out.size)); replace HXA := Aside.mk ((hb2.block _ (lt_of_blk HXA.out)).trans HXA.out); replace HXB := Aside.mk ((hb2.block _ (lt_of_blk HXB.out)).trans HXB.out); obtain ⟨p0, p1, p2, p3, p4, p5, p6, p7⟩ := box8 HXA.out; obtain ⟨q0, q1, q2, q3, q4, q5, q6, q7⟩ := box8 HXB.out; clear hb2)) | (go_at_call 58; first | (refine (heb.out _ BW.out).mono ?_; rintro e w2 ⟨rfl, hb2⟩; clear heb; replace BW := Aside.mk (BW.out.trans (hb2.mono BW.out.size)); replace HXA := Aside.mk ((hb2.block _ (lt_of_blk HXA.out)).trans HXA.out); replace HXB := Aside.mk ((hb2.block _ (lt_of_blk HXB.out)).trans HXB.out); obtain ⟨p0, p1, p2, p3, p4, p5, p6, p7⟩ := box8 HXA.out; obtain ⟨q0, q1, q2, q3, q4, q5, q6, q7⟩ := box8 HXB.out; clear hb2) | (refine (hed.out _ BW.out).mono ?_; rintro e w2 ⟨rfl, hb2⟩; replace BW := Aside.mk (BW.out.trans (hb2.mono BW.out.size)); replace HXA := Aside.mk ((hb2.block _ (lt_of_blk HXA.out)).trans HXA.out); replace HXB := Aside.mk ((hb2.block _ (lt_of_blk HXB.out)).trans HXB.out); obtain ⟨p0, p1, p2, p3, p4, p5, p6, p7⟩ := box8 HXA.out; obtain ⟨q0, q1, q2, q3, q4, q5, q6, q7⟩ := box8 HXB.out; clear hb2)) | (go_at_call 59; refine (hee.out _ BW.out).mono ?_; rintro e w2 ⟨rfl, hb2⟩; replace BW := Aside.mk (BW.out.trans (hb2.mono BW.out.size)); replace HXA := Aside.mk ((hb2.block _ (lt_of_blk HXA.out)).trans HXA.out); replace HXB := Aside.mk ((hb2.block _ (lt_of_blk HXB.out)).trans HXB.out); obtain ⟨p0, p1, p2, p3, p4, p5, p6, p7⟩ := box8 HXA.out; obtain ⟨q0, q1, q2, q3, q4, q5, q6, q7⟩ := box8 HXB.out; clear hb2) | (go_at_call 60; refine (hew.out _ BW.out).mono ?_; rintro e w2 ⟨rfl, hb2⟩; replace BW := Aside.mk (BW.out.trans (hb2.mono BW.out.size)); replace HXA := Aside.mk ((hb2.block _ (lt_of_blk HXA.out)).trans HXA.out); replace HXB := Aside.mk ((hb2.block _ (lt_of_blk HXB.out)).trans HXB.out); obtain ⟨p0, p1, p2, p3, p4, p5, p6, p7⟩ := box8 HXA.out; obtain ⟨q0, q1, q2, q3, q4, q5, q6, q7⟩ := box8 HXB.out; clear hb2))
    go_ret
    exact ⟨ret_bool HF.out, BW.out⟩
  have h2' : (rb == 0) = true := by simpa using h2
  by_cases h3 : a.k = b.k
  rotate_left
  · have HF := Aside.mk (show false = sameC a b by rw [HS.out]; simp [h3])
    have h3' : (a.k == b.k) = false := by simpa using h3
    clear h3
    go_wp2_with (first | (go_at_call 30; first | (refine (hca.out _ BW.out).mono ?_; rintro e w2 ⟨rfl, hb2⟩; clear hca; replace BW := Aside.mk (BW.out.trans (hb2.mono BW.out.size)); replace HXA := Aside.mk ((hb2.block _ (lt_of_blk HXA.out)).trans HXA.out); replace HXB := Aside.mk ((hb2.block _ (lt_of_blk HXB.out)).trans HXB.out); obtain ⟨p0, p1, p2, p3, p4, p5, p6, p7⟩ := box8 HXA.out; obtain ⟨q0, q1, q2, q3, q4, q5, q6, q7⟩ := box8 HXB.out; clear hb2) | (refine (hcb.out _ BW.out).mono ?_; rintro e w2 ⟨rfl, hb2⟩; replace BW := Aside.mk (BW.out.trans (hb2.mono BW.out.size)); replace HXA := Aside.mk ((hb2.block _ (lt_of_blk HXA.out)).trans HXA.out); replace HXB := Aside.mk ((hb2.block _ (lt_of_blk HXB.out)).trans HXB.out); obtain ⟨p0, p1, p2, p3, p4, p5, p6, p7⟩ := box8 HXA.out; obtain ⟨q0, q1, q2, q3, q4, q5, q6, q7⟩ := box8 HXB.out; clear hb2)) | (go_at_call 58; first | (refine (heb.out _ BW.out).mono ?_; rintro e w2 ⟨rfl, hb2⟩; clear heb; replace BW := Aside.mk (BW.out.trans (hb2.mono BW.out.size)); replace HXA := Aside.mk ((hb2.block _ (lt_of_blk HXA.out)).trans HXA.out); replace HXB := Aside.mk ((hb2.block _ (lt_of_blk HXB.out)).trans HXB.out); obtain ⟨p0, p1, p2, p3, p4, p5, p6, p7⟩ := box8 HXA.out; obtain ⟨q0, q1, q2, q3, q4, q5, q6, q7⟩ := box8 HXB.out; clear hb2) | (refine (hed.out _ BW.out).mono ?_; rintro e w2 ⟨rfl, hb2⟩; replace BW := Aside.mk (BW.out.trans (hb2.mono BW.out.size)); replace HXA := Aside.mk ((hb2.block _ (lt_of_blk HXA.out)).trans HXA.out); replace HXB := Aside.mk ((hb2.block _ (lt_of_blk HXB.out)).trans HXB.out); obtain ⟨p0, p1, p2, p3, p4, p5, p6, p7⟩ := box8 HXA.out; obtain ⟨q0, q1, q2, q3, q4, q5, q6, q7⟩ := box8 HXB.out; clear hb2)) | (go_at_call 59; refine (hee.out _ BW.out).mono ?_; rintro e w2 ⟨rfl, hb2⟩; replace BW := Aside.mk (BW.out.trans (hb2.mono BW.out.size)); replace HXA := Aside.mk ((hb2.block _ (lt_of_blk HXA.out)).trans HXA.out); replace HXB := Aside.mk ((hb2.block _ (lt_of_blk HXB.out)).trans HXB.out); obtain ⟨p0, p1, p2, p3, p4, p5, p6, p7⟩ := box8 HXA.out; obtain ⟨q0, q1, q2, q3, q4, q5, q6, q7⟩ := box8 HXB.out; clear hb2) | (go_at_call 60; refine (hew.out _ BW.out).mono ?_; rintro e w2 ⟨rfl, hb2⟩; replace BW := Aside.mk (BW.out.trans (hb2.mono BW.out.size)); replace HXA := Aside.mk ((hb2.block _ (lt_of_blk HXA.out)).trans HXA.out); replace HXB := Aside.mk ((hb2.block _ (lt_of_blk HXB.out)).trans HXB.out); obtain ⟨p0, p1, p2, p3, p4, p5, p6, p7⟩ := box8 HXA.out; obtain ⟨q0, q1, q2, q3, q4, q5, q6, q7⟩ := box8 HXB.out; clear hb2))
    go_ret
    exact ⟨ret_bool HF.out, BW.out⟩
  have h3' : (a.k == b.k) = true := by simpa using h3
  by_cases h4 : a.s = b.s
  rotate_left
  · have HF := Aside.mk (show false = sameC a b by rw [HS.out]; simp [h4])
    have h4' : (a.s == b.s) = false := by simpa using h4
    clear h4
    go_wp2_with (first | (go_at_call 30; first | (refine (hca.out _ BW.out).mono ?_; rintro e w2 ⟨rfl, hb2⟩; clear hca; replace BW := Aside.mk (BW.out.trans (hb2.mono BW.out.size)); replace HXA := Aside.mk ((hb2.block _ (lt_of_blk HXA.out)).trans HXA.out); replace HXB := Aside.mk ((hb2.block _ (lt_of_blk HXB.out)).trans HXB.out); obtain ⟨p0, p1, p2, p3, p4, p5, p6, p7⟩ := box8 HXA.out; obtain ⟨q0, q1, q2, q3, q4, q5, q6, q7⟩ := box8 HXB.out; clear hb2) | (refine (hcb.out _ BW.out).mono ?_; rintro e w2 ⟨rfl, hb2⟩; replace BW := Aside.mk (BW.out.trans (hb2.mono BW.out.size)); replace HXA := Aside.mk ((hb2.block _ (lt_of_blk HXA.out)).trans HXA.out); replace HXB := Aside.mk ((hb2.block _ (lt_of_blk HXB.out)).trans HXB.out); obtain ⟨p0, p1, p2, p3, p4, p5, p6, p7⟩ := box8 HXA.out; obtain ⟨q0, q1, q2, q3, q4, q5, q6, q7⟩ := box8 HXB.out; clear hb2)) | (go_at_call 58; first | (refine (heb.out _ BW.out).mono ?_; rintro e w2 ⟨rfl, hb2⟩; clear heb; replace BW := Aside.mk (BW.out.trans (hb2.mono BW.out.size)); replace HXA := Aside.mk ((hb2.block _ (lt_of_blk HXA.out)).trans HXA.out); replace HXB := Aside.mk ((hb2.block _ (lt_of_blk HXB.out)).trans HXB.out); obtain ⟨p0, p1, p2, p3, p4, p5, p6, p7⟩ := box8 HXA.out; obtain ⟨q0, q1, q2, q3, q4, q5, q6, q7⟩ := box8 HXB.out; clear hb2) | (refine (hed.out _ BW.out).mono ?_; rintro e w2 ⟨rfl, hb2⟩; replace BW := Aside.mk (BW.out.trans (hb2.mono BW.out.size)); replace HXA := Aside.mk ((hb2.block _ (lt_of_blk HXA.out)).trans HXA.out); replace HXB := Aside.mk ((hb2.block _ (lt_of_blk HXB.out)).trans HXB.out); obtain ⟨p0, p1, p2, p3, p4, p5, p6, p7⟩ := box8 HXA.out; obtain ⟨q0, q1, q2, q3, q4, q5, q6, q7⟩ := box8 HXB.out; clear hb2)) | (go_at_call 59; refine (hee.out _ BW.out).mono ?_; rintro e w2 ⟨rfl, hb2⟩; replace BW := Aside.mk (BW.out.trans (hb2.mono BW.out.size)); replace HXA := Aside.mk ((hb2.block _ (lt_of_blk HXA.out)).trans HXA.out); replace HXB := Aside.mk ((hb2.block _ (lt_of_blk HXB.out)).trans HXB.out); obtain ⟨p0, p1, p2, p3, p4, p5, p6, p7⟩ := box8 HXA.out; obtain ⟨q0, q1, q2, q3, q4, q5, q6, q7⟩ := box8 HXB.out; clear hb2) | (go_at_call 60; refine (hew.out _ BW.out).mono ?_; rintro e w2 ⟨rfl, hb2⟩; replace BW := Aside.mk (BW.out.trans (hb2.mono BW.out.size)); replace HXA := Aside.mk ((hb2.block _ (lt_of_blk HXA.out)).trans HXA.out); replace HXB := Aside.mk ((hb2.block _ (lt_of_blk HXB.out)).trans HXB.out); obtain ⟨p0, p1, p2, p3, p4, p5, p6, p7⟩ := box8 HXA.out; obtain ⟨q0, q1, q2, q3, q4, q5, q6, q7⟩ := box8 HXB.out; clear hb2))
    go_ret
    exact ⟨ret_bool HF.out, BW.out⟩
  have h4' : (a.s == b.s) = true := by simpa using h4
  by_cases h5 : a.n = b.n
  rotate_left
  · have HF := Aside.mk (show false = sameC a b by rw [HS.out]; simp [h5])
    have h5' : (a.n == b.n) = false := by simpa using h5
    clear h5
    go_wp2_with (first | (go_at_call 30; first | (refine (hca.out _ BW.out).mono ?_; rintro e w2 ⟨rfl, hb2⟩; clear hca; replace BW := Aside.mk (BW.out.trans (hb2.mono BW.out.size)); replace HXA := Aside.mk ((hb2.block _ (lt_of_blk HXA.out)).trans HXA.out); replace HXB := Aside.mk ((hb2.block _ (lt_of_blk HXB.out)).trans HXB.out); obtain ⟨p0, p1, p2, p3, p4, p5, p6, p7⟩ := box8 HXA.out; obtain ⟨q0, q1, q2, q3, q4, q5, q6, q7⟩ := box8 HXB.out; clear hb2) | (refine (hcb.out _ BW.out).mono ?_; rintro e w2 ⟨rfl, hb2⟩; replace BW := Aside.mk (BW.out.trans (hb2.mono BW.out.size)); replace HXA := Aside.mk ((hb2.block _ (lt_of_blk HXA.out)).trans HXA.out); replace HXB := Aside.mk ((hb2.block _ (lt_of_blk HXB.out)).trans HXB.out); obtain ⟨p0, p1, p2, p3, p4, p5, p6, p7⟩ := box8 HXA.out; obtain ⟨q0, q1, q2, q3, q4, q5, q6, q7⟩ := box8 HXB.out; clear hb2)) | (go_at_call 58; first | (refine (heb.out _ BW.out).mono ?_; rintro e w2 ⟨rfl, hb2⟩; clear heb; replace BW := Aside.mk (BW.out.trans (hb2.mono BW.out.size)); replace HXA := Aside.mk ((hb2.block _ (lt_of_blk HXA.out)).trans HXA.out); replace HXB := Aside.mk ((hb2.block _ (lt_of_blk HXB.out)).trans HXB.out); obtain ⟨p0, p1, p2, p3, p4, p5, p6, p7⟩ := box8 HXA.out; obtain ⟨q0, q1, q2, q3, q4, q5, q6, q7⟩ := box8 HXB.out; clear hb2) | (refine (hed.out _ BW.out).mono ?_; rintro e w2 ⟨rfl, hb2⟩; replace BW := Aside.mk (BW.out.trans (hb2.mono BW.out.size)); replace HXA := Aside.mk ((hb2.block _ (lt_of_blk HXA.out)).trans HXA.out); replace HXB := Aside.mk ((hb2.block _ (lt_of_blk HXB.out)).trans HXB.out); obtain ⟨p0, p1, p2, p3, p4, p5, p6, p7⟩ := box8 HXA.out; obtain ⟨q0, q1, q2, q3, q4, q5, q6, q7⟩ := box8 HXB.out; clear hb2)) | (go_at_call 59; refine (hee.out _ BW.out).mono ?_; rintro e w2 ⟨rfl, hb2⟩; replace BW := Aside.mk (BW.out.trans (hb2.mono BW.out.size)); replace HXA := Aside.mk ((hb2.block _ (lt_of_blk HXA.out)).trans HXA.out); replace HXB := Aside.mk ((hb2.block _ (lt_of_blk HXB.out)).trans HXB.out); obtain ⟨p0, p1, p2, p3, p4, p5, p6, p7⟩ := box8 HXA.out; obtain ⟨q0, q1, q2, q3, q4, q5, q6, q7⟩ := box8 HXB.out; clear hb2) | (go_at_call 60; refine (hew.out _ BW.out).mono ?_; rintro e w2 ⟨rfl, hb2⟩; replace BW := Aside.mk (BW.out.trans (hb2.mono BW.out.size)); replace HXA := Aside.mk ((hb2.block _ (lt_of_blk HXA.out)).trans HXA.out); replace HXB := Aside.mk ((hb2.block _ (lt_of_blk HXB.out)).trans HXB.out); obtain ⟨p0, p1, p2, p3, p4, p5, p6, p7⟩ := box8 HXA.out; obtain ⟨q0, q1, q2, q3, q4, q5, q6, q7⟩ := box8 HXB.out; clear hb2))
    go_ret
    exact ⟨ret_bool HF.out, BW.out⟩
  have h5' : (a.n == b.n) = true := by simpa using h5
  have h6 : ∀ r : Bool, r = (tb && decide (a.data = b.data) && decide (a.ends = b.ends) && decide (a.words = b.words)) → r = sameC a b := fun r hr => by
    rw [HS.out, hr, HTB.out]
    simp [h1, h2, h3, h4, h5, Bool.and_assoc]
  have H6 := Aside.mk h6
  clear h1 h2 h3 h4 h5 h6
  generalize decide (a.data = b.data) = td at *
  generalize decide (a.ends = b.ends) = te at *
  generalize decide (a.words = b.words) = tw at *
  cases tb with
  | false =>
    go_wp2_with (first | (go_at_call 30; first | (refine (hca.out _ BW.out).mono ?_; rintro e w2 ⟨rfl, hb2⟩; clear hca; replace BW := Aside.mk (BW.out.trans (hb2.mono BW.out.size)); replace HXA := Aside.mk ((hb2.block _ (lt_of_blk HXA.out)).trans HXA.out); replace HXB := Aside.mk ((hb2.block _ (lt_of_blk HXB.out)).trans HXB.out); obtain ⟨p0, p1, p2, p3, p4, p5, p6, p7⟩ := box8 HXA.out; obtain ⟨q0, q1, q2, q3, q4, q5, q6, q7⟩ := box8 HXB.out; clear hb2) | (refine (hcb.out _ BW.out).mono ?_; rintro e w2 ⟨rfl, hb2⟩; replace BW := Aside.mk (BW.out.trans (hb2.mono BW.out.size)); replace HXA := Aside.mk ((hb2.block _ (lt_of_blk HXA.out)).trans HXA.out); replace HXB := Aside.mk ((hb2.block _ (lt_of_blk HXB.out)).trans HXB.out); obtain ⟨p0, p1, p2, p3, p4, p5, p6, p7⟩ := box8 HXA.out; obtain ⟨q0, q1, q2, q3, q4, q5, q6, q7⟩ := box8 HXB.out; clear hb2)) | (go_at_call 58; first | (refine (heb.out _ BW.out).mono ?_; rintro e w2 ⟨rfl, hb2⟩; clear heb; replace BW := Aside.mk (BW.out.trans (hb2.mono BW.out.size)); replace HXA := Aside.mk ((hb2.block _ (lt_of_blk HXA.out)).trans HXA.out); replace HXB := Aside.mk ((hb2.block _ (lt_of_blk HXB.out)).trans HXB.out); obtain ⟨p0, p1, p2, p3, p4, p5, p6, p7⟩ := box8 HXA.out; obtain ⟨q0, q1, q2, q3, q4, q5, q6, q7⟩ := box8 HXB.out; clear hb2) | (refine (hed.out _ BW.out).mono ?_; rintro e w2 ⟨rfl, hb2⟩; replace BW := Aside.mk (BW.out.trans (hb2.mono BW.out.size)); replace HXA := Aside.mk ((hb2.block _ (lt_of_blk HXA.out)).trans HXA.out); replace HXB := Aside.mk ((hb2.block _ (lt_of_blk HXB.out)).trans HXB.out); obtain ⟨p0, p1, p2, p3, p4, p5, p6, p7⟩ := box8 HXA.out; obtain ⟨q0, q1, q2, q3, q4, q5, q6, q7⟩ := box8 HXB.out; clear hb2)) | (go_at_call 59; refine (hee.out _ BW.out).mono ?_; rintro e w2 ⟨rfl, hb2⟩; replace BW := Aside.mk (BW.out.trans (hb2.mono BW.out.size)); replace HXA := Aside.mk ((hb2.block _ (lt_of_blk HXA.out)).trans HXA.out); replace HXB := Aside.mk ((hb2.block _ (lt_of_blk HXB.out)).trans HXB.out); obtain ⟨p0, p1, p2, p3, p4, p5, p6, p7⟩ := box8 HXA.out; obtain ⟨q0, q1, q2, q3, q4, q5, q6, q7⟩ := box8 HXB.out; clear hb2) | (go_at_call 60; refine (hew.out _ BW.out).mono ?_; rintro e w2 ⟨rfl, hb2⟩; replace BW := Aside.mk (BW.out.trans (hb2.mono BW.out.size)); replace HXA := Aside.mk ((hb2.block _ (lt_of_blk HXA.out)).trans HXA.out); replace HXB := Aside.mk ((hb2.block _ (lt_of_blk HXB.out)).trans HXB.out); obtain ⟨p0, p1, p2, p3, p4, p5, p6, p7⟩ := box8 HXA.out; obtain ⟨q0, q1, q2, q3, q4, q5, q6, q7⟩ := box8 HXB.out; clear hb2))
    go_ret
    exact ⟨ret_bool (H6.out _ (by simp)), BW.out⟩
  | true =>
    cases td with
    | false =>
      go_wp2_with (first | (go_at_call 30; first | (refine (hca.out _ BW.out).mono ?_; rintro e w2 ⟨rfl, hb2⟩; clear hca; replace BW := Aside.mk (BW.out.trans (hb2.mono BW.out.size)); replace HXA := Aside.mk ((hb2.block _ (lt_of_blk HXA.out)).trans HXA.out); replace HXB := Aside.mk ((hb2.block _ (lt_of_blk HXB.out)).trans HXB.out); obtain ⟨p0, p1, p2, p3, p4, p5, p6, p7⟩ := box8 HXA.out; obtain ⟨q0, q1, q2, q3, q4, q5, q6, q7⟩ := box8 HXB.out; clear hb2) | (refine (hcb.out _ BW.out).mono ?_; rintro e w2 ⟨rfl, hb2⟩; replace BW := Aside.mk (BW.out.trans (hb2.mono BW.out.size)); replace HXA := Aside.mk ((hb2.block _ (lt_of_blk HXA.out)).trans HXA.out); replace HXB := Aside.mk ((hb2.block _ (lt_of_blk HXB.out)).trans HXB.out); obtain ⟨p0, p1, p2, p3, p4, p5, p6, p7⟩ := box8 HXA.out; obtain ⟨q0, q1, q2, q3, q4, q5, q6, q7⟩ := box8 HXB.out; clear hb2)) | (go_at_call 58; first | (refine (heb.out _ BW.out).mono ?_; rintro e w2 ⟨rfl, hb2⟩; clear heb; replace BW := Aside.mk (BW.out.trans (hb2.mono BW.out.size)); replace HXA := Aside.mk ((hb2.block _ (lt_of_blk HXA.out)).trans HXA.out); replace HXB := Aside.mk ((hb2.block _ (lt_of_blk HXB.out)).trans HXB.out); obtain ⟨p0, p1, p2, p3, p4, p5, p6, p7⟩ := box8 HXA.out; obtain ⟨q0, q1, q2, q3, q4, q5, q6, q7⟩ := box8 HXB.out; clear hb2) | (refine (hed.out _ BW.out).mono ?_; rintro e w2 ⟨rfl, hb2⟩; replace BW := Aside.mk (BW.out.trans (hb2.mono BW.out.size)); replace HXA := Aside.mk ((hb2.block _ (lt_of_blk HXA.out)).trans HXA.out); replace HXB := Aside.mk ((hb2.block _ (lt_of_blk HXB.out)).trans HXB.out); obtain ⟨p0, p1, p2, p3, p4, p5, p6, p7⟩ := box8 HXA.out; obtain ⟨q0, q1, q2, q3, q4, q5, q6, q7⟩ := box8 HXB.out; clear hb2)) | (go_at_call 59; refine (hee.out _ BW.out).mono ?_; rintro e w2 ⟨rfl, hb2⟩; replace BW := Aside.mk (BW.out.trans (hb2.mono BW.out.size)); replace HXA := Aside.mk ((hb2.block _ (lt_of_blk HXA.out)).trans HXA.out); replace HXB := Aside.mk ((hb2.block _ (lt_of_blk HXB.out)).trans HXB.out); obtain ⟨p0, p1, p2, p3, p4, p5, p6, p7⟩ := box8 HXA.out; obtain ⟨q0, q1, q2, q3, q4, q5, q6, q7⟩ := box8 HXB.out; clear hb2) | (go_at_call 60; refine (hew.out _ BW.out).mono ?_; rintro e w2 ⟨rfl, hb2⟩; replace BW := Aside.mk (BW.out.trans (hb2.mono BW.out.size)); replace HXA := Aside.mk ((hb2.block _ (lt_of_blk HXA.out)).trans HXA.out); replace HXB := Aside.mk ((hb2.block _ (lt_of_blk HXB.out)).trans HXB.out); obtain ⟨p0, p1, p2, p3, p4, p5, p6, p7⟩ := box8 HXA.out; obtain ⟨q0, q1, q2, q3, q4, q5, q6, q7⟩ := box8 HXB.out; clear hb2))
      go_ret
      exact ⟨ret_bool (H6.out _ (by simp)), BW.out⟩
    | true =>
      cases te with
      | false =>
        go_wp2_with (first | (go_at_call 30; first | (refine (hca.out _ BW.out).mono ?_; rintro e w2 ⟨rfl, hb2⟩; clear hca; replace BW := Aside.mk (BW.out.trans (hb2.mono BW.out.size)); replace HXA := Aside.mk ((hb2.block _ (lt_of_blk HXA.out)).trans HXA.out); replace HXB := Aside.mk ((hb2.block _ (lt_of_blk HXB.out)).trans HXB.out); obtain ⟨p0, p1, p2, p3, p4, p5, p6, p7⟩ := box8 HXA.out; obtain ⟨q0, q1, q2, q3, q4, q5, q6, q7⟩ := box8 HXB.out; clear hb2) | (refine (hcb.out _ BW.out).mono ?_; rintro e w2 ⟨rfl, hb2⟩; replace BW := Aside.mk (BW.out.trans (hb2.mono BW.out.size)); replace HXA := Aside.mk ((hb2.block _ (lt_of_blk HXA.out)).trans HXA.out); replace HXB := Aside.mk ((hb2.block _ (lt_of_blk HXB.out)).trans HXB.out); obtain ⟨p0, p1, p2, p3, p4, p5, p6, p7⟩ := box8 HXA.out; obtain ⟨q0, q1, q2, q3, q4, q5, q6, q7⟩ := box8 HXB.out; clear hb2)) | (go_at_call 58; first | (refine (heb.out _ BW.out).mono ?_; rintro e w2 ⟨rfl, hb2⟩; clear heb; replace BW := Aside.mk (BW.out.trans (hb2.mono BW.out.size)); replace HXA := Aside.mk ((hb2.block _ (lt_of_blk HXA.out)).trans HXA.out); replace HXB := Aside.mk ((hb2.block _ (lt_of_blk HXB.out)).trans HXB.out); obtain ⟨p0, p1, p2, p3, p4, p5, p6, p7⟩ := box8 HXA.out; obtain ⟨q0, q1, q2, q3, q4, q5, q6, q7⟩ := box8 HXB.out; clear hb2) | (refine (hed.out _ BW.out).mono ?_; rintro e w2 ⟨rfl, hb2⟩; replace BW := Aside.mk (BW.out.trans (hb2.mono BW.out.size)); replace HXA := Aside.mk ((hb2.block _ (lt_of_blk HXA.out)).trans HXA.out); replace HXB := Aside.mk ((hb2.block _ (lt_of_blk HXB.out)).trans HXB.out); obtain ⟨p0, p1, p2, p3, p4, p5, p6, p7⟩ := box8 HXA.out; obtain ⟨q0, q1, q2, q3, q4, q5, q6, q7⟩ := box8 HXB.out; clear hb2)) | (go_at_call 59; refine (hee.out _ BW.out).mono ?_; rintro e w2 ⟨rfl, hb2⟩; replace BW := Aside.mk (BW.out.trans (hb2.mono BW.out.size)); replace HXA := Aside.mk ((hb2.block _ (lt_of_blk HXA.out)).trans HXA.out); replace HXB := Aside.mk ((hb2.block _ (lt_of_blk HXB.out)).trans HXB.out); obtain ⟨p0, p1, p2, p3, p4, p5, p6, p7⟩ := box8 HXA.out; obtain ⟨q0, q1, q2, q3, q4, q5, q6, q7⟩ := box8 HXB.out; clear hb2) | (go_at_call 60; refine (hew.out _ BW.out).mono ?_; rintro e w2 ⟨rfl, hb2⟩; replace BW := Aside.mk (BW.out.trans (hb2.mono BW.out.size)); replace HXA := Aside.mk ((hb2.block _ (lt_of_blk HXA.out)).trans HXA.out); replace HXB := Aside.mk ((hb2.block _ (lt_of_blk HXB.out)).trans HXB.out); obtain ⟨p0, p1, p2, p3, p4, p5, p6, p7⟩ := box8 HXA.out; obtain ⟨q0, q1, q2, q3, q4, q5, q6, q7⟩ := box8 HXB.out; clear hb2))
        go_ret
        exact ⟨ret_bool (H6.out _ (by simp)), BW.out⟩
      | true =>
        go_wp2_with (first | (go_at_call 30; first | (refine (hca.out _ BW.out).mono ?_; rintro e w2 ⟨rfl, hb2⟩; clear hca; replace BW := Aside.mk (BW.out.trans (hb2.mono BW.out.size)); replace HXA := Aside.mk ((hb2.block _ (lt_of_blk HXA.out)).trans HXA.out); replace HXB := Aside.mk ((hb2.block _ (lt_of_blk HXB.out)).trans HXB.out); obtain ⟨p0, p1, p2, p3, p4, p5, p6, p7⟩ := box8 HXA.out; obtain ⟨q0, q1, q2, q3, q4, q5, q6, q7⟩ := box8 HXB.out; clear hb2) | (refine (hcb.out _ BW.out).mono ?_; rintro e w2 ⟨rfl, hb2⟩; replace BW := Aside.mk (BW.out.trans (hb2.mono BW.out.size)); replace HXA := Aside.mk ((hb2.block _ (lt_of_blk HXA.out)).trans HXA.out); replace HXB := Aside.mk ((hb2.block _ (lt_of_blk HXB.out)).trans HXB.out); obtain ⟨p0, p1, p2, p3, p4, p5, p6, p7⟩ := box8 HXA.out; obtain ⟨q0, q1, q2, q3, q4, q5, q6, q7⟩ := box8 HXB.out; clear hb2)) | (go_at_call 58; first | (refine (heb.out _ BW.out).mono ?_; rintro e w2 ⟨rfl, hb2⟩; clear heb; replace BW := Aside.mk (BW.out.trans (hb2.mono BW.out.size)); replace HXA := Aside.mk ((hb2.block _ (lt_of_blk HXA.out)).trans HXA.out); replace HXB := Aside.mk ((hb2.block _ (lt_of_blk HXB.out)).trans HXB.out); obtain ⟨p0, p1, p2, p3, p4, p5, p6, p7⟩ := box8 HXA.out; obtain ⟨q0, q1, q2, q3, q4, q5, q6, q7⟩ := box8 HXB.out; clear hb2) | (refine (hed.out _ BW.out).mono ?_; rintro e w2 ⟨rfl, hb2⟩; replace BW := Aside.mk (BW.out.trans (hb2.mono BW.out.size)); replace HXA := Aside.mk ((hb2.block _ (lt_of_blk HXA.out)).trans HXA.out); replace HXB := Aside.mk ((hb2.block _ (lt_of_blk HXB.out)).trans HXB.out); obtain ⟨p0, p1, p2, p3, p4, p5, p6, p7⟩ := box8 HXA.out; obtain ⟨q0, q1, q2, q3, q4, q5, q6, q7⟩ := box8 HXB.out; clear hb2)) | (go_at_call 59; refine (hee.out _ BW.out).mono ?_; rintro e w2 ⟨rfl, hb2⟩; replace BW := Aside.mk (BW.out.trans (hb2.mono BW.out.size)); replace HXA := Aside.mk ((hb2.block _ (lt_of_blk HXA.out)).trans HXA.out); replace HXB := Aside.mk ((hb2.block _ (lt_of_blk HXB.out)).trans HXB.out); obtain ⟨p0, p1, p2, p3, p4, p5, p6, p7⟩ := box8 HXA.out; obtain ⟨q0, q1, q2, q3, q4, q5, q6, q7⟩ := box8 HXB.out; clear hb2) | (go_at_call 60; refine (hew.out _ BW.out).mono ?_; rintro e w2 ⟨rfl, hb2⟩; replace BW := Aside.mk (BW.out.trans (hb2.mono BW.out.size)); replace HXA := Aside.mk ((hb2.block _ (lt_of_blk HXA.out)).trans HXA.out); replace HXB := Aside.mk ((hb2.block _ (lt_of_blk HXB.out)).trans HXB.out); obtain ⟨p0, p1, p2, p3, p4, p5, p6, p7⟩ := box8 HXA.out; obtain ⟨q0, q1, q2, q3, q4, q5, q6, q7⟩ := box8 HXB.out; clear hb2))
        go_ret
        exact ⟨ret_bool (H6.out _ (by simp)), BW.out⟩
end Go.Proofs.Ytmhjjhaipcgbiaa
