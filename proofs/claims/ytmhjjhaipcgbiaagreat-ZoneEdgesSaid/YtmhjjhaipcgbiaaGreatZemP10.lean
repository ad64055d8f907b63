/- Texts of this claim, one behind the other: MayF, Clone, Add2. -/
import Derived.Test.YtmhjjhaipcgbiaaGreatZemP9
import Derived.Test.YtmhjjhaipcgbiaaGreatZemP6
import Derived.Test.YtmhjjhaipcgbiaaGreatZemP8
import Derived.Test.YtmhjjhaipcgbiaaGreatZemP7

namespace Go.Proofs.YtmhjjhaipcgbiaaGreat
open Go.RowKit
set_option linter.unusedVariables false
set_option linter.unusedSimpArgs false
set_option maxRecDepth 100000
set_option maxHeartbeats 4000000
def okAt (k s : Int) (W : Nat) (c : Col) (i : Nat) : Bool := if nullB c.bits i then wordAt c.data (i * W) W == 0 else fitsB k s (wordAt c.data (i * W) W)
theorem mayFixed_eq (k s : Int) (W : Nat) (c : Col) : mayFixed k s W c = (sizedB W c && c.words.isEmpty && (List.range c.n.toNat).all (okAt k s W c)) := rfl
theorem all_false {n : Nat} {p : Nat → Bool} {i : Nat} (hi : i < n) (h : p i = false) : (List.range n).all p = false := by
  rw [List.all_eq_false]
  exact ⟨i, List.mem_range.2 hi, by rw [h]; decide⟩
theorem sized_nat {W : Nat} {c : Col} (h : sizedB W c = true) : c.data.length % W = 0 ∧ c.n = ((c.data.length / W : Nat) : Int) := by
  unfold sizedB at h
  simp only [Bool.and_eq_true, beq_iff_eq] at h
  exact ⟨h.1.1, h.1.2.symm⟩
theorem sized_room {W : Nat} {c : Col} (h : sizedB W c = true) (i : Nat) (hi : i < c.n.toNat) : i * W + W ≤ c.data.length := by
  obtain ⟨h1, h2⟩ := sized_nat h
  have h3 : i + 1 ≤ c.data.length / W := by omega
  have h4 := Nat.mul_le_mul_right W h3
  have h5 := Nat.div_mul_le_self c.data.length W
  rw [Nat.add_mul] at h4
  omega
theorem mayF_any (W : Nat) (hW : W = 1 ∨ W = 2 ∨ W = 4 ∨ W = 8) (c : Col) (hc : COK c) (hn : c.n ≤ 8 * (c.bits.length : Int)) (B D E X : SL) (vals : List Value) (w : World) (h : RdC w c B D E X vals) :
    Calls Tryz.prog 220 #[.agg #[.int .i64 (W : Int)], colV c B D E X] w (BoolP (mayFixed c.k c.s W c) w) := by
  have HR := Aside.mk h
  have HC := Aside.mk hc
  clear h hc
  dsimp only [colV]
  go_enter Tryz.func220, Tryz.ntmps220
  go_wp2_with fail
  generalize hw1 : ((w.alloc (.cells #[.int .i64 (W : Int)] 165)).alloc (.cells #[.int .i64 c.k, .int .i64 c.s, .int .i64 c.n, .int .i64 c.m, .slice B.a c.bits.length B.c, .slice D.a c.data.length D.c, .slice E.a c.ends.length E.c, .slice X.a c.words.length X.c] 63)) = w1 at *
  have BW := Aside.mk (show Below w.heap.size w w1 from hw1 ▸ ((below_new w _).trans ((below_new _ _).mono (by simp))))
  have BF := Aside.mk (show w1.heap[w.heap.size]? = some (.cells #[.int .i64 (W : Int)] 165 (0, 0)) by
    rw [← hw1, Below.heap_alloc _ _ _ (by simp)]; exact heap_alloc_new _ _)
  have BX := Aside.mk (show w1.heap[w.heap.size + 1]? = some (.cells #[.int .i64 c.k, .int .i64 c.s, .int .i64 c.n, .int .i64 c.m, .slice B.a c.bits.length B.c, .slice D.a c.data.length D.c, .slice E.a c.ends.length E.c, .slice X.a c.words.length X.c] 63 (0, 0)) by
    rw [← hw1]; simpa using heap_alloc_new (w.alloc (.cells #[.int .i64 (W : Int)] 165)) (.cells #[.int .i64 c.k, .int .i64 c.s, .int .i64 c.n, .int .i64 c.m, .slice B.a c.bits.length B.c, .slice D.a c.data.length D.c, .slice E.a c.ends.length E.c, .slice X.a c.words.length X.c] 63))
  clear hw1
  refine (sized_any W hW c B D E X HC.out.ld w1).mono ?_
  rintro e w2 ⟨rfl, hb2⟩
  replace BW := Aside.mk (BW.out.trans (hb2.mono BW.out.size)); replace BF := Aside.mk ((hb2.block _ (lt_of_blk BF.out)).trans BF.out); replace BX := Aside.mk ((hb2.block _ (lt_of_blk BX.out)).trans BX.out); obtain ⟨c0, c1, c2, c3, c4, c5, c6, c7⟩ := box8 BX.out; have cf := cell_blk (k := 0) BF.out; simp at cf; clear hb2
  cases hs : sizedB W c with
  | false =>
    go_wp2
    go_ret
    exact ⟨ret_bool (by rw [mayFixed_eq, hs]; rfl), BW.out⟩
  | true =>
    cases hx : c.words.isEmpty with
    | false =>
      have hx3 : 0 < c.words.length := by
        cases hwd : c.words with
        | nil => rw [hwd] at hx; cases hx
        | cons a l => simp
      have hx2 : decide (0 < c.words.length) = true := decide_eq_true hx3
      go_wp2
      go_ret
      exact ⟨ret_bool (by rw [mayFixed_eq, hs, hx]; rfl), BW.out⟩
    | true =>
      have hx3 : c.words.length = 0 := by
        cases hwd : c.words with
        | nil => rfl
        | cons a l => rw [hwd] at hx; cases hx
      have hx2 : decide (0 < c.words.length) = false := by rw [hx3]; rfl
      clear hx3
      obtain ⟨s1, s2⟩ := sized_nat hs
      generalize hN : c.data.length / W = N at *
      have hNb : N ≤ 100000000 := by rw [← hN]; exact Nat.le_trans (Nat.div_le_self _ _) HC.out.ld
      clear hN
      have HM := Aside.mk (show mayFixed c.k c.s W c = (List.range N).all (okAt c.k c.s W c) by rw [mayFixed_eq, hs, hx, s2]; simp)
      have HS := Aside.mk hs
      have S2 := Aside.mk s2
      clear hs hx s1 s2
      go_wp2
      go_loopw [19] (fun iv wr => ∃ i : Nat, i ≤ N ∧ iv = .int .i64 (i : Int) ∧ Aside (Below w.heap.size w wr ∧ wr.heap[w.heap.size]? = some (.cells #[.int .i64 (W : Int)] 165 (0, 0)) ∧ wr.heap[w.heap.size + 1]? = some (.cells #[.int .i64 c.k, .int .i64 c.s, .int .i64 c.n, .int .i64 c.m, .slice B.a c.bits.length B.c, .slice D.a c.data.length D.c, .slice E.a c.ends.length E.c, .slice X.a c.words.length X.c] 63 (0, 0)) ∧ ∀ j, j < i → okAt c.k c.s W c j = true)) (fun iv _ => N - (intOf iv).toNat)
      case atStart => exact ⟨0, by omega, rfl, ⟨BW.out, BF.out, BX.out, fun j hj => by omega⟩⟩
      case round =>
        clear BW BF BX c0 c1 c2 c3 c4 c5 c6 c7 cf
        obtain ⟨i, hi, rfl, hp⟩ := hrel
        have BW := Aside.mk hp.out.1
        have BF := Aside.mk hp.out.2.1
        have BX := Aside.mk hp.out.2.2.1
        have HA := Aside.mk hp.out.2.2.2
        clear hp
        obtain ⟨c0, c1, c2, c3, c4, c5, c6, c7⟩ := box8 BX.out
        have cf := cell_blk (k := 0) BF.out
        simp at cf
        by_cases hlt : i < N
        · have hlt2 : (i : Int) < c.n := by have := S2.out; omega
          have hb8 : i / 8 < c.bits.length := by omega
          have hroom := sized_room HS.out i (by have := S2.out; omega)
          have hword := Aside.mk (fun (w2 : World) hb => fword_any W hW c B D E X i hroom HC.out.data HC.out.ld w2 (HR.out.data.below hb))
          have hnull := Aside.mk (fun (w2 : World) hb => null_any c B D E X i hb8 HC.out.bits HC.out.lb w2 (HR.out.bits.below hb))
          have hwl := wordAt_lt HC.out.data (i * W) W
          have hw8 : 256 ^ W ≤ 256 ^ 8 := Nat.pow_le_pow_right (by decide) (by omega)
          have h88 : (256 : Nat) ^ 8 = 18446744073709551616 := by decide
          have hx64 : wordAt c.data (i * W) W < 18446744073709551616 := by omega
          have hok := Aside.mk (show okAt c.k c.s W c i = if nullB c.bits i then wordAt c.data (i * W) W == 0 else fitsB c.k c.s (wordAt c.data (i * W) W) from rfl)
          have hfit := Aside.mk (fun (w2 : World) => fits_any c.k c.s (wordAt c.data (i * W) W) (by omega) (by omega) w2)
          clear hwl hw8 h88 hroom
          generalize wordAt c.data (i * W) W = x at *
          generalize nullB c.bits i = nb at *
          generalize fitsB c.k c.s (x : Int) = fb at *
          cases nb with
          | true =>
            by_cases hx0 : x = 0
            · subst hx0
              go_wp2_with (first | (go_at_call 88; refine (hword.out _ BW.out).mono ?_; rintro e w2 ⟨rfl, hb2⟩; replace BW := Aside.mk (BW.out.trans (hb2.mono BW.out.size)); replace BF := Aside.mk ((hb2.block _ (lt_of_blk BF.out)).trans BF.out); replace BX := Aside.mk ((hb2.block _ (lt_of_blk BX.out)).trans BX.out); obtain ⟨c0, c1, c2, c3, c4, c5, c6, c7⟩ := box8 BX.out; have cf := cell_blk (k := 0) BF.out; simp at cf; clear hb2) | (go_at_call 129; refine (hnull.out _ BW.out).mono ?_; rintro e w2 ⟨rfl, hb2⟩; replace BW := Aside.mk (BW.out.trans (hb2.mono BW.out.size)); replace BF := Aside.mk ((hb2.block _ (lt_of_blk BF.out)).trans BF.out); replace BX := Aside.mk ((hb2.block _ (lt_of_blk BX.out)).trans BX.out); obtain ⟨c0, c1, c2, c3, c4, c5, c6, c7⟩ := box8 BX.out; have cf := cell_blk (k := 0) BF.out; simp at cf; clear hb2))
              refine ⟨⟨i + 1, by omega, by simp, ⟨BW.out, BF.out, BX.out, fun j hj => ?_⟩⟩, by simp [intOf]; omega⟩
              rcases Nat.lt_or_ge j i with h | h
              · exact HA.out j h
              · obtain rfl : j = i := by omega
                rw [hok.out]; rfl
            · have hx1 : (((x : Int)) == 0) = false := by simp; omega
              go_wp2_with (first | (go_at_call 88; refine (hword.out _ BW.out).mono ?_; rintro e w2 ⟨rfl, hb2⟩; replace BW := Aside.mk (BW.out.trans (hb2.mono BW.out.size)); replace BF := Aside.mk ((hb2.block _ (lt_of_blk BF.out)).trans BF.out); replace BX := Aside.mk ((hb2.block _ (lt_of_blk BX.out)).trans BX.out); obtain ⟨c0, c1, c2, c3, c4, c5, c6, c7⟩ := box8 BX.out; have cf := cell_blk (k := 0) BF.out; simp at cf; clear hb2) | (go_at_call 129; refine (hnull.out _ BW.out).mono ?_; rintro e w2 ⟨rfl, hb2⟩; replace BW := Aside.mk (BW.out.trans (hb2.mono BW.out.size)); replace BF := Aside.mk ((hb2.block _ (lt_of_blk BF.out)).trans BF.out); replace BX := Aside.mk ((hb2.block _ (lt_of_blk BX.out)).trans BX.out); obtain ⟨c0, c1, c2, c3, c4, c5, c6, c7⟩ := box8 BX.out; have cf := cell_blk (k := 0) BF.out; simp at cf; clear hb2))
              go_ret
              exact ⟨ret_bool (by rw [HM.out]; exact (all_false hlt (by rw [hok.out]; first | rfl | (simp; omega))).symm), BW.out⟩
          | false =>
            cases fb with
            | true =>
              go_wp2_with (first | (go_at_call 88; refine (hword.out _ BW.out).mono ?_; rintro e w2 ⟨rfl, hb2⟩; replace BW := Aside.mk (BW.out.trans (hb2.mono BW.out.size)); replace BF := Aside.mk ((hb2.block _ (lt_of_blk BF.out)).trans BF.out); replace BX := Aside.mk ((hb2.block _ (lt_of_blk BX.out)).trans BX.out); obtain ⟨c0, c1, c2, c3, c4, c5, c6, c7⟩ := box8 BX.out; have cf := cell_blk (k := 0) BF.out; simp at cf; clear hb2) | (go_at_call 129; refine (hnull.out _ BW.out).mono ?_; rintro e w2 ⟨rfl, hb2⟩; replace BW := Aside.mk (BW.out.trans (hb2.mono BW.out.size)); replace BF := Aside.mk ((hb2.block _ (lt_of_blk BF.out)).trans BF.out); replace BX := Aside.mk ((hb2.block _ (lt_of_blk BX.out)).trans BX.out); obtain ⟨c0, c1, c2, c3, c4, c5, c6, c7⟩ := box8 BX.out; have cf := cell_blk (k := 0) BF.out; simp at cf; clear hb2) | (go_at_call 74; refine (hfit.out _).mono ?_; rintro e w2 ⟨rfl, hb2⟩; replace BW := Aside.mk (BW.out.trans (hb2.mono BW.out.size)); replace BF := Aside.mk ((hb2.block _ (lt_of_blk BF.out)).trans BF.out); replace BX := Aside.mk ((hb2.block _ (lt_of_blk BX.out)).trans BX.out); obtain ⟨c0, c1, c2, c3, c4, c5, c6, c7⟩ := box8 BX.out; have cf := cell_blk (k := 0) BF.out; simp at cf; clear hb2))
              refine ⟨⟨i + 1, by omega, by simp, ⟨BW.out, BF.out, BX.out, fun j hj => ?_⟩⟩, by simp [intOf]; omega⟩
              rcases Nat.lt_or_ge j i with h | h
              · exact HA.out j h
              · obtain rfl : j = i := by omega
                rw [hok.out]; rfl
            | false =>
              go_wp2_with (first | (go_at_call 88; refine (hword.out _ BW.out).mono ?_; rintro e w2 ⟨rfl, hb2⟩; replace BW := Aside.mk (BW.out.trans (hb2.mono BW.out.size)); replace BF := Aside.mk ((hb2.block _ (lt_of_blk BF.out)).trans BF.out); replace BX := Aside.mk ((hb2.block _ (lt_of_blk BX.out)).trans BX.out); obtain ⟨c0, c1, c2, c3, c4, c5, c6, c7⟩ := box8 BX.out; have cf := cell_blk (k := 0) BF.out; simp at cf; clear hb2) | (go_at_call 129; refine (hnull.out _ BW.out).mono ?_; rintro e w2 ⟨rfl, hb2⟩; replace BW := Aside.mk (BW.out.trans (hb2.mono BW.out.size)); replace BF := Aside.mk ((hb2.block _ (lt_of_blk BF.out)).trans BF.out); replace BX := Aside.mk ((hb2.block _ (lt_of_blk BX.out)).trans BX.out); obtain ⟨c0, c1, c2, c3, c4, c5, c6, c7⟩ := box8 BX.out; have cf := cell_blk (k := 0) BF.out; simp at cf; clear hb2) | (go_at_call 74; refine (hfit.out _).mono ?_; rintro e w2 ⟨rfl, hb2⟩; replace BW := Aside.mk (BW.out.trans (hb2.mono BW.out.size)); replace BF := Aside.mk ((hb2.block _ (lt_of_blk BF.out)).trans BF.out); replace BX := Aside.mk ((hb2.block _ (lt_of_blk BX.out)).trans BX.out); obtain ⟨c0, c1, c2, c3, c4, c5, c6, c7⟩ := box8 BX.out; have cf := cell_blk (k := 0) BF.out; simp at cf; clear hb2))
              go_ret
              exact ⟨ret_bool (by rw [HM.out]; exact (all_false hlt (by rw [hok.out]; first | rfl | (simp; omega))).symm), BW.out⟩
        · obtain rfl : i = N := by omega
          have hlt2 : ¬ (i : Int) < c.n := by have := S2.out; omega
          go_wp2
          go_ret
          exact ⟨ret_bool (by rw [HM.out]; exact (all_range HA.out).symm), BW.out⟩
end Go.Proofs.YtmhjjhaipcgbiaaGreat


namespace Go.Proofs.YtmhjjhaipcgbiaaGreat
open Go.RowKit
set_option linter.unusedVariables false
set_option linter.unusedSimpArgs false
set_option maxRecDepth 100000
set_option maxHeartbeats 1000000
theorem one_map {α : Type} (f : α → Value) (h : ∀ a, (f a).oneCell' = true) (l : List α) : ∀ u ∈ l.map f, u.oneCell' = true := by
  intro u hu
  obtain ⟨a, _, rfl⟩ := List.mem_map.1 hu
  exact h a
theorem intinfo : (Tryz.prog.info? 3).map (fun i => (i.zero, i.size, i.bytes)) = some (some (.int .i64 0), 1, 8) := by kernel_rfl
def CloneP (E : TypeId) (n : Nat) (xs : List Value) (w : World) (e : Ending) (w' : World) : Prop :=
  ∃ v', e = .returned v' ∧ Own w' w.heap.size E 1 v' n xs ∧ Below w.heap.size w w'
theorem eq_nil_some8 (a : Addr) (n c : Nat) (w : World) : (binOp .eql 43 (.slice (some a) n c) (.slice none 0 0)).run Tryz.prog w = .ok (.bool false) w := by kernel_rfl
theorem eq_nil_none8 (w : World) : (binOp .eql 43 (.slice none 0 0) (.slice none 0 0)).run Tryz.prog w = .ok (.bool true) w := by kernel_rfl
theorem eq_nil_somei (a : Addr) (n c : Nat) (w : World) : (binOp .eql 61 (.slice (some a) n c) (.slice none 0 0)).run Tryz.prog w = .ok (.bool false) w := by kernel_rfl
theorem eq_nil_nonei (w : World) : (binOp .eql 61 (.slice none 0 0) (.slice none 0 0)).run Tryz.prog w = .ok (.bool true) w := by kernel_rfl
theorem clone_bytes (v : Value) (n : Nat) (xs : List Value) (w : World) (hn : n ≤ 1000000000) (h : Rd w 1 v n xs) (h1 : ∀ u ∈ xs, u.oneCell' = true) : Calls Tryz.prog 91 #[v] w (CloneP 5 n xs w) := by
  obtain ⟨a, cap, rfl⟩ := h.form
  cases a with
  | none =>
    obtain ⟨hl, a', cap', hsl, _, _, h0, _⟩ := h
    simp only [Value.slice.injEq, true_and] at hsl
    obtain ⟨rfl, rfl⟩ := hsl
    obtain ⟨rfl, rfl⟩ := h0 rfl
    obtain rfl : xs = [] := List.eq_nil_of_length_eq_zero (by simpa using hl)
    have he := eq_nil_none8
    go_enter Tryz.func91, Tryz.ntmps91
    go_wp2
    go_ret
    exact ⟨_, rfl, Own.nil _ _ _ _, Below.refl _ _⟩
  | some a =>
    have hm := h.max
    have hs := h.below (below_new w (.cells #[] 5))
    have HS := Aside.mk (hs.src (tx := 43) (P := Tryz.prog) Tryz.underlying43 h1)
    have he := eq_nil_some8
    have hz : w.heap.size ≤ (w.alloc (.cells #[] 5)).heap.size := by simp
    have HZ := Aside.mk hz
    clear h hs hz
    go_enter Tryz.func91, Tryz.ntmps91
    go_wp2_with (at_builtin; refine wpList_app _ rfl _ _ 43 43 rfl w.heap.size 5 (.int .u8 0) 1 1 Tryz.underlying43 u8info rfl _ _ _ rfl (own_empty w w.heap.size w.heap.size 5 1 rfl (Nat.le_refl _)) _ n xs rfl HS.out (by unfold maxLen; omega) (by omega) HZ.out ?_)
    intro v' w5 hown' hgrow _ hat
    obtain ⟨a5, c5, rfl⟩ := hown'.form
    have HO := Aside.mk hown'
    have HB := Aside.mk ((below_new w (.cells #[] 5)).trans (below_of_grown hgrow HZ.out (fun k e => by simp [Value.ownBlock] at e; omega)))
    clear hown' hgrow hat
    go_wp2
    go_ret
    refine ⟨_, rfl, ?_, HB.out⟩
    have := HO.out
    simpa using this
theorem clone_ints (v : Value) (n : Nat) (xs : List Value) (w : World) (hn : n ≤ 1000000000) (h : Rd w 1 v n xs) (h1 : ∀ u ∈ xs, u.oneCell' = true) : Calls Tryz.prog 92 #[v] w (CloneP 3 n xs w) := by
  obtain ⟨a, cap, rfl⟩ := h.form
  cases a with
  | none =>
    obtain ⟨hl, a', cap', hsl, _, _, h0, _⟩ := h
    simp only [Value.slice.injEq, true_and] at hsl
    obtain ⟨rfl, rfl⟩ := hsl
    obtain ⟨rfl, rfl⟩ := h0 rfl
    obtain rfl : xs = [] := List.eq_nil_of_length_eq_zero (by simpa using hl)
    have he := eq_nil_nonei
    go_enter Tryz.func92, Tryz.ntmps92
    go_wp2
    go_ret
    exact ⟨_, rfl, Own.nil _ _ _ _, Below.refl _ _⟩
  | some a =>
    have hm := h.max
    have hs := h.below (below_new w (.cells #[] 3))
    have HS := Aside.mk (hs.src (tx := 61) (P := Tryz.prog) Tryz.underlying61 h1)
    have he := eq_nil_somei
    have hz : w.heap.size ≤ (w.alloc (.cells #[] 3)).heap.size := by simp
    have HZ := Aside.mk hz
    clear h hs hz
    go_enter Tryz.func92, Tryz.ntmps92
    go_wp2_with (at_builtin; refine wpList_app _ rfl _ _ 61 61 rfl w.heap.size 3 (.int .i64 0) 1 8 Tryz.underlying61 intinfo rfl _ _ _ rfl (own_empty w w.heap.size w.heap.size 3 1 rfl (Nat.le_refl _)) _ n xs rfl HS.out (by unfold maxLen; omega) (by omega) HZ.out ?_)
    intro v' w5 hown' hgrow _ hat
    obtain ⟨a5, c5, rfl⟩ := hown'.form
    have HO := Aside.mk hown'
    have HB := Aside.mk ((below_new w (.cells #[] 3)).trans (below_of_grown hgrow HZ.out (fun k e => by simp [Value.ownBlock] at e; omega)))
    clear hown' hgrow hat
    go_wp2
    go_ret
    refine ⟨_, rfl, ?_, HB.out⟩
    have := HO.out
    simpa using this
end Go.Proofs.YtmhjjhaipcgbiaaGreat


namespace Go.Proofs.YtmhjjhaipcgbiaaGreat
open Go.RowKit
set_option linter.unusedVariables false
set_option linter.unusedSimpArgs false
set_option maxRecDepth 100000
set_option maxHeartbeats 1000000
theorem assert_running (v : Value) (w : World) : (Instr.typeAssert (.iface 165 v) 159 162 true).run Tryz.prog w = .ok (.tuple #[.agg #[], .bool false]) w := by kernel_rfl
theorem assert_coded (v : Value) (w : World) : (Instr.typeAssert (.iface 165 v) 159 167 true).run Tryz.prog w = .ok (.tuple #[.agg #[.int .i64 0], .bool false]) w := by kernel_rfl
theorem assert_fixed (v : Value) (w : World) : (Instr.typeAssert (.iface 165 v) 159 165 true).run Tryz.prog w = .ok (.tuple #[v, .bool true]) w := by kernel_rfl
theorem boolinfo : (Tryz.prog.info? 4).map (fun i => (i.zero, i.size, i.bytes)) = some (some (.bool false), 1, 1) := by kernel_rfl
theorem own_in {w4 : World} {bl lw base : Nat} {k s : Int} {nulls : List Bool} {data ends : List Int} {nv dv ev : Value} {m : Nat} (h : IsB w4 bl lw base k s nulls data ends nv dv ev) (hm : nulls.length = m) {o : Obj} : Own (w4.alloc o).drew base 4 1 nv m (nulls.map .bool) := by
  rw [← hm]
  exact h.nulls.alloc o
theorem isB_ad {w4 : World} {bl lw base : Nat} {k s : Int} {nulls : List Bool} {data ends : List Int} {nv dv ev : Value} (h : IsB w4 bl lw base k s nulls data ends nv dv ev) (o : Obj) : IsB (w4.alloc o).drew bl lw base k s nulls data ends nv dv ev := (h.below (below_new w4 o)).drewN 1
theorem blk_grown {w4 w5 : World} {bl lw base : Nat} {k s : Int} {nulls : List Bool} {data ends : List Int} {nv dv ev : Value} (h : IsB w4 bl lw base k s nulls data ends nv dv ev) {o : Obj} (hg : (w4.alloc o).drew.grownBy w5 nv.ownBlock) : w5.heap[bl]? = some (.cells #[.int .i64 k, .int .i64 s, nv, dv, ev, .pointer (some ⟨lw, 0, none⟩)] 142 (0, 0)) :=
  (hg.block bl (lt_of_blk (isB_ad h o).blk) (fun e => h.nulls.blk_ne h.blk (by decide) e.symm)).trans (isB_ad h o).blk
theorem isB_grown {w4 w5 : World} {bl lw base : Nat} {k s : Int} {nulls : List Bool} {data ends : List Int} {nv nv' dv ev : Value} {m : Nat} {nl : Bool} (h : IsB w4 bl lw base k s nulls data ends nv dv ev) (hm : nulls.length = m) {o : Obj} (hg : (w4.alloc o).drew.grownBy w5 nv.ownBlock) (hown : Own w5 base 4 1 nv' (m + 1) (nulls.map .bool ++ [.bool nl])) :
    IsB (w5.setCell ⟨bl, 2, none⟩ nv') bl lw base k s (nulls ++ [nl]) data ends nv' dv ev ∧ Kept (fun b => b = bl ∨ nv.ownBlock = some b) w4 (w5.setCell ⟨bl, 2, none⟩ nv') := by
  have := (isB_ad h o).app_nulls (nulls' := nulls ++ [nl]) hg (by rw [List.length_append, hm, List.map_append]; exact hown)
  exact ⟨this.1, ((Kept.of_below ((below_new w4 o).trans (below_drewN (w4.alloc o) _ 1))).trans this.2 (fun _ e _ => e))⟩
def AddP (bl lw base : Nat) (k s : Int) (nulls : List Bool) (data : List Int) (ends : List Int) (nv dv ev : Value) (X : Nat) (nl : Bool) (w : World) (e : Ending) (w' : World) : Prop :=
  e = .returned (.tuple #[]) ∧ ∃ nv' dv', IsB w' bl lw base k s (nulls ++ [nl]) (data ++ lows X (widthOf k).toNat) ends nv' dv' ev ∧ Kept (fun b => b = bl ∨ dv.ownBlock = some b ∨ nv.ownBlock = some b) w w' ∧
    (dv'.ownBlock = dv.ownBlock ∨ ∃ b, dv'.ownBlock = some b ∧ w.heap.size ≤ b) ∧ (nv'.ownBlock = nv.ownBlock ∨ ∃ b, nv'.ownBlock = some b ∧ w.heap.size ≤ b)
theorem add_fixed (bl lw base : Nat) (k s : Int) (hk1 : (k == 15) = false) (hk2 : (k == 16) = false) (nulls : List Bool) (data : List Int) (ends : List Int) (nv dv ev : Value) (X : Nat) (tv : Value) (nl : Bool) (hX : X < 18446744073709551616) (hl : data.length ≤ 100000000) (hl2 : nulls.length ≤ 100000000) (w : World) (h : IsB w bl lw base k s nulls data ends nv dv ev) (hb : base ≤ w.heap.size) :
    Calls Tryz.prog 72 #[.pointer (some ⟨bl, 0, none⟩), .agg #[.int .u64 (X : Int), tv, .bool nl]] w (AddP bl lw base k s nulls data ends nv dv ev X nl w) := by
  have hbs := lt_of_blk h.blk
  have hc0 := cell_blk (k := 0) h.blk
  have hc1 := cell_blk (k := 1) h.blk
  simp at hc0 hc1
  have H0 := Aside.mk h
  clear h
  obtain ⟨n, hn⟩ : ∃ n : Nat, widthOf k = (n : Int) ∧ n ≤ 8 := by
    refine ⟨(widthOf k).toNat, ?_⟩
    unfold widthOf
    split
    · decide
    split
    · decide
    split
    · decide
    split <;> decide
  obtain ⟨hn, hn8⟩ := hn
  have ta1 := assert_running
  have ta2 := assert_coded
  have ta3 := assert_fixed
  go_enter Tryz.func72, Tryz.ntmps72
  go_wp2_with (first | (go_at_call 86; refine (of_fixed k s hk1 hk2 _).mono ?_; rintro e w1 ⟨rfl, rfl⟩; rw [hn]))
  have B3 : Below w.heap.size w (((w.alloc (.cells #[.int .u64 (X : Int), tv, .bool nl] 145)).alloc (.cells #[.int .i64 k, .int .i64 s] 23)).alloc (.cells #[.int .i64 (n : Int)] 165)) := (((Below.refl _ _).alloc (Nat.le_refl _) _).alloc (by simp) _).alloc (by simp; omega) _
  have hv3 : (((w.alloc (.cells #[.int .u64 (X : Int), tv, .bool nl] 145)).alloc (.cells #[.int .i64 k, .int .i64 s] 23)).alloc (.cells #[.int .i64 (n : Int)] 165)).heap[w.heap.size]? = some (.cells #[.int .u64 (X : Int), tv, .bool nl] 145 (0, 0)) := by
    rw [Below.heap_alloc _ _ _ (by simp; omega), Below.heap_alloc _ _ _ (by simp)]
    exact heap_alloc_new _ _
  generalize hw3 : (((w.alloc (.cells #[.int .u64 (X : Int), tv, .bool nl] 145)).alloc (.cells #[.int .i64 k, .int .i64 s] 23)).alloc (.cells #[.int .i64 (n : Int)] 165)) = w3 at *
  clear hw3
  have hs3 := B3.size
  refine (word_any bl lw base k s nulls data ends nv dv ev X n hn8 hX hl w3 (H0.out.below B3) (by omega)).mono ?_
  rintro e w4 ⟨rfl, dv', h4, k4, o4⟩
  have hdlt := H0.out.data.lt
  have hvb := lt_of_blk hv3
  have hv4 := (k4.block w.heap.size hvb (by
    rintro (e | e)
    · omega
    · have := (hdlt _ e).2; omega)).trans hv3
  have hcv := cell_blk (k := 2) hv4
  have hcn := cell_blk (k := 2) h4.blk
  have hfn := frozen_blk (k := 2) h4.blk
  simp at hcv hcn
  obtain ⟨a1, c1, rfl⟩ := h4.nulls.form
  have hbs4 := lt_of_blk h4.blk
  have H4 := Aside.mk h4
  have K4 := Aside.mk k4
  have O4 := Aside.mk o4
  have B3 := Aside.mk B3
  have HV4 := Aside.mk hv4
  have HN := Aside.mk hn
  clear h4 k4 o4 hdlt hv3 hv4 H0 hc0 hc1 ta1 ta2 ta3 hn
  generalize hm : nulls.length = m at *
  have HM := Aside.mk hm
  clear hm
  go_wp2_with (fail)
  have hown := Aside.mk (own_in (o := .cells #[.bool nl] 4) H4.out HM.out)
  have hsrc := Aside.mk (src_one_drew (P := Tryz.prog) (w := w4) Tryz.underlying140 w4.heap.size (.bool nl) 4 rfl rfl)
  have hbase : base ≤ ((w4.alloc (.cells #[.bool nl] 4)).drew).heap.size := by have := K4.out.size; show base ≤ (w4.alloc _).heap.size; simp; omega
  have hbase := Aside.mk hbase
  have h63 : m + 1 ≤ maxLen := by unfold maxLen; omega
  have h63 := Aside.mk h63
  have hby : (m + 1) * 1 ≤ 140737488355328 := by omega
  have hby := Aside.mk hby
  go_region_law ((refine step_app (P := Tryz.prog) ((w4.alloc (.cells #[.bool nl] 4)).drew) (by rfl) (.tmp 74) (.tmp 77) 140 140 (by rfl) base 4 (.bool false) 1 1 Tryz.underlying140 boolinfo (by rfl) (.slice a1 m c1) m (nulls.map .bool) (by rfl) hown.out (.slice (some ⟨w4.heap.size, 0, none⟩) 1 1) 1 [.bool nl] (by rfl) hsrc.out h63.out hby.out hbase.out ?_; intro v' w5 hown' hgrow _ hat; obtain ⟨a5, c5, rfl⟩ := hown'.form; have hc5 := cell_blk (k := 2) (blk_grown H4.out hgrow); have hf5 := frozen_blk (k := 2) (blk_grown H4.out hgrow); simp at hc5; have HH := Aside.mk (isB_grown H4.out HM.out hgrow hown'); have HAT := Aside.mk hat; clear hown' hgrow hat))
  all_goals
    go_wp2
    refine bodyPost_ret (v := .tuple #[]) (by simp [results, Tryz.results72, go_sem]) rfl ?_
    have en : (widthOf k).toNat = n := by rw [HN.out]; simp
    refine ⟨rfl, _, dv', by rw [en]; exact HH.out.1, ?_, ?_, ?_⟩
    · refine ((Kept.of_below B3.out).trans K4.out ?_).trans HH.out.2 ?_
      · rintro b (e | e) _
        · exact .inl e
        · exact .inr (.inl e)
      · rintro b (e | e) _
        · exact .inl e
        · exact .inr (.inr e)
    · rcases O4.out with e | ⟨b, e, h⟩
      · exact .inl e
      · exact .inr ⟨b, e, by omega⟩
    · rcases HAT.out with e | ⟨b, e, h⟩
      · exact .inl e
      · refine .inr ⟨b, e, ?_⟩
        have h2 : w4.heap.size + 1 ≤ b := by simpa using h
        have := K4.out.size
        omega
end Go.Proofs.YtmhjjhaipcgbiaaGreat
