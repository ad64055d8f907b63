/- Texts of this claim, one behind the other: Zob, Zoa. -/
import Derived.Test.YtmhjjhaipcgbiaaGreatZooP38
import Derived.Test.YtmhjjhaipcgbiaaGreatZooP35

namespace Go.Proofs.YtmhjjhaipcgbiaaGreat
open Go.RowKit
set_option linter.unusedVariables false
set_option linter.unusedSimpArgs false
set_option maxRecDepth 100000
set_option maxHeartbeats 4000000
theorem zof_bad (c : Col) (hc : COK c) (hz : checkC c ≠ 0) (B D E X : SL) (vals : List Value) (w : World) (h : RdC w c B D E X vals) :
    Calls Tryz.prog 38 #[colV c B D E X] w (fun e w' => e = .returned (.tuple #[.agg #[.int .i64 0, .int .i64 0, .int .i64 0, .int .i64 0, .int .i64 0, .bool false, .int .u64 0, .int .u64 0, .slice none 0 0, .slice none 0 0], .int .i64 (checkC c)]) ∧ Below w.heap.size w w') := by
  have hck := Aside.mk (fun (w2 : World) (hb : Below w.heap.size w w2) => check_any c hc B D E X vals w2 (h.below hb))
  clear h
  obtain ⟨t1, t2, t3, t4⟩ := below_two w (.cells #[.int .i64 c.k, .int .i64 c.s, .int .i64 c.n, .int .i64 c.m, .slice B.a c.bits.length B.c, .slice D.a c.data.length D.c, .slice E.a c.ends.length E.c, .slice X.a c.words.length X.c] 63 (0, 0)) (.cells #[.int .i64 0, .int .i64 0, .int .i64 0, .int .i64 0, .int .i64 0, .bool false, .int .u64 0, .int .u64 0, .slice none 0 0, .slice none 0 0] 79 (0, 0))
  have hq : ∀ W', ((w.alloc (.cells #[.int .i64 c.k, .int .i64 c.s, .int .i64 c.n, .int .i64 c.m, .slice B.a c.bits.length B.c, .slice D.a c.data.length D.c, .slice E.a c.ends.length E.c, .slice X.a c.words.length X.c] 63)).alloc (.cells #[.int .i64 0, .int .i64 0, .int .i64 0, .int .i64 0, .int .i64 0, .bool false, .int .u64 0, .int .u64 0, .slice none 0 0, .slice none 0 0] 79)) = W' → Below w.heap.size w W' ∧ W'.heap.size = w.heap.size + 2 ∧ W'.heap[w.heap.size]? = some (.cells #[.int .i64 c.k, .int .i64 c.s, .int .i64 c.n, .int .i64 c.m, .slice B.a c.bits.length B.c, .slice D.a c.data.length D.c, .slice E.a c.ends.length E.c, .slice X.a c.words.length X.c] 63 (0, 0)) ∧ W'.heap[w.heap.size + 1]? = some (.cells #[.int .i64 0, .int .i64 0, .int .i64 0, .int .i64 0, .int .i64 0, .bool false, .int .u64 0, .int .u64 0, .slice none 0 0, .slice none 0 0] 79 (0, 0)) := fun W' e => by rw [← e]; exact ⟨t1, t2, t3, t4⟩
  clear t1 t2 t3 t4
  dsimp only [colV] at hck ⊢
  go_enter Tryz.func38, Tryz.ntmps38
  go_upto_region 1 with fail
  generalize ((w.alloc (.cells #[.int .i64 c.k, .int .i64 c.s, .int .i64 c.n, .int .i64 c.m, .slice B.a c.bits.length B.c, .slice D.a c.data.length D.c, .slice E.a c.ends.length E.c, .slice X.a c.words.length X.c] 63)).alloc (.cells #[.int .i64 0, .int .i64 0, .int .i64 0, .int .i64 0, .int .i64 0, .bool false, .int .u64 0, .int .u64 0, .slice none 0 0, .slice none 0 0] 79)) = w2 at *
  obtain ⟨t1, t2, t3, t4⟩ := hq w2 rfl
  have B2 := Aside.mk t1
  have HR := Aside.mk t4
  obtain ⟨c0, c1, c2, c3, c4, c5, c6, c7⟩ := box8 t3
  clear hq t1 t2 t3 t4
  go_upto_region 2 with (go_at_call 82; refine (hck.out _ B2.out).mono ?_; rintro e w3 ⟨rfl, hb⟩; have HB3 := Aside.mk hb; clear hb)
  replace HR := Aside.mk ((HB3.out.block _ (lt_of_blk HR.out)).trans HR.out)
  have B3 := Aside.mk (below_chain B2.out HB3.out)
  clear c0 c1 c2 c3 c4 c5 c6 c7 hck
  obtain ⟨x, hx⟩ : ∃ x, checkC c = x := ⟨_, rfl⟩
  rw [hx] at hz
  rw [hx]
  have HX := Aside.mk hx
  clear hx
  obtain ⟨r0, r1, r2, r3, r4, r5, r6, r7, r8, r9⟩ := box10 HR.out
  have rf := fun k => frozen_blk (k := k) HR.out
  have rl := lt_of_blk HR.out
  go_wp2_with fail
  have K10 := kept10 w3 (w.heap.size + 1) (.int .i64 0) (.int .i64 0) (.int .i64 0) (.int .i64 0) (.int .i64 0) (.bool false) (.int .u64 0) (.int .u64 0) (.slice none 0 0) (.slice none 0 0)
  refine bodyPost_ret (v := .tuple #[.agg #[.int .i64 0, .int .i64 0, .int .i64 0, .int .i64 0, .int .i64 0, .bool false, .int .u64 0, .int .u64 0, .slice none 0 0, .slice none 0 0], .int .i64 x]) (by simp [results, Tryz.results38, go_sem, r0, r1, r2, r3, r4, r5, r6, r7, r8, r9]) rfl ?_
  exact ⟨by rw [HX.out], B3.out.trans (K10.to_below B3.out.size (fun k e => by omega))⟩
theorem rof_bad (c : Col) (hc : COK c) (hs : Small18 c) (hz : checkC c ≠ 0) (B D E X : SL) (vals : List Value) (w : World) (h : RdC w c B D E X vals) :
    Calls Tryz.prog 39 #[colV c B D E X] w (fun e w' => e = .returned (.tuple #[.agg #[.int .i64 0, .int .i64 0, .int .i64 0, .int .i64 0, .int .i64 0, .bool false, .int .u64 0, .int .u64 0, .slice none 0 0, .slice none 0 0], .int .i64 (checkC c)]) ∧ Below w.heap.size w w') := by
  have hre := readE_check hc (fun e => by have := hs.1 e; omega)
  have hrc : readC c = none := by
    cases e : readC c with
    | none => rfl
    | some l => exact absurd (check_read hc (fun e => by have := hs.1 e; omega) e).1 hz
  have hck := Aside.mk (fun (w2 : World) (hb : Below w.heap.size w w2) => read18_any c hc hs B D E X vals w2 (h.below hb))
  clear h
  obtain ⟨t1, t2, t3, t4⟩ := below_two w (.cells #[.int .i64 c.k, .int .i64 c.s, .int .i64 c.n, .int .i64 c.m, .slice B.a c.bits.length B.c, .slice D.a c.data.length D.c, .slice E.a c.ends.length E.c, .slice X.a c.words.length X.c] 63 (0, 0)) (.cells #[.int .i64 0, .int .i64 0, .int .i64 0, .int .i64 0, .int .i64 0, .bool false, .int .u64 0, .int .u64 0, .slice none 0 0, .slice none 0 0] 79 (0, 0))
  have hq : ∀ W', ((w.alloc (.cells #[.int .i64 c.k, .int .i64 c.s, .int .i64 c.n, .int .i64 c.m, .slice B.a c.bits.length B.c, .slice D.a c.data.length D.c, .slice E.a c.ends.length E.c, .slice X.a c.words.length X.c] 63)).alloc (.cells #[.int .i64 0, .int .i64 0, .int .i64 0, .int .i64 0, .int .i64 0, .bool false, .int .u64 0, .int .u64 0, .slice none 0 0, .slice none 0 0] 79)) = W' → Below w.heap.size w W' ∧ W'.heap.size = w.heap.size + 2 ∧ W'.heap[w.heap.size]? = some (.cells #[.int .i64 c.k, .int .i64 c.s, .int .i64 c.n, .int .i64 c.m, .slice B.a c.bits.length B.c, .slice D.a c.data.length D.c, .slice E.a c.ends.length E.c, .slice X.a c.words.length X.c] 63 (0, 0)) ∧ W'.heap[w.heap.size + 1]? = some (.cells #[.int .i64 0, .int .i64 0, .int .i64 0, .int .i64 0, .int .i64 0, .bool false, .int .u64 0, .int .u64 0, .slice none 0 0, .slice none 0 0] 79 (0, 0)) := fun W' e => by rw [← e]; exact ⟨t1, t2, t3, t4⟩
  clear t1 t2 t3 t4
  dsimp only [colV] at hck ⊢
  go_enter Tryz.func39, Tryz.ntmps39
  go_upto_region 1 with fail
  generalize ((w.alloc (.cells #[.int .i64 c.k, .int .i64 c.s, .int .i64 c.n, .int .i64 c.m, .slice B.a c.bits.length B.c, .slice D.a c.data.length D.c, .slice E.a c.ends.length E.c, .slice X.a c.words.length X.c] 63)).alloc (.cells #[.int .i64 0, .int .i64 0, .int .i64 0, .int .i64 0, .int .i64 0, .bool false, .int .u64 0, .int .u64 0, .slice none 0 0, .slice none 0 0] 79)) = w2 at *
  obtain ⟨t1, t2, t3, t4⟩ := hq w2 rfl
  have B2 := Aside.mk t1
  have HR := Aside.mk t4
  obtain ⟨c0, c1, c2, c3, c4, c5, c6, c7⟩ := box8 t3
  clear hq t1 t2 t3 t4
  go_upto_region 2 with (go_at_call 84; refine (hck.out _ B2.out).mono ?_; rintro e w3 ⟨hb, hread⟩; rw [hrc] at hread; replace hread : e = Ending.returned (.tuple #[.slice none 0 0, .int .i64 (readE c)]) := hread; rw [hre] at hread; subst hread; have HB3 := Aside.mk hb; clear hb hre hrc)
  replace HR := Aside.mk ((HB3.out.block _ (lt_of_blk HR.out)).trans HR.out)
  have B3 := Aside.mk (below_chain B2.out HB3.out)
  clear c0 c1 c2 c3 c4 c5 c6 c7 hck
  obtain ⟨x, hx⟩ : ∃ x, checkC c = x := ⟨_, rfl⟩
  rw [hx] at hz
  rw [hx]
  have HX := Aside.mk hx
  clear hx
  obtain ⟨r0, r1, r2, r3, r4, r5, r6, r7, r8, r9⟩ := box10 HR.out
  have rf := fun k => frozen_blk (k := k) HR.out
  have rl := lt_of_blk HR.out
  go_wp2_with fail
  have K10 := kept10 w3 (w.heap.size + 1) (.int .i64 0) (.int .i64 0) (.int .i64 0) (.int .i64 0) (.int .i64 0) (.bool false) (.int .u64 0) (.int .u64 0) (.slice none 0 0) (.slice none 0 0)
  refine bodyPost_ret (v := .tuple #[.agg #[.int .i64 0, .int .i64 0, .int .i64 0, .int .i64 0, .int .i64 0, .bool false, .int .u64 0, .int .u64 0, .slice none 0 0, .slice none 0 0], .int .i64 x]) (by simp [results, Tryz.results39, go_sem, r0, r1, r2, r3, r4, r5, r6, r7, r8, r9]) rfl ?_
  exact ⟨by rw [HX.out], B3.out.trans (K10.to_below B3.out.size (fun k e => by omega))⟩
end Go.Proofs.YtmhjjhaipcgbiaaGreat


namespace Go.Proofs.YtmhjjhaipcgbiaaGreat
open Go.RowKit
set_option linter.unusedVariables false
set_option linter.unusedSimpArgs false
set_option maxRecDepth 100000
def zK (c : Col) : Int := if checkC c = 0 then c.k else 0
def zS (c : Col) : Int := if checkC c = 0 then c.s else 0
def zR (c : Col) : Zn := if checkC c = 0 then zoneC c else zZero
theorem zof_all (c : Col) (hc : COK c) (hs : Small18 c) (B D E X : SL) (vals : List Value) (hDa : D.a = none ∨ ∃ g off, D.a = some ⟨g, off, none⟩) (w : World) (h : RdC w c B D E X vals) :
    Calls Tryz.prog 38 #[colV c B D E X] w (fun e w' => ∃ F L : SL, e = .returned (.tuple #[zV (zK c) (zS c) (zR c) F L, .int .i64 (checkC c)]) ∧ ZOwn (zR c) F L w.heap.size w' ∧ Below w.heap.size w w') := by
  by_cases hz : checkC c = 0
  · refine (zof_any c hc hs.mod hz B D E X vals hDa w h).mono ?_
    rintro e w' ⟨F, L, rfl, h1, h2⟩
    refine ⟨F, L, ?_, ?_, h2⟩
    · unfold zK zS zR; rw [if_pos hz, if_pos hz, if_pos hz, hz]
    · unfold zR; rw [if_pos hz]; exact h1
  · refine (zof_bad c hc hz B D E X vals w h).mono ?_
    rintro e w' ⟨rfl, h2⟩
    refine ⟨⟨none, 0⟩, ⟨none, 0⟩, ?_, ?_, h2⟩
    · unfold zK zS zR; rw [if_neg hz, if_neg hz, if_neg hz]; rfl
    · unfold zR; rw [if_neg hz]; exact ⟨Own.nil _ _ _ _, Own.nil _ _ _ _, fun k e => by cases e⟩
theorem rof_all (c : Col) (hc : COK c) (hs : Small18 c) (B D E X : SL) (vals : List Value) (w : World) (h : RdC w c B D E X vals) :
    Calls Tryz.prog 39 #[colV c B D E X] w (fun e w' => ∃ F L : SL, e = .returned (.tuple #[zV (zK c) (zS c) (zR c) F L, .int .i64 (checkC c)]) ∧ RdT w' (zR c).first F ∧ RdT w' (zR c).last L ∧ Below w.heap.size w w') := by
  by_cases hz : checkC c = 0
  · refine (rof_any c hc hs hz B D E X vals w h).mono ?_
    rintro e w' ⟨F, L, rfl, h1, h1', h2⟩
    refine ⟨F, L, ?_, ?_, ?_, h2⟩
    · unfold zK zS zR; rw [if_pos hz, if_pos hz, if_pos hz, hz]
    · unfold zR; rw [if_pos hz]; exact h1
    · unfold zR; rw [if_pos hz]; exact h1'
  · refine (rof_bad c hc hs hz B D E X vals w h).mono ?_
    rintro e w' ⟨rfl, h2⟩
    refine ⟨⟨none, 0⟩, ⟨none, 0⟩, ?_, ?_, ?_, h2⟩
    · unfold zK zS zR; rw [if_neg hz, if_neg hz, if_neg hz]; rfl
    · unfold zR; rw [if_neg hz]; exact Rd.nil _ _
    · unfold zR; rw [if_neg hz]; exact Rd.nil _ _
theorem zR_text {c : Col} (hc : COK c) (hs : Small18 c) : (IsBytes (zR c).first ∧ (zR c).first.length ≤ 100000000) ∧ IsBytes (zR c).last ∧ (zR c).last.length ≤ 100000000 := by
  unfold zR
  split
  · rename_i hz
    have hvo := vals_ok hc hz
    have h : ∀ (l : List V), (∀ v ∈ l, IsBytes v.text ∧ v.text.length ≤ 100000000) → (IsBytes (zFold c.k c.n.toNat l).first ∧ (zFold c.k c.n.toNat l).first.length ≤ 100000000) ∧ IsBytes (zFold c.k c.n.toNat l).last ∧ (zFold c.k c.n.toNat l).last.length ≤ 100000000 := fun l => by
      induction l using snoc_ind with
      | h0 => intro _; exact ⟨⟨fun x hx => (by cases hx), Nat.zero_le _⟩, fun x hx => (by cases hx), Nat.zero_le _⟩
      | h1 l v ih =>
        intro hl
        have i1 := ih (fun v hv => hl v (List.mem_append_left _ hv))
        have hv := hl v (by simp)
        rw [zFold_snoc]
        unfold zStep
        split
        · exact i1
        · split
          · exact i1
          · unfold zWith
            dsimp only
            constructor
            · split
              · exact hv
              · exact i1.1
            · split
              · exact hv
              · exact i1.2
    exact h _ (fun v hv => ⟨(hvo v hv).1, by obtain ⟨i, _, rfl⟩ := List.mem_map.1 hv; exact Nat.le_trans (valC_small18 hs i) (by decide)⟩)
  · exact ⟨⟨fun x hx => (by cases hx), Nat.zero_le _⟩, fun x hx => (by cases hx), Nat.zero_le _⟩
end Go.Proofs.YtmhjjhaipcgbiaaGreat
