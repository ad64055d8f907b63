/- Texts of this claim, one behind the other: Gv, Fu, Fw. -/
import Derived.Test.YtmhjjhaipcgbiaaBakP38
import Derived.Test.YtmhjjhaipcgbiaaBakP25
import Derived.Test.YtmhjjhaipcgbiaaBakP32
import Derived.Test.YtmhjjhaipcgbiaaBakP19
import Derived.Test.YtmhjjhaipcgbiaaBakP22
import Derived.Test.YtmhjjhaipcgbiaaBakP33
import Derived.Test.YtmhjjhaipcgbiaaBakP29
import Derived.Deep.QuietTactic
import Derived.BigQuiet
import Derived.Test.YtmhjjhaipcgbiaaBakP16

namespace Go.Proofs.Ytmhjjhaipcgbiaa
open Go.RowKit
set_option linter.unusedVariables false
set_option linter.unusedSimpArgs false
set_option maxRecDepth 100000
set_option maxHeartbeats 1000000
theorem sameC_iff {a b : Col} (ha : checkC a = 0) (hb : checkC b = 0) : sameC a b = true ↔ a = b := by
  unfold sameC
  rw [decide_eq_true_eq]
  constructor
  · rintro ⟨_, _, e1, e2, e3, e4, e5, e6, e7⟩
    have m1 := (check_zero ha).2.2.1
    have m2 := (check_zero hb).2.2.1
    obtain ⟨k, s, n, m, bi, da, en, wo⟩ := a
    obtain ⟨k', s', n', m', bi', da', en', wo'⟩ := b
    dsimp only at *
    subst e1; subst e2; subst e3; subst e4; subst e5; subst e6; subst e7
    rw [m1, m2]
  · rintro rfl
    exact ⟨ha, hb, rfl, rfl, rfl, rfl, rfl, rfl, rfl⟩
theorem equalC_iff {a b : Col} : equalC a b = true ↔ a = b := by
  unfold equalC
  rw [decide_eq_true_eq]
  constructor
  · rintro ⟨e1, e2, e3, e3', e4, e5, e6, e7⟩
    obtain ⟨k, s, n, m, bi, da, en, wo⟩ := a
    obtain ⟨k', s', n', m', bi', da', en', wo'⟩ := b
    dsimp only at *
    subst e1; subst e2; subst e3; subst e3'; subst e4; subst e5; subst e6; subst e7
    rfl
  · rintro rfl
    exact ⟨rfl, rfl, rfl, rfl, rfl, rfl, rfl, rfl⟩
theorem tsame_any (t u : Tb) (ht : TbOK t) (hu : TbOK u) (H C H2 C2 : SL) (w : World) (h : RdTb w t H C) (h2 : RdTb w u H2 C2) : Calls Try.prog 36 #[tbV t H C, tbV u H2 C2] w (ChkB (TableP t ∧ TableP u ∧ t = u) w) := by
  have HA := Aside.mk h
  have HB := Aside.mk h2
  have HTO := Aside.mk ht
  have HUO := Aside.mk hu
  have hb1 := below_new w (.cells #[.slice H.a t.hs.length H.c, .int .i64 t.rows, .slice C.a t.cs.length C.c] 73)
  have hx1 := heap_alloc_new w (.cells #[.slice H.a t.hs.length H.c, .int .i64 t.rows, .slice C.a t.cs.length C.c] 73)
  have hb2 := below_new (w.alloc (.cells #[.slice H.a t.hs.length H.c, .int .i64 t.rows, .slice C.a t.cs.length C.c] 73)) (.cells #[.slice H2.a u.hs.length H2.c, .int .i64 u.rows, .slice C2.a u.cs.length C2.c] 73)
  have hx2 : ((w.alloc (.cells #[.slice H.a t.hs.length H.c, .int .i64 t.rows, .slice C.a t.cs.length C.c] 73)).alloc (.cells #[.slice H2.a u.hs.length H2.c, .int .i64 u.rows, .slice C2.a u.cs.length C2.c] 73)).heap[w.heap.size + 1]? = some (.cells #[.slice H2.a u.hs.length H2.c, .int .i64 u.rows, .slice C2.a u.cs.length C2.c] 73) := by
    have := heap_alloc_new (w.alloc (.cells #[.slice H.a t.hs.length H.c, .int .i64 t.rows, .slice C.a t.cs.length C.c] 73)) (.cells #[.slice H2.a u.hs.length H2.c, .int .i64 u.rows, .slice C2.a u.cs.length C2.c] 73)
    simpa using this
  have HW := Aside.mk (below_chain hb1 hb2)
  have HX1 := Aside.mk ((hb2.block _ (lt_of_blk hx1)).trans hx1)
  have HX2 := Aside.mk hx2
  have hcl := ht.cl
  have hhl := ht.hl
  have hcl2 := hu.cl
  clear h h2 ht hu hb1 hb2 hx1 hx2
  obtain ⟨hs, rows, cs⟩ := t
  obtain ⟨hs2, rows2, cs2⟩ := u
  dsimp only [tbV] at *
  have HCA := Aside.mk (fun W (hb : Below w.heap.size w W) => emit_any ⟨hs, rows, cs⟩ HTO.out H C W (HA.out.below hb))
  have HCB := Aside.mk (fun W (hb : Below w.heap.size w W) => emit_any ⟨hs2, rows2, cs2⟩ HUO.out H2 C2 W (HB.out.below hb))
  have HSM := Aside.mk (fun W (hb : Below w.heap.size w W) => ssame_any hs hs2 hhl H H2 W (HA.out.h.below hb) (HB.out.h.below hb))
  dsimp only [tbV] at HCA HCB
  obtain ⟨w0, hw0⟩ : ∃ q, q = ((w.alloc (.cells #[.slice H.a hs.length H.c, .int .i64 rows, .slice C.a cs.length C.c] 73)).alloc (.cells #[.slice H2.a hs2.length H2.c, .int .i64 rows2, .slice C2.a cs2.length C2.c] 73)) := ⟨_, rfl⟩
  rw [← hw0] at HW HX1 HX2
  obtain ⟨s0, s1, s2⟩ := box3t HX1.out
  obtain ⟨r0, r1, r2⟩ := box3t HX2.out
  by_cases hT : TableP ⟨hs, rows, cs⟩
  rotate_left
  · have HN := Aside.mk hT
    clear hT
    go_enter Try.func36, Try.ntmps36
    go_upto_region 1 with fail
    rw [← hw0]
    clear hw0
    go_wp2_with (go_at_call 73; refine (HCA.out _ HW.out).mono ?_; rintro e w2 ⟨r, rfl, _, hr, hb⟩; obtain rfl : r = 241 := hr HN.out; have HW2 := Aside.mk (below_chain HW.out hb); clear hr hb)
    go_ret
    exact ⟨false, rfl, ⟨(fun e => by cases e), fun e => absurd e.1 HN.out⟩, HW2.out⟩
  · have HT := Aside.mk hT
    clear hT
    by_cases hU : TableP ⟨hs2, rows2, cs2⟩
    rotate_left
    · have HN := Aside.mk hU
      clear hU
      go_enter Try.func36, Try.ntmps36
      go_upto_region 1 with fail
      rw [← hw0]
      clear hw0
      go_wp2_with (go_at_call 73; first
        | (have _t := HCA; refine (HCA.out _ HW.out).mono ?_; rintro e w2 ⟨r, rfl, hr, _, hb⟩; obtain rfl : r = 0 := hr HT.out; have HW2 := Aside.mk (below_chain HW.out hb); have hx2 := (hb.block _ (lt_of_blk HX2.out)).trans HX2.out; obtain ⟨r0, r1, r2⟩ := box3t hx2; clear hr hb hx2 HCA)
        | (refine (HCB.out _ HW2.out).mono ?_; rintro e w3 ⟨r, rfl, _, hr, hb⟩; obtain rfl : r = 241 := hr HN.out; have HW3 := Aside.mk (below_chain HW2.out hb); clear hr hb))
      go_ret
      exact ⟨false, rfl, ⟨(fun e => by cases e), fun e => absurd e.2.1 HN.out⟩, HW3.out⟩
    · have HU := Aside.mk hU
      clear hU
      have ARMT : True := trivial
      by_cases hH : hs = hs2
      rotate_left
      · have HN := Aside.mk hH
        clear hH
        go_enter Try.func36, Try.ntmps36
        go_upto_region 1 with fail
        rw [← hw0]
        clear hw0
        go_wp2_with (first
          | (go_at_call 73; first
            | (have _t := HCA; refine (HCA.out _ HW.out).mono ?_; rintro e w5 ⟨r, rfl, hr, _, hb⟩; obtain rfl : r = 0 := hr HT.out; have HW2 := Aside.mk (below_chain HW.out hb); replace HX1 := Aside.mk ((hb.block _ (lt_of_blk HX1.out)).trans HX1.out); replace HX2 := Aside.mk ((hb.block _ (lt_of_blk HX2.out)).trans HX2.out); obtain ⟨s0, s1, s2⟩ := box3t HX1.out; obtain ⟨r0, r1, r2⟩ := box3t HX2.out; clear hr hb HCA)
            | (refine (HCB.out _ HW2.out).mono ?_; rintro e w6 ⟨r, rfl, hr, _, hb⟩; obtain rfl : r = 0 := hr HU.out; have HW3 := Aside.mk (below_chain HW2.out hb); replace HX1 := Aside.mk ((hb.block _ (lt_of_blk HX1.out)).trans HX1.out); replace HX2 := Aside.mk ((hb.block _ (lt_of_blk HX2.out)).trans HX2.out); obtain ⟨s0, s1, s2⟩ := box3t HX1.out; obtain ⟨r0, r1, r2⟩ := box3t HX2.out; clear hr hb))
          | (go_at_call 85; refine (HSM.out _ HW3.out).mono ?_; rintro e w2 ⟨r, rfl, hr, hb⟩; obtain rfl : r = false := Bool.eq_false_iff.2 (fun e => HN.out (hr.1 e)); have HW4 := Aside.mk (below_chain HW3.out hb); clear hr hb))
        go_ret
        exact ⟨false, rfl, ⟨(fun e => by cases e), fun e => absurd (congrArg Tb.hs e.2.2) HN.out⟩, HW4.out⟩
      · subst hH
        by_cases hR : rows = rows2
        rotate_left
        · have HN := Aside.mk hR
          have hd : (rows == rows2) = false := beq_eq_false_iff_ne.2 hR
          clear hR
          go_enter Try.func36, Try.ntmps36
          go_upto_region 1 with fail
          rw [← hw0]
          clear hw0
          go_wp2_with (first
            | (go_at_call 73; first
            | (have _t := HCA; refine (HCA.out _ HW.out).mono ?_; rintro e w5 ⟨r, rfl, hr, _, hb⟩; obtain rfl : r = 0 := hr HT.out; have HW2 := Aside.mk (below_chain HW.out hb); replace HX1 := Aside.mk ((hb.block _ (lt_of_blk HX1.out)).trans HX1.out); replace HX2 := Aside.mk ((hb.block _ (lt_of_blk HX2.out)).trans HX2.out); obtain ⟨s0, s1, s2⟩ := box3t HX1.out; obtain ⟨r0, r1, r2⟩ := box3t HX2.out; clear hr hb HCA)
            | (refine (HCB.out _ HW2.out).mono ?_; rintro e w6 ⟨r, rfl, hr, _, hb⟩; obtain rfl : r = 0 := hr HU.out; have HW3 := Aside.mk (below_chain HW2.out hb); replace HX1 := Aside.mk ((hb.block _ (lt_of_blk HX1.out)).trans HX1.out); replace HX2 := Aside.mk ((hb.block _ (lt_of_blk HX2.out)).trans HX2.out); obtain ⟨s0, s1, s2⟩ := box3t HX1.out; obtain ⟨r0, r1, r2⟩ := box3t HX2.out; clear hr hb))
            | (go_at_call 85; refine (HSM.out _ HW3.out).mono ?_; rintro e w2 ⟨r, rfl, hr, hb⟩; obtain rfl : r = true := (by simpa using hr); have HW4 := Aside.mk (below_chain HW3.out hb); have hx1 := (hb.block _ (lt_of_blk HX1.out)).trans HX1.out; have hx2 := (hb.block _ (lt_of_blk HX2.out)).trans HX2.out; obtain ⟨s0, s1, s2⟩ := box3t hx1; obtain ⟨r0, r1, r2⟩ := box3t hx2; clear hr hb hx1 hx2))
          go_ret
          exact ⟨false, rfl, ⟨(fun e => by cases e), fun e => absurd (congrArg Tb.rows e.2.2) HN.out⟩, HW4.out⟩
        · subst hR
          obtain ⟨n, hn⟩ : ∃ n, n = cs.length := ⟨_, rfl⟩
          have hn2 : n = cs2.length := by have h1 := HT.out.2.1; have h2 := HU.out.2.1; dsimp only at h1 h2; omega
          have HN := Aside.mk hn
          have HN2 := Aside.mk hn2
          rw [← hn] at HX1
          rw [← hn2] at HX2
          rw [← hn, ← hn2] at hw0
          rw [← hn] at s2
          rw [← hn2] at r2
          rw [← hn] at HCA ⊢
          rw [← hn2] at HCB ⊢
          have hnl : n ≤ 10000000 := by omega
          clear hn hn2
          go_enter Try.func36, Try.ntmps36
          go_upto_region 1 with fail
          rw [← hw0]
          clear hw0
          go_upto_region 3 with (first
            | (go_at_call 73; first
            | (have _t := HCA; refine (HCA.out _ HW.out).mono ?_; rintro e w5 ⟨r, rfl, hr, _, hb⟩; obtain rfl : r = 0 := hr HT.out; have HW2 := Aside.mk (below_chain HW.out hb); replace HX1 := Aside.mk ((hb.block _ (lt_of_blk HX1.out)).trans HX1.out); replace HX2 := Aside.mk ((hb.block _ (lt_of_blk HX2.out)).trans HX2.out); obtain ⟨s0, s1, s2⟩ := box3t HX1.out; obtain ⟨r0, r1, r2⟩ := box3t HX2.out; clear hr hb HCA)
            | (refine (HCB.out _ HW2.out).mono ?_; rintro e w6 ⟨r, rfl, hr, _, hb⟩; obtain rfl : r = 0 := hr HU.out; have HW3 := Aside.mk (below_chain HW2.out hb); replace HX1 := Aside.mk ((hb.block _ (lt_of_blk HX1.out)).trans HX1.out); replace HX2 := Aside.mk ((hb.block _ (lt_of_blk HX2.out)).trans HX2.out); obtain ⟨s0, s1, s2⟩ := box3t HX1.out; obtain ⟨r0, r1, r2⟩ := box3t HX2.out; clear hr hb))
            | (go_at_call 85; refine (HSM.out _ HW3.out).mono ?_; rintro e w2 ⟨r, rfl, hr, hb⟩; obtain rfl : r = true := (by simpa using hr); have HWB := Aside.mk (below_chain HW3.out hb); replace HX1 := Aside.mk ((hb.block _ (lt_of_blk HX1.out)).trans HX1.out); replace HX2 := Aside.mk ((hb.block _ (lt_of_blk HX2.out)).trans HX2.out); obtain ⟨s0, s1, s2⟩ := box3t HX1.out; obtain ⟨r0, r1, r2⟩ := box3t HX2.out; clear hr hb))
          clear HCB HSM
          go_wp2_with fail
          clear s0 s1 s2 r0 r1 r2
          go_loopw [5, 32] (fun _ iv wr => ∃ i : Nat, i ≤ n ∧ iv = .int .i64 (i : Int) ∧ Aside (Below w2.heap.size w2 wr ∧ cs.take i = cs2.take i)) (fun _ iv _ => n - (intOf iv).toNat)
          case atStart => exact ⟨0, Nat.zero_le _, rfl, ⟨Below.refl _ _, rfl⟩⟩
          case round =>
            obtain ⟨i, hi, rfl, HI⟩ := hrel
            have hx1 := (HI.out.1.block _ (lt_of_blk HX1.out)).trans HX1.out
            have hx2 := (HI.out.1.block _ (lt_of_blk HX2.out)).trans HX2.out
            obtain ⟨s0, s1, s2⟩ := box3t hx1
            obtain ⟨r0, r1, r2⟩ := box3t hx2
            by_cases hlt : i < n
            · have hd : decide ((i : Int) < (n : Int)) = true := decide_eq_true (by omega)
              have hia : i < cs.length := by rw [← HN.out]; exact hlt
              have hib : i < cs2.length := by rw [← HN2.out]; exact hlt
              obtain ⟨g, off, B, D, E, X, va, ea, q1, q2, e8, rc⟩ := RdCs.at ((HA.out.c.below HWB.out).below HI.out.1) hia
              obtain ⟨g', off', B2, D2, E2, X2, vb, eb, q1', q2', e8', rc'⟩ := RdCs.at ((HB.out.c.below HWB.out).below HI.out.1) hib
              have hi0 : (0 : Int) ≤ (i : Int) := by omega
              have hi1 : (i : Int) < (n : Int) := by omega
              have hw1 : IntKind.i64.wrap ((i : Int) + 1) = (i : Int) + 1 := IntWalk.i64_in _ (by omega)
              obtain ⟨Ca, Cc⟩ := C
              obtain ⟨Ca2, Cc2⟩ := C2
              dsimp only at ea eb q1 q1' q2 q2' s2 r2
              subst ea
              subst eb
              have HTK := Aside.mk (take_more hia hib HI.out.2)
              have HNE := Aside.mk (show ¬ cs[i] = cs2[i] → ¬ cs = cs2 from fun h e => h (by subst e; rfl))
              have HIFF := Aside.mk (show sameC cs[i] cs2[i] = true ↔ cs[i] = cs2[i] from sameC_iff (HT.out.2.2 i hia (by have := HT.out.2.1; dsimp only at this ⊢; omega)).2.2.2 (HU.out.2.2 i hib (by have := HU.out.2.1; dsimp only at this ⊢; omega)).2.2.2)
              have hca := HTO.out.cok _ (List.getElem_mem hia)
              have hcb := HUO.out.cok _ (List.getElem_mem hib)
              have HCT := Aside.mk (fun W (hb : Below wr.heap.size wr W) => same_any cs[i] cs2[i] hca hcb B D E X B2 D2 E2 X2 va vb W (rc.below hb) (rc'.below hb))
              generalize cs[i] = x at *
              generalize cs2[i] = y at *
              go_upto_region 6 with fail
              have HIB := Aside.mk HI.out.1
              clear hca hcb rc rc' hx1 hx2 s0 s1 r0 r1
              refine wp_regionO (fun U : World => (U.cell? ⟨w.heap.size, 2, none⟩ = some (.slice (some ⟨g, off, none⟩) n Cc) ∧ U.cell? ⟨w.heap.size + 1, 2, none⟩ = some (.slice (some ⟨g', off', none⟩) n Cc2)) ∧ C8 U g (off + i * 8) x B D E X ∧ C8 U g' (off' + i * 8) y B2 D2 E2 X2) 11 12 (by kernel_rfl) rfl ?_
              have hS : (fun U : World => (U.cell? ⟨w.heap.size, 2, none⟩ = some (.slice (some ⟨g, off, none⟩) n Cc) ∧ U.cell? ⟨w.heap.size + 1, 2, none⟩ = some (.slice (some ⟨g', off', none⟩) n Cc2)) ∧ C8 U g (off + i * 8) x B D E X ∧ C8 U g' (off' + i * 8) y B2 D2 E2 X2) wr.drew := ⟨⟨s2, r2⟩, e8.below (below_drewN wr _ 1), e8'.below (below_drewN wr _ 1)⟩
              clear s2 r2 e8 e8'
              refine tkO (k := 0) (o := ⟨some 35, _, _, _, _, _⟩) (v := ?_) rfl (Or.inl ⟨by rfl, ?_⟩) (by assumption) ?_
              rotate_left
              · (intro w hSw; obtain ⟨⟨s2, r2⟩, -, -⟩ := hSw; go_simp; (try with_reducible rfl))
              (try simp only [Act.put, List.setIfInBounds_toArray, List.set_cons_zero, List.set_cons_succ])
              refine tkO (k := 1) (o := ⟨some 36, _, _, _, _, _⟩) (v := ?_) rfl (Or.inl ⟨by rfl, ?_⟩) (by assumption) ?_
              rotate_left
              · (intro w hSw; obtain ⟨⟨s2, r2⟩, ⟨u0, u1, u2, u3, u4, u5, u6, u7⟩, ⟨v0, v1, v2, v3, v4, v5, v6, v7⟩⟩ := hSw; go_simp; (try with_reducible rfl))
              (try simp only [Act.put, List.setIfInBounds_toArray, List.set_cons_zero, List.set_cons_succ])
              refine tkO (k := 2) (o := ⟨some 37, _, _, _, _, _⟩) (v := ?_) rfl (Or.inl ⟨by rfl, ?_⟩) (by assumption) ?_
              rotate_left
              · (intro w hSw; go_simp; (try with_reducible rfl))
              (try simp only [Act.put, List.setIfInBounds_toArray, List.set_cons_zero, List.set_cons_succ])
              refine tkO (k := 3) (o := ⟨some 38, _, _, _, _, _⟩) (v := ?_) rfl (Or.inl ⟨by rfl, ?_⟩) (by assumption) ?_
              rotate_left
              · (intro w hSw; go_simp; (try with_reducible rfl))
              (try simp only [Act.put, List.setIfInBounds_toArray, List.set_cons_zero, List.set_cons_succ])
              refine tkO (k := 4) (o := ⟨some 39, _, _, _, _, _⟩) (v := ?_) rfl (Or.inl ⟨by rfl, ?_⟩) (by assumption) ?_
              rotate_left
              · (intro w hSw; obtain ⟨⟨s2, r2⟩, ⟨u0, u1, u2, u3, u4, u5, u6, u7⟩, ⟨v0, v1, v2, v3, v4, v5, v6, v7⟩⟩ := hSw; go_simp; (try with_reducible rfl))
              (try simp only [Act.put, List.setIfInBounds_toArray, List.set_cons_zero, List.set_cons_succ])
              refine tkO (k := 5) (o := ⟨some 40, _, _, _, _, _⟩) (v := ?_) rfl (Or.inl ⟨by rfl, ?_⟩) (by assumption) ?_
              rotate_left
              · (intro w hSw; obtain ⟨⟨s2, r2⟩, -, -⟩ := hSw; go_simp; (try with_reducible rfl))
              (try simp only [Act.put, List.setIfInBounds_toArray, List.set_cons_zero, List.set_cons_succ])
              refine tkO (k := 6) (o := ⟨some 41, _, _, _, _, _⟩) (v := ?_) rfl (Or.inl ⟨by rfl, ?_⟩) (by assumption) ?_
              rotate_left
              · (intro w hSw; obtain ⟨⟨s2, r2⟩, ⟨u0, u1, u2, u3, u4, u5, u6, u7⟩, ⟨v0, v1, v2, v3, v4, v5, v6, v7⟩⟩ := hSw; go_simp; (try with_reducible rfl))
              (try simp only [Act.put, List.setIfInBounds_toArray, List.set_cons_zero, List.set_cons_succ])
              refine tkO (k := 7) (o := ⟨some 42, _, _, _, _, _⟩) (v := ?_) rfl (Or.inl ⟨by rfl, ?_⟩) (by assumption) ?_
              rotate_left
              · (intro w hSw; go_simp; (try with_reducible rfl))
              (try simp only [Act.put, List.setIfInBounds_toArray, List.set_cons_zero, List.set_cons_succ])
              refine tkO (k := 8) (o := ⟨some 43, _, _, _, _, _⟩) (v := ?_) rfl (Or.inl ⟨by rfl, ?_⟩) (by assumption) ?_
              rotate_left
              · (intro w hSw; go_simp; (try with_reducible rfl))
              (try simp only [Act.put, List.setIfInBounds_toArray, List.set_cons_zero, List.set_cons_succ])
              refine tkO (k := 9) (o := ⟨some 44, _, _, _, _, _⟩) (v := ?_) rfl (Or.inl ⟨by rfl, ?_⟩) (by assumption) ?_
              rotate_left
              · (intro w hSw; obtain ⟨⟨s2, r2⟩, ⟨u0, u1, u2, u3, u4, u5, u6, u7⟩, ⟨v0, v1, v2, v3, v4, v5, v6, v7⟩⟩ := hSw; go_simp; (try with_reducible rfl))
              (try simp only [Act.put, List.setIfInBounds_toArray, List.set_cons_zero, List.set_cons_succ])
              refine wpE_one (k := 10) (o := ⟨some 45, _, _, _, _, _⟩) rfl (by kernel_rfl) (fun K hK => ?_)
              refine step_callG (P := Try.prog) wr.drew 22 [.tmp 39, .tmp 44] _ (by rfl) (by kernel_rfl) _ (by rfl) (fun _ _ => rfl) (HCT.out wr.drew (below_drewN wr _ 1)) ?_
              rintro e w5 ⟨rfl, hb5⟩
              refine ⟨_, rfl, ?_⟩
              refine hK.out _ _ ⟨⟨(hb5.cell (p := ⟨w.heap.size, 2, none⟩) (World.block_lt_of_cell? _ _ hS.1.1)).trans hS.1.1, (hb5.cell (p := ⟨w.heap.size + 1, 2, none⟩) (World.block_lt_of_cell? _ _ hS.1.2)).trans hS.1.2⟩, hS.2.1.below hb5, hS.2.2.below hb5⟩ (fun hS => ?_)
              have HB5 := Aside.mk (below_chain HIB.out ((below_drewN wr wr.heap.size 1).trans hb5))
              clear hK K hb5
              try simp only [Act.put, List.setIfInBounds_toArray, List.set_cons_zero, List.set_cons_succ]
              refine wpE_last (k := 11) (o := ⟨some 46, _, _, _, _, _⟩) rfl (by kernel_rfl) (by kernel_rfl) rfl (fun K hK => ?_)
              go_simp
              refine hK.out _ _ ?_
              clear hK K hS
              refine ⟨rfl, ?_⟩
              by_cases hxy : x = y
              · have hq := HIFF.out.2 hxy
                rw [hq]
                have HXY := Aside.mk hxy
                clear hxy hq
                go_wp2_with fail
                go_roundw
                case rel => exact ⟨i + 1, by omega, by go_num, ⟨HB5.out, HTK.out HXY.out⟩⟩
                case measure => simp [intOf]; omega
              · have hq : sameC x y = false := Bool.eq_false_iff.2 (fun e => hxy (HIFF.out.1 e))
                rw [hq]
                have HXY := Aside.mk (HNE.out hxy)
                clear hxy hq
                go_wp2_with fail
                go_ret
                exact ⟨false, rfl, ⟨(fun e => by cases e), fun e => absurd (show cs = cs2 from by first | exact e | exact e.2.2 | exact congrArg Tb.cs e | exact congrArg Tb.cs e.2.2) HXY.out⟩, below_chain HWB.out HB5.out⟩
            · obtain rfl : i = n := by omega
              have hd : decide ((i : Int) < (i : Int)) = false := decide_eq_false (by omega)
              have HEQ : Aside (cs = cs2) := ⟨by
                have h := HI.out.2
                rw [HN.out, List.take_length, ← HN.out, HN2.out, List.take_length] at h
                exact h⟩
              have HIB := Aside.mk HI.out.1
              (try dsimp only at s2)
              go_wp2_with fail
              go_ret
              exact ⟨true, rfl, ⟨fun _ => ⟨HT.out, HU.out, by rw [HEQ.out]⟩, fun _ => rfl⟩, below_chain HWB.out HIB.out⟩
theorem rsame24_any (t u : Tb) (ht : TbOK t) (hu : TbOK u) (H C H2 C2 : SL) (w : World) (h : RdTb w t H C) (h2 : RdTb w u H2 C2) : Calls Try.prog 37 #[tbV t H C, tbV u H2 C2] w (ChkB (t = u) w) := by
  have HA := Aside.mk h
  have HB := Aside.mk h2
  have HTO := Aside.mk ht
  have HUO := Aside.mk hu
  have hb1 := below_new w (.cells #[.slice H.a t.hs.length H.c, .int .i64 t.rows, .slice C.a t.cs.length C.c] 73)
  have hx1 := heap_alloc_new w (.cells #[.slice H.a t.hs.length H.c, .int .i64 t.rows, .slice C.a t.cs.length C.c] 73)
  have hb2 := below_new (w.alloc (.cells #[.slice H.a t.hs.length H.c, .int .i64 t.rows, .slice C.a t.cs.length C.c] 73)) (.cells #[.slice H2.a u.hs.length H2.c, .int .i64 u.rows, .slice C2.a u.cs.length C2.c] 73)
  have hx2 : ((w.alloc (.cells #[.slice H.a t.hs.length H.c, .int .i64 t.rows, .slice C.a t.cs.length C.c] 73)).alloc (.cells #[.slice H2.a u.hs.length H2.c, .int .i64 u.rows, .slice C2.a u.cs.length C2.c] 73)).heap[w.heap.size + 1]? = some (.cells #[.slice H2.a u.hs.length H2.c, .int .i64 u.rows, .slice C2.a u.cs.length C2.c] 73) := by
    have := heap_alloc_new (w.alloc (.cells #[.slice H.a t.hs.length H.c, .int .i64 t.rows, .slice C.a t.cs.length C.c] 73)) (.cells #[.slice H2.a u.hs.length H2.c, .int .i64 u.rows, .slice C2.a u.cs.length C2.c] 73)
    simpa using this
  have HW := Aside.mk (below_chain hb1 hb2)
  have HX1 := Aside.mk ((hb2.block _ (lt_of_blk hx1)).trans hx1)
  have HX2 := Aside.mk hx2
  have hcl := ht.cl
  have hhl := ht.hl
  have hcl2 := hu.cl
  clear h h2 ht hu hb1 hb2 hx1 hx2
  obtain ⟨hs, rows, cs⟩ := t
  obtain ⟨hs2, rows2, cs2⟩ := u
  dsimp only [tbV] at *
  have HSM := Aside.mk (fun W (hb : Below w.heap.size w W) => rsame_heads hs hs2 hhl H H2 W (HA.out.h.below hb) (HB.out.h.below hb))
  obtain ⟨w0, hw0⟩ : ∃ q, q = ((w.alloc (.cells #[.slice H.a hs.length H.c, .int .i64 rows, .slice C.a cs.length C.c] 73)).alloc (.cells #[.slice H2.a hs2.length H2.c, .int .i64 rows2, .slice C2.a cs2.length C2.c] 73)) := ⟨_, rfl⟩
  rw [← hw0] at HW HX1 HX2
  obtain ⟨s0, s1, s2⟩ := box3t HX1.out
  obtain ⟨r0, r1, r2⟩ := box3t HX2.out
  by_cases hH : hs = hs2
  rotate_left
  · have HN := Aside.mk hH
    clear hH
    go_enter Try.func37, Try.ntmps37
    go_upto_region 1 with fail
    rw [← hw0]
    clear hw0
    go_wp2_with (go_at_call 86; refine (HSM.out _ HW.out).mono ?_; rintro e w2 ⟨r, rfl, hr, hb⟩; obtain rfl : r = false := (by exact Bool.eq_false_iff.2 (fun e => HN.out (hr.1 e))); have HWB := Aside.mk (below_chain HW.out hb); replace HX1 := Aside.mk ((hb.block _ (lt_of_blk HX1.out)).trans HX1.out); replace HX2 := Aside.mk ((hb.block _ (lt_of_blk HX2.out)).trans HX2.out); obtain ⟨s0, s1, s2⟩ := box3t HX1.out; obtain ⟨r0, r1, r2⟩ := box3t HX2.out; clear hr hb)
    go_ret
    exact ⟨false, rfl, ⟨(fun e => by cases e), fun e => absurd (show hs = hs2 from congrArg Tb.hs e) HN.out⟩, HWB.out⟩
  · subst hH
    by_cases hR : rows = rows2
    rotate_left
    · have HN := Aside.mk hR
      have hd : (rows == rows2) = false := beq_eq_false_iff_ne.2 hR
      clear hR
      go_enter Try.func37, Try.ntmps37
      go_upto_region 1 with fail
      rw [← hw0]
      clear hw0
      go_wp2_with (go_at_call 86; refine (HSM.out _ HW.out).mono ?_; rintro e w2 ⟨r, rfl, hr, hb⟩; obtain rfl : r = true := (by simpa using hr); have HWB := Aside.mk (below_chain HW.out hb); replace HX1 := Aside.mk ((hb.block _ (lt_of_blk HX1.out)).trans HX1.out); replace HX2 := Aside.mk ((hb.block _ (lt_of_blk HX2.out)).trans HX2.out); obtain ⟨s0, s1, s2⟩ := box3t HX1.out; obtain ⟨r0, r1, r2⟩ := box3t HX2.out; clear hr hb)
      go_ret
      exact ⟨false, rfl, ⟨(fun e => by cases e), fun e => absurd (show rows = rows2 from congrArg Tb.rows e) HN.out⟩, HWB.out⟩
    · subst hR
      by_cases hL : cs.length = cs2.length
      rotate_left
      · have HN := Aside.mk (show ¬ cs = cs2 from fun e => hL (by rw [e]))
        have hd : ((cs.length : Int) == (cs2.length : Int)) = false := beq_eq_false_iff_ne.2 (by omega)
        generalize cs.length = n1 at *
        generalize cs2.length = n2 at *
        clear hL
        go_enter Try.func37, Try.ntmps37
        go_upto_region 1 with fail
        rw [← hw0]
        clear hw0
        go_wp2_with (go_at_call 86; refine (HSM.out _ HW.out).mono ?_; rintro e w2 ⟨r, rfl, hr, hb⟩; obtain rfl : r = true := (by simpa using hr); have HWB := Aside.mk (below_chain HW.out hb); replace HX1 := Aside.mk ((hb.block _ (lt_of_blk HX1.out)).trans HX1.out); replace HX2 := Aside.mk ((hb.block _ (lt_of_blk HX2.out)).trans HX2.out); obtain ⟨s0, s1, s2⟩ := box3t HX1.out; obtain ⟨r0, r1, r2⟩ := box3t HX2.out; clear hr hb)
        go_ret
        exact ⟨false, rfl, ⟨(fun e => by cases e), fun e => absurd (show cs = cs2 from congrArg Tb.cs e) HN.out⟩, HWB.out⟩
      · obtain ⟨n, hn⟩ : ∃ n, n = cs.length := ⟨_, rfl⟩
        have hn2 : n = cs2.length := by omega
        have HN := Aside.mk hn
        have HN2 := Aside.mk hn2
        rw [← hn] at HX1
        rw [← hn2] at HX2
        rw [← hn, ← hn2] at hw0
        rw [← hn] at s2
        rw [← hn2] at r2
        rw [← hn, ← hn2]
        have hnl : n ≤ 10000000 := by omega
        clear hn hn2 hL
        go_enter Try.func37, Try.ntmps37
        go_upto_region 1 with fail
        rw [← hw0]
        clear hw0
        go_upto_region 3 with (go_at_call 86; refine (HSM.out _ HW.out).mono ?_; rintro e w2 ⟨r, rfl, hr, hb⟩; obtain rfl : r = true := (by simpa using hr); have HWB := Aside.mk (below_chain HW.out hb); replace HX1 := Aside.mk ((hb.block _ (lt_of_blk HX1.out)).trans HX1.out); replace HX2 := Aside.mk ((hb.block _ (lt_of_blk HX2.out)).trans HX2.out); obtain ⟨s0, s1, s2⟩ := box3t HX1.out; obtain ⟨r0, r1, r2⟩ := box3t HX2.out; clear hr hb)
        clear HSM
        go_wp2_with fail
        clear s0 s1 s2 r0 r1 r2
        go_loopw [5] (fun iv wr => ∃ i : Nat, i ≤ n ∧ iv = .int .i64 (i : Int) ∧ Aside (Below w2.heap.size w2 wr ∧ cs.take i = cs2.take i)) (fun iv _ => n - (intOf iv).toNat)
        case atStart => exact ⟨0, Nat.zero_le _, rfl, ⟨Below.refl _ _, rfl⟩⟩
        case round =>
          obtain ⟨i, hi, rfl, HI⟩ := hrel
          have hx1 := (HI.out.1.block _ (lt_of_blk HX1.out)).trans HX1.out
          have hx2 := (HI.out.1.block _ (lt_of_blk HX2.out)).trans HX2.out
          obtain ⟨s0, s1, s2⟩ := box3t hx1
          obtain ⟨r0, r1, r2⟩ := box3t hx2
          by_cases hlt : i < n
          · have hd : decide ((i : Int) < (n : Int)) = true := decide_eq_true (by omega)
            have hia : i < cs.length := by rw [← HN.out]; exact hlt
            have hib : i < cs2.length := by rw [← HN2.out]; exact hlt
            obtain ⟨g, off, B, D, E, X, va, ea, q1, q2, e8, rc⟩ := RdCs.at ((HA.out.c.below HWB.out).below HI.out.1) hia
            obtain ⟨g', off', B2, D2, E2, X2, vb, eb, q1', q2', e8', rc'⟩ := RdCs.at ((HB.out.c.below HWB.out).below HI.out.1) hib
            have hi0 : (0 : Int) ≤ (i : Int) := by omega
            have hi1 : (i : Int) < (n : Int) := by omega
            have hw1 : IntKind.i64.wrap ((i : Int) + 1) = (i : Int) + 1 := IntWalk.i64_in _ (by omega)
            obtain ⟨Ca, Cc⟩ := C
            obtain ⟨Ca2, Cc2⟩ := C2
            dsimp only at ea eb q1 q1' q2 q2' s2 r2
            subst ea
            subst eb
            have HTK := Aside.mk (take_more hia hib HI.out.2)
            have HNE := Aside.mk (show ¬ cs[i] = cs2[i] → ¬ cs = cs2 from fun h e => h (by subst e; rfl))
            have HIFF := Aside.mk (show equalC cs[i] cs2[i] = true ↔ cs[i] = cs2[i] from equalC_iff)
            have hca := HTO.out.cok _ (List.getElem_mem hia)
            have hcb := HUO.out.cok _ (List.getElem_mem hib)
            have HCT := Aside.mk (fun W (hb : Below wr.heap.size wr W) => equal_col cs[i] cs2[i] hca hcb B D E X B2 D2 E2 X2 va vb W (rc.below hb) (rc'.below hb))
            generalize cs[i] = x at *
            generalize cs2[i] = y at *
            go_upto_region 6 with fail
            have HIB := Aside.mk HI.out.1
            clear hca hcb rc rc' hx1 hx2 s0 s1 r0 r1
            refine wp_regionO (fun U : World => (U.cell? ⟨w.heap.size, 2, none⟩ = some (.slice (some ⟨g, off, none⟩) n Cc) ∧ U.cell? ⟨w.heap.size + 1, 2, none⟩ = some (.slice (some ⟨g', off', none⟩) n Cc2)) ∧ C8 U g (off + i * 8) x B D E X ∧ C8 U g' (off' + i * 8) y B2 D2 E2 X2) 11 12 (by kernel_rfl) rfl ?_
            have hS : (fun U : World => (U.cell? ⟨w.heap.size, 2, none⟩ = some (.slice (some ⟨g, off, none⟩) n Cc) ∧ U.cell? ⟨w.heap.size + 1, 2, none⟩ = some (.slice (some ⟨g', off', none⟩) n Cc2)) ∧ C8 U g (off + i * 8) x B D E X ∧ C8 U g' (off' + i * 8) y B2 D2 E2 X2) wr.drew := ⟨⟨s2, r2⟩, e8.below (below_drewN wr _ 1), e8'.below (below_drewN wr _ 1)⟩
            clear s2 r2 e8 e8'
            refine tkO (k := 0) (o := ⟨some 35, _, _, _, _, _⟩) (v := ?_) rfl (Or.inl ⟨by rfl, ?_⟩) (by assumption) ?_
            rotate_left
            · (intro w hSw; obtain ⟨⟨s2, r2⟩, -, -⟩ := hSw; go_simp; (try with_reducible rfl))
            (try simp only [Act.put, List.setIfInBounds_toArray, List.set_cons_zero, List.set_cons_succ])
            refine tkO (k := 1) (o := ⟨some 36, _, _, _, _, _⟩) (v := ?_) rfl (Or.inl ⟨by rfl, ?_⟩) (by assumption) ?_
            rotate_left
            · (intro w hSw; obtain ⟨⟨s2, r2⟩, ⟨u0, u1, u2, u3, u4, u5, u6, u7⟩, ⟨v0, v1, v2, v3, v4, v5, v6, v7⟩⟩ := hSw; go_simp; (try with_reducible rfl))
            (try simp only [Act.put, List.setIfInBounds_toArray, List.set_cons_zero, List.set_cons_succ])
            refine tkO (k := 2) (o := ⟨some 37, _, _, _, _, _⟩) (v := ?_) rfl (Or.inl ⟨by rfl, ?_⟩) (by assumption) ?_
            rotate_left
            · (intro w hSw; go_simp; (try with_reducible rfl))
            (try simp only [Act.put, List.setIfInBounds_toArray, List.set_cons_zero, List.set_cons_succ])
            refine tkO (k := 3) (o := ⟨some 38, _, _, _, _, _⟩) (v := ?_) rfl (Or.inl ⟨by rfl, ?_⟩) (by assumption) ?_
            rotate_left
            · (intro w hSw; go_simp; (try with_reducible rfl))
            (try simp only [Act.put, List.setIfInBounds_toArray, List.set_cons_zero, List.set_cons_succ])
            refine tkO (k := 4) (o := ⟨some 39, _, _, _, _, _⟩) (v := ?_) rfl (Or.inl ⟨by rfl, ?_⟩) (by assumption) ?_
            rotate_left
            · (intro w hSw; obtain ⟨⟨s2, r2⟩, ⟨u0, u1, u2, u3, u4, u5, u6, u7⟩, ⟨v0, v1, v2, v3, v4, v5, v6, v7⟩⟩ := hSw; go_simp; (try with_reducible rfl))
            (try simp only [Act.put, List.setIfInBounds_toArray, List.set_cons_zero, List.set_cons_succ])
            refine tkO (k := 5) (o := ⟨some 40, _, _, _, _, _⟩) (v := ?_) rfl (Or.inl ⟨by rfl, ?_⟩) (by assumption) ?_
            rotate_left
            · (intro w hSw; obtain ⟨⟨s2, r2⟩, -, -⟩ := hSw; go_simp; (try with_reducible rfl))
            (try simp only [Act.put, List.setIfInBounds_toArray, List.set_cons_zero, List.set_cons_succ])
            refine tkO (k := 6) (o := ⟨some 41, _, _, _, _, _⟩) (v := ?_) rfl (Or.inl ⟨by rfl, ?_⟩) (by assumption) ?_
            rotate_left
            · (intro w hSw; obtain ⟨⟨s2, r2⟩, ⟨u0, u1, u2, u3, u4, u5, u6, u7⟩, ⟨v0, v1, v2, v3, v4, v5, v6, v7⟩⟩ := hSw; go_simp; (try with_reducible rfl))
            (try simp only [Act.put, List.setIfInBounds_toArray, List.set_cons_zero, List.set_cons_succ])
            refine tkO (k := 7) (o := ⟨some 42, _, _, _, _, _⟩) (v := ?_) rfl (Or.inl ⟨by rfl, ?_⟩) (by assumption) ?_
            rotate_left
            · (intro w hSw; go_simp; (try with_reducible rfl))
            (try simp only [Act.put, List.setIfInBounds_toArray, List.set_cons_zero, List.set_cons_succ])
            refine tkO (k := 8) (o := ⟨some 43, _, _, _, _, _⟩) (v := ?_) rfl (Or.inl ⟨by rfl, ?_⟩) (by assumption) ?_
            rotate_left
            · (intro w hSw; go_simp; (try with_reducible rfl))
            (try simp only [Act.put, List.setIfInBounds_toArray, List.set_cons_zero, List.set_cons_succ])
            refine tkO (k := 9) (o := ⟨some 44, _, _, _, _, _⟩) (v := ?_) rfl (Or.inl ⟨by rfl, ?_⟩) (by assumption) ?_
            rotate_left
            · (intro w hSw; obtain ⟨⟨s2, r2⟩, ⟨u0, u1, u2, u3, u4, u5, u6, u7⟩, ⟨v0, v1, v2, v3, v4, v5, v6, v7⟩⟩ := hSw; go_simp; (try with_reducible rfl))
            (try simp only [Act.put, List.setIfInBounds_toArray, List.set_cons_zero, List.set_cons_succ])
            refine wpE_one (k := 10) (o := ⟨some 45, _, _, _, _, _⟩) rfl (by kernel_rfl) (fun K hK => ?_)
            refine step_callG (P := Try.prog) wr.drew 24 [.tmp 39, .tmp 44] _ (by rfl) (by kernel_rfl) _ (by rfl) (fun _ _ => rfl) (HCT.out wr.drew (below_drewN wr _ 1)) ?_
            rintro e w5 ⟨rfl, hb5⟩
            refine ⟨_, rfl, ?_⟩
            refine hK.out _ _ ⟨⟨(hb5.cell (p := ⟨w.heap.size, 2, none⟩) (World.block_lt_of_cell? _ _ hS.1.1)).trans hS.1.1, (hb5.cell (p := ⟨w.heap.size + 1, 2, none⟩) (World.block_lt_of_cell? _ _ hS.1.2)).trans hS.1.2⟩, hS.2.1.below hb5, hS.2.2.below hb5⟩ (fun hS => ?_)
            have HB5 := Aside.mk (below_chain HIB.out ((below_drewN wr wr.heap.size 1).trans hb5))
            clear hK K hb5
            try simp only [Act.put, List.setIfInBounds_toArray, List.set_cons_zero, List.set_cons_succ]
            refine wpE_last (k := 11) (o := ⟨some 46, _, _, _, _, _⟩) rfl (by kernel_rfl) (by kernel_rfl) rfl (fun K hK => ?_)
            go_simp
            refine hK.out _ _ ?_
            clear hK K hS
            refine ⟨rfl, ?_⟩
            by_cases hxy : x = y
            · have hq := HIFF.out.2 hxy
              rw [hq]
              have HXY := Aside.mk hxy
              clear hxy hq
              go_wp2_with fail
              go_roundw
              case rel => exact ⟨i + 1, by omega, by go_num, ⟨HB5.out, HTK.out HXY.out⟩⟩
              case measure => simp [intOf]; omega
            · have hq : equalC x y = false := Bool.eq_false_iff.2 (fun e => hxy (HIFF.out.1 e))
              rw [hq]
              have HXY := Aside.mk (HNE.out hxy)
              clear hxy hq
              go_wp2_with fail
              go_ret
              exact ⟨false, rfl, ⟨(fun e => by cases e), fun e => absurd (show cs = cs2 from by first | exact e | exact e.2.2 | exact congrArg Tb.cs e | exact congrArg Tb.cs e.2.2) HXY.out⟩, below_chain HWB.out HB5.out⟩
          · obtain rfl : i = n := by omega
            have hd : decide ((i : Int) < (i : Int)) = false := decide_eq_false (by omega)
            have HEQ : Aside (cs = cs2) := ⟨by
              have h := HI.out.2
              rw [HN.out, List.take_length, ← HN.out, HN2.out, List.take_length] at h
              exact h⟩
            have HIB := Aside.mk HI.out.1
            (try dsimp only at s2)
            go_wp2_with fail
            go_ret
            exact ⟨true, rfl, ⟨fun _ => by rw [HEQ.out], fun _ => rfl⟩, below_chain HWB.out HIB.out⟩
end Go.Proofs.Ytmhjjhaipcgbiaa


namespace Go.Proofs.Ytmhjjhaipcgbiaa
open Go.RowKit
set_option linter.unusedVariables false
set_option linter.unusedSimpArgs false
set_option maxRecDepth 100000
set_option maxHeartbeats 1000000
theorem dnil_any (w : World) : Calls Try.prog 34 #[.slice none 0 0] w (fun e w' => e = .returned (.tuple #[.agg #[.slice none 0 0, .int .i64 0, .slice none 0 0], .int .i64 251]) ∧ Below w.heap.size w w') := by
  have hg : decide ((-8 : Int) < 0) = true := by decide
  go_enter Try.func34, Try.ntmps34
  go_upto_region 2 with fail
  go_quiet (fail)
  go_wp2_with fail
  all_goals
    refine bodyPost_ret (v := .tuple #[.agg #[.slice none 0 0, .int .i64 0, .slice none 0 0], .int .i64 251]) (by simp [results, Try.results34, go_sem]) rfl ?_
    exact ⟨rfl, ((((below_new w _).trans (below_drewN _ _ _)).setCell (Nat.le_refl _) _).setCell (Nat.le_refl _) _).setCell (Nat.le_refl _) _⟩
end Go.Proofs.Ytmhjjhaipcgbiaa


namespace Go.Proofs.Ytmhjjhaipcgbiaa
open Go.RowKit
set_option linter.unusedVariables false
set_option linter.unusedSimpArgs false
set_option maxRecDepth 100000
set_option maxHeartbeats 1000000
theorem num25_any (x : Int) (w : World) : Calls Try.prog 33 #[.int .i64 x] w fun e w' => e = .returned (.int .i64 x) ∧ w = w' := by
  go_enter Try.func33, Try.ntmps33
  go_wp2
  go_ret
  exact ⟨rfl, rfl⟩
def wkH : Hd := ⟨⟨#[97]⟩, 1, 0, false⟩
def wkC25 : Col := ⟨1, 0, 0, 0, [], [], [], []⟩
def wkT : Tb := ⟨[wkH], 0, [wkC25]⟩
theorem wk_plain : PlainT wkT := by
  refine ⟨0, fun _ => [], by decide, rfl, by decide, rfl, ⟨by decide, by decide, ?_, ?_, ?_⟩, fun j h h2 => ?_⟩
  · intro h hh
    obtain rfl := List.mem_singleton.1 hh
    decide
  · intro h hh
    obtain rfl := List.mem_singleton.1 hh
    decide
  · intro i j hj hij
    have hj' : j < 1 := hj
    omega
  · obtain rfl : j = 0 := by have : j < 1 := h; omega
    exact ⟨rfl, rfl, fun v hv => (by cases hv)⟩
theorem wk_len : (encT wkT).length = 61 := by kernel_rfl
theorem wk_four : (encT wkT).take 4 = [77, 84, 71, 49] := by kernel_rfl
theorem wk_sum : sumN [] = 14695981039346656037 := rfl
theorem wk_rd {w : World} {b : Nat} (h1 : w.heap[b]? = some (.cells #[.string ⟨#[97]⟩, .int .i64 1, .int .i64 0, .bool false] 137)) (h2 : w.heap[b + 1]? = some (.cells #[.int .i64 1, .int .i64 0, .int .i64 0, .int .i64 0, .slice none 0 0, .slice none 0 0, .slice none 0 0, .slice none 0 0] 43)) : RdTb w wkT ⟨some ⟨b, 0, none⟩, 1⟩ ⟨some ⟨b + 1, 0, none⟩, 1⟩ := by
  refine ⟨⟨by decide, some ⟨b, 0, none⟩, 1, rfl, by decide, by decide, (fun e => by cases e), fun j u hu => ⟨b, 0, rfl, ?_⟩⟩, [.int .i64 1, .int .i64 0, .int .i64 0, .int .i64 0, .slice none 0 0, .slice none 0 0, .slice none 0 0, .slice none 0 0], ⟨by decide, some ⟨b + 1, 0, none⟩, 1, rfl, by decide, by decide, (fun e => by cases e), fun j u hu => ⟨b + 1, 0, rfl, ?_⟩⟩, fun i c hi => ?_⟩
  · rw [cell_blk h1, Nat.zero_add, ← Array.getElem?_toList]; exact hu
  · rw [cell_blk h2, Nat.zero_add, ← Array.getElem?_toList]; exact hu
  · have hi1 : i < 1 := (List.getElem?_eq_some_iff.1 hi).1
    obtain rfl : i = 0 := by omega
    obtain rfl : wkC25 = c := by simpa [wkT] using hi
    exact ⟨⟨none, 0⟩, ⟨none, 0⟩, ⟨none, 0⟩, ⟨none, 0⟩, [], fun j u hu => by rw [Nat.zero_mul, Nat.zero_add]; exact hu, Rd.nil _ _, Rd.nil _ _, Rd.nil _ _, Rd.nil _ _, ⟨rfl, fun i t hi => by cases hi⟩⟩
theorem wakes25_any (w : World) : Calls Try.prog 35 #[] w (BoolP true w) := by
  go_enter Try.func35, Try.ntmps35
  go_upto_region 2 with fail
  obtain ⟨w1, hw1⟩ : ∃ u, u = (w.alloc (.cells #[.string ⟨#[97]⟩, .int .i64 1, .int .i64 0, .bool false] 137)).alloc (.cells #[.int .i64 1, .int .i64 0, .int .i64 0, .int .i64 0, .slice none 0 0, .slice none 0 0, .slice none 0 0, .slice none 0 0] 43) := ⟨_, rfl⟩
  have hz1 : w1.heap.size = w.heap.size + 1 + 1 := by rw [hw1]; simp
  have hh : w1.heap[w.heap.size]? = some (.cells #[.string ⟨#[97]⟩, .int .i64 1, .int .i64 0, .bool false] 137) := by
    rw [hw1]
    exact (Below.heap_alloc _ _ _ (by simp)).trans (heap_alloc_new w _)
  have hc : w1.heap[w.heap.size + 1]? = some (.cells #[.int .i64 1, .int .i64 0, .int .i64 0, .int .i64 0, .slice none 0 0, .slice none 0 0, .slice none 0 0, .slice none 0 0] 43) := by
    have := heap_alloc_new (w.alloc (.cells #[.string ⟨#[97]⟩, .int .i64 1, .int .i64 0, .bool false] 137)) (.cells #[.int .i64 1, .int .i64 0, .int .i64 0, .int .i64 0, .slice none 0 0, .slice none 0 0, .slice none 0 0, .slice none 0 0] 43)
    rw [hw1]
    simpa using this
  have hb1 : Below w.heap.size w w1 := by rw [hw1]; exact below_chain (below_new w _) (below_new _ _)
  rw [← hw1]
  clear hw1
  have hb2 := below_new w1 (.cells #[.slice (some ⟨w.heap.size, 0, none⟩) 1 1, .int .i64 0, .slice (some ⟨w.heap.size + 1, 0, none⟩) 1 1] 73)
  have hx2 := heap_alloc_new w1 (.cells #[.slice (some ⟨w.heap.size, 0, none⟩) 1 1, .int .i64 0, .slice (some ⟨w.heap.size + 1, 0, none⟩) 1 1] 73)
  have HE := Aside.mk (encode_yes wkT wk_plain.sm wk_plain.table.1 _ _ _ ((wk_rd hh hc).below hb2))
  have HB := Aside.mk (below_chain hb1 hb2)
  rw [hz1] at hx2
  obtain ⟨t0, t1, t2⟩ := box3t hx2
  clear hh hc hb1 hb2 hx2 hz1
  generalize w1.alloc (.cells #[.slice (some ⟨w.heap.size, 0, none⟩) 1 1, .int .i64 0, .slice (some ⟨w.heap.size + 1, 0, none⟩) 1 1] 73) = w2 at *
  unfold EncY at HE
  rw [wk_len] at HE
  dsimp only [tbV, wkT, List.length_cons, List.length_nil] at HE
  go_upto_region 4 with (first
    | (go_at_call 31; refine HE.out.mono ?_; rintro e w3 ⟨a, c, rfl, ho, hb⟩; have HO := Aside.mk ho; replace HB := Aside.mk (below_chain HB.out hb); clear ho hb HE t0 t1 t2)
    | (go_at_call 34; refine (dnil_any _).mono ?_; rintro e w4 ⟨rfl, hb⟩; replace HO := Aside.mk (HO.out.below hb); replace HB := Aside.mk (below_chain HB.out hb); clear hb))
  have hb5 := below_new w4 (.cells #[.slice none 0 0, .int .i64 0, .slice none 0 0] 73)
  replace HO := Aside.mk (HO.out.below hb5)
  replace HB := Aside.mk (below_chain HB.out hb5)
  clear hb5
  generalize w4.alloc (.cells #[.slice none 0 0, .int .i64 0, .slice none 0 0] 73) = w5 at *
  have hr := HO.out.rd.mid (i := 0) (j := 4) (by decide) (by decide)
  have hcap : 61 ≤ c := by
    obtain ⟨_, a', c', e, q1, _⟩ := HO.out.rd
    cases e; exact q1
  have hsl : ∀ W, (Instr.slice 37 (.slice a 61 c) none (some (.int .i64 (4 : Int))) none).run Try.prog W = .ok (.slice (cutA a c 0 1) 4 c) W := fun W => by
    have := run_slice_to (P := Try.prog) (T := 37) (e := 5) (sz := 1) Try.underlying37 (by kernel_rfl) a 61 c 4 (by omega) W
    simpa using this
  have hf : ((((encT wkT).map (Value.int .u8)).drop (0 * 1)).take ((4 - 0) * 1)) = ([77, 84, 71, 49] : List Int).map (.int .u8) := by
    rw [← wk_four]
    simp [List.map_take]
  replace hr : Rd w5 1 (.slice (cutA a c 0 1) 4 c) 4 (([77, 84, 71, 49] : List Int).map (.int .u8)) := by rw [← hf]; exact hr
  have hcv : (convert 37 9 (.slice (cutA a c 0 1) 4 c)).run Try.prog w5 = .ok (.string ⟨#[77, 84, 71, 49]⟩) w5 := conv_rd (.slice (cutA a c 0 1) 4 c) 4 [77, 84, 71, 49] rfl (by decide) w5 hr
  clear hf hr
  go_wp2_with (first
    | (go_at_call 33; refine (num25_any _ _).mono ?_; rintro e w6 ⟨rfl, rfl⟩)
    | (go_at_call 76; refine (fsum_any [] (fun v hv => by cases hv) ⟨none, 0⟩ _ (Rd.nil _ _)).mono ?_; rintro e w6 ⟨rfl, rfl⟩; rw [wk_sum]))
  go_ret
  exact ⟨rfl, HB.out⟩
end Go.Proofs.Ytmhjjhaipcgbiaa
