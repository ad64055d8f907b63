/- Texts of this claim, one behind the other: Close1, Close2, Book2. -/
import Derived.Test.YtmhjjhaipcgbiaaGreatZooP42
import Derived.Test.YtmhjjhaipcgbiaaGreatZooP24
import Derived.Test.YtmhjjhaipcgbiaaGreatZooP30

namespace Go.Proofs.YtmhjjhaipcgbiaaGreat
open Go.RowKit
set_option linter.unusedVariables false
set_option linter.unusedSimpArgs false
set_option maxRecDepth 100000
set_option maxHeartbeats 1000000
def bM (d : Int) (m : Nat) : Value := .int .u8 (((m : Int) + d) % 256)
theorem byteinfo8 : (Tryz.prog.info? 5).map (fun i => (i.zero, i.size, i.bytes)) = some (some (.int .u8 0), 1, 1) := by kernel_rfl
theorem bytesinfo8 : (Tryz.prog.info? 43).map (fun i => (i.zero, i.size, i.bytes)) = some (some (.slice none 0 0), 1, 24) := by kernel_rfl
theorem rw_at {w : World} {E TE : TypeId} {a : Option Addr} {c : Nat} {rows : List KRow} {f : Nat → List Value} (h : RW w E TE (.slice a rows.length c) rows f) {i : Nat} (hi : i < rows.length) : ∃ g off, a = some ⟨g, off, none⟩ ∧ rows.length ≤ c ∧ c ≤ 9223372036854775807 ∧ w.cell? ⟨g, off + i, none⟩ = some rows[i].val := by
  obtain ⟨g, off, cap, e, h1, h2, h3, h4, h5, _⟩ := h.rv.some_ (by omega)
  simp only [Value.slice.injEq, true_and] at e
  obtain ⟨rfl, rfl⟩ := e
  exact ⟨g, off, rfl, h3, h4, h5 i _ (by rw [List.getElem?_map, List.getElem?_eq_getElem hi]; rfl)⟩
theorem rw_row {w : World} {E TE : TypeId} {v : Value} {rows : List KRow} {f : Nat → List Value} (h : RW w E TE v rows f) {i : Nat} {a : Option Addr} {c : Nat} {xs : List Int} (hi : rows[i]? = some ⟨a, c, xs⟩) {k : Nat} (hk : k < xs.length) : ∃ g off u, a = some ⟨g, off, none⟩ ∧ xs.length ≤ c ∧ c ≤ 9223372036854775807 ∧ w.cell? ⟨g, off + k, none⟩ = some u ∧ (f i)[k]? = some u ∧ ∀ k, w.frozen? ⟨g, k, none⟩ = false := by
  have h0 := h.row i _ hi
  obtain ⟨g, off, cap, e, h1, h2, h3, h4, h5, h6⟩ := h0.some_ (show 0 < xs.length by omega)
  simp only [KRow.val, Value.slice.injEq, true_and] at e
  obtain ⟨rfl, rfl⟩ := e
  have hl : k < (f i).length := by have := h0.1; simp at this; omega
  exact ⟨g, off, _, rfl, h3, h4, h5 k _ (List.getElem?_eq_getElem hl), List.getElem?_eq_getElem hl, h6⟩
theorem rw_mark {w : World} {E TE : TypeId} {v : Value} {mark : Nat → Value} {rows : List KRow} {f : Nat → List Value} (h : RW w E TE v rows f) (hf : ∀ m r, rows[m]? = some r → f m = List.replicate r.xs.length (mark m)) {i : Nat} {a : Option Addr} {c : Nat} {xs : List Int} (hi : rows[i]? = some ⟨a, c, xs⟩) {k : Nat} (hk : k < xs.length) : ∃ g off, a = some ⟨g, off, none⟩ ∧ xs.length ≤ c ∧ c ≤ 9223372036854775807 ∧ w.cell? ⟨g, off + k, none⟩ = some (mark i) := by
  obtain ⟨g, off, u, e, h1, h2, h3, h4, _⟩ := rw_row h hi hk
  rw [hf i _ hi] at h4
  rw [List.getElem?_replicate, if_pos hk] at h4
  exact ⟨g, off, e, h1, h2, h4 ▸ h3⟩
theorem gr_at {base : Nat} {w : World} {E TE : TypeId} {mark m0 m1 : Nat → Value} {rows : List KRow} {ga : Option Addr} {gc : Nat} {gs : List Value} (h : GR base w E TE mark m0 m1 rows (.slice ga gs.length gc) gs) {i : Nat} {a : Option Addr} {c : Nat} {xs : List Int} (hi : rows[i]? = some ⟨a, c, xs⟩) (hl : i < gs.length) :
    ∃ g off g5 o5 c5, ga = some ⟨g, off, none⟩ ∧ gs.length ≤ gc ∧ gc ≤ 9223372036854775807 ∧ w.cell? ⟨g, off + i, none⟩ = some (.slice (some ⟨g5, o5, none⟩) (xs.length + 2) c5) ∧ xs.length + 2 ≤ c5 ∧ c5 ≤ 9223372036854775807 ∧ (∀ k, k < xs.length → w.cell? ⟨g5, o5 + k, none⟩ = some (mark i)) ∧ w.cell? ⟨g5, o5 + xs.length, none⟩ = some (m0 i) ∧ w.cell? ⟨g5, o5 + (xs.length + 1), none⟩ = some (m1 i) := by
  obtain ⟨a5, c5, q1, q2, _⟩ := h.g i _ hl hi
  dsimp only at q1 q2
  obtain ⟨g, off, cap, e, h1, h2, h3, h4, h5, _⟩ := h.gv.some_ (by omega)
  simp only [Value.slice.injEq, true_and] at e
  obtain ⟨rfl, rfl⟩ := e
  obtain ⟨g5, o5, cap, e, _, _, k3, k4, k5, _⟩ := q2.some_ (by omega)
  simp only [Value.slice.injEq, true_and] at e
  obtain ⟨rfl, rfl⟩ := e
  refine ⟨g, off, g5, o5, c5, rfl, h3, h4, h5 i _ q1, k3, k4, fun k hk => k5 k _ ?_, k5 _ _ ?_, k5 _ _ ?_⟩
  · rw [List.getElem?_append_left (by simpa using hk), List.getElem?_replicate, if_pos hk]
  · rw [List.getElem?_append_right (by simp)]; simp
  · rw [List.getElem?_append_right (by simp)]; simp
theorem close_bytes (bk : Nat) (rows : List KRow) (bv sv iv hv : Value) (w : World) (hblk : w.heap[bk]? = some (.cells #[bv, sv, .slice none 0 0, .slice none 0 0, iv, hv] 41 (0, 0))) (hb : BR w 5 43 .u8 bv rows) :
    Calls Tryz.prog 96 #[.pointer (some ⟨bk, 0, none⟩)] w (fun e w' => e = .returned (.bool true) ∧ Kept (RowsB rows) w w') := by
  obtain ⟨ba, bc, rfl⟩ := hb.rv.form
  have hf1 := hb.few
  have hnr : ¬ RowsB rows bk := by
    rintro ⟨r, hr, e⟩
    obtain ⟨m, hm, rfl⟩ := List.mem_iff_getElem.1 hr
    obtain ⟨cur, q⟩ := own_blk (hb.row m _ (List.getElem?_eq_getElem hm)) e
    exact blk_ne hblk q (by decide) rfl
  have HBK := Aside.mk (show ∀ {wr : World}, Kept (RowsB rows) w wr → wr.heap[bk]? = some (.cells #[.slice ba rows.length bc, sv, .slice none 0 0, .slice none 0 0, iv, hv] 41 (0, 0)) from fun {wr} k => (k.block bk (lt_of_blk hblk) hnr).trans hblk)
  have H0 := Aside.mk hb.rw_
  have HLT := Aside.mk (And.intro (show ∀ b, RowsB rows b → b < w.heap.size from fun b ⟨r, hr, e⟩ => hb.lt.2 r hr b e) hb.lt.1)
  clear hblk hb hnr
  go_enter Tryz.func96, Tryz.ntmps96
  go_wp2_with fail
  go_loopw [3] (fun i0 wr => ∃ i : Nat, i ≤ rows.length ∧ i0 = .int .i64 (i : Int) ∧ Aside (∃ f, RW wr 5 43 (.slice ba rows.length bc) rows f ∧ Full (bM 0) rows f i 0 ∧ Kept (RowsB rows) w wr)) (fun i0 _ => rows.length - (intOf i0).toNat)
  case atStart => exact ⟨0, by omega, rfl, ⟨_, H0.out, Full.start _ _ _, Kept.refl _ _⟩⟩
  case round =>
    obtain ⟨i, hi, rfl, hp⟩ := hrel
    obtain ⟨f, hR, hF, hK⟩ := hp.out
    have HR := Aside.mk hR
    have HF := Aside.mk hF
    have HK := Aside.mk hK
    clear hR hF hK hp
    obtain ⟨c0, c1, c2, c3, c4, c5⟩ := box6b (HBK.out HK.out)
    by_cases hlt : i < rows.length
    · have HI := Aside.mk (List.getElem?_eq_getElem hlt)
      obtain ⟨⟨a, c, xs⟩, hrow⟩ : ∃ r, rows[i] = r := ⟨_, rfl⟩
      rw [hrow] at HI
      clear hrow
      generalize hn : xs.length = n at *
      have HN := Aside.mk hn
      clear hn
      go_wp2_with fail
      clear c0 c1 c2 c3 c4 c5
      go_loopw [4] (fun j0 wr => ∃ k : Nat, k ≤ n ∧ j0 = .int .i64 (k : Int) ∧ Aside (∃ f, RW wr 5 43 (.slice ba rows.length bc) rows f ∧ Full (bM 0) rows f i k ∧ Kept (RowsB rows) w wr)) (fun j0 _ => n - (intOf j0).toNat)
      case atStart => exact ⟨0, by omega, rfl, ⟨_, HR.out, HF.out, HK.out⟩⟩
      case round =>
        clear HR HF HK
        obtain ⟨k, hk, rfl, hp⟩ := hrel
        obtain ⟨f, hR, hF, hK⟩ := hp.out
        have HR := Aside.mk hR
        have HF := Aside.mk hF
        have HK := Aside.mk hK
        clear hR hF hK hp
        obtain ⟨c0, c1, c2, c3, c4, c5⟩ := box6b (HBK.out HK.out)
        obtain ⟨g1, o1, e1, hx1, hx2, d1⟩ := rw_at HR.out hlt
        rw [(Option.some.inj ((List.getElem?_eq_getElem hlt).symm.trans HI.out))] at d1
        subst e1
        simp only [KRow.val, HN.out] at d1
        by_cases hkl : k < n
        · obtain ⟨g, o, u, e2, hx3, hx4, d2, hu, hf0⟩ := rw_row HR.out HI.out (show k < xs.length by have := HN.out; omega)
          subst e2
          rw [HN.out] at hx3
          have HU := Aside.mk hu
          clear hu
          go_wp2_with fail
          refine ⟨⟨k + 1, by omega, by simp, ⟨_, HR.out.store (by decide) HI.out k (bM 0 i), HF.out.step (List.getElem?_eq_some_iff.1 HU.out).1, HK.out.trans (Kept.setCell _ _ _) (fun b e _ => ?_)⟩⟩, by simp [intOf]; omega⟩
          exact e ▸ ⟨_, List.mem_of_getElem? HI.out, rfl⟩
        · obtain rfl : k = n := by omega
          go_wp2_with fail
          refine ⟨⟨i + 1, by omega, by simp, ⟨_, HR.out, Full.next (r := ⟨a, c, xs⟩) (by rw [HN.out]; exact HF.out) HR.out HI.out, HK.out⟩⟩, by simp [intOf]; omega⟩
    · obtain rfl : i = rows.length := by omega
      have HFULL := Aside.mk (show ∀ m r, rows[m]? = some r → f m = List.replicate r.xs.length (bM 0 m) from fun m r hm => HF.out.1 m r (List.getElem?_eq_some_iff.1 hm).1 hm)
      clear HF
      go_wp2_with fail
      clear c0 c1 c2 c3 c4 c5
      go_loopw [5, 6] (fun gv i0 wr => ∃ (gs : List Value) (ga : Option Addr) (gc : Nat), gs.length ≤ rows.length ∧ gv = .slice ga gs.length gc ∧ i0 = .int .i64 (gs.length : Int) ∧ Aside (RW wr 5 43 (.slice ba rows.length bc) rows f ∧ GR w.heap.size wr 5 43 (bM 0) (bM 100) (bM 101) rows (.slice ga gs.length gc) gs ∧ Kept (RowsB rows) w wr)) (fun _ i0 _ => rows.length - (intOf i0).toNat)
      case atStart => exact ⟨[], none, 0, by simp, rfl, rfl, ⟨HR.out, GR.start, HK.out⟩⟩
      case round =>
        clear HR HK
        obtain ⟨gs, ga, gc, hi, rfl, rfl, hp⟩ := hrel
        obtain ⟨hR, hG, hK⟩ := hp.out
        have HR := Aside.mk hR
        have HG := Aside.mk hG
        have HK := Aside.mk hK
        clear hR hG hK hp
        obtain ⟨c0, c1, c2, c3, c4, c5⟩ := box6b (HBK.out HK.out)
        by_cases hlt : gs.length < rows.length
        · have HI := Aside.mk (List.getElem?_eq_getElem hlt)
          obtain ⟨g1, o1, e1, hx1, hx2, d1⟩ := rw_at HR.out hlt
          obtain ⟨⟨a, c, xs⟩, hrow⟩ : ∃ r, rows[gs.length] = r := ⟨_, rfl⟩
          rw [hrow] at HI d1
          clear hrow
          subst e1
          have hsm := HR.out.small _ _ HI.out
          simp only [KRow.val] at d1 hsm
          generalize hn : xs.length = n at *
          have HN := Aside.mk hn
          clear hn
          have HO := Aside.mk (show Own wr 0 5 1 (.slice a n c) n (f gs.length) from by have := HR.out.row _ _ HI.out; simp only [KRow.val, HN.out] at this; exact this)
          go_wp2_with (at_builtin; refine wpList_app2 _ rfl _ _ 43 43 rfl 0 5 (.int .u8 0) 1 1 Tryz.underlying43 byteinfo8 rfl _ n (f gs.length) rfl (HO.out.alloc _) _ 1 [bM 100 gs.length] rfl (src_one Tryz.underlying43 _ _ _ rfl rfl) (by unfold maxLen; omega) (by omega) (Nat.zero_le _) ?_)
          intro v2 w2 hA
          obtain ⟨a2, q2, rfl⟩ := hA.own.form
          have HA := Aside.mk hA
          clear hA c0 c1 c2 c3 c4 c5 d1
          go_wp2_with (at_builtin; refine wpList_app2 _ rfl _ _ 43 43 rfl 0 5 (.int .u8 0) 1 1 Tryz.underlying43 byteinfo8 rfl _ (n + 1) (f gs.length ++ [bM 100 gs.length]) rfl (HA.out.own.alloc _) _ 1 [bM 101 gs.length] rfl (src_one Tryz.underlying43 _ _ _ rfl rfl) (by unfold maxLen; omega) (by omega) (Nat.zero_le _) ?_)
          intro v4 w4 hB
          obtain ⟨a4, q4, rfl⟩ := hB.own.form
          have HB := Aside.mk hB
          clear hB
          have HBS := Aside.mk (show w.heap.size ≤ w4.heap.size from by
            have s1 := HK.out.size
            have s2 : wr.heap.size ≤ w2.heap.size := by have := (Kept.of_grown HA.out.grown).size; simp at this; omega
            have s3 : w2.heap.size ≤ w4.heap.size := by have := (Kept.of_grown HB.out.grown).size; simp at this; omega
            omega)
          have HGV := Aside.mk (grow_gv HG.out HK.out.size (fun b e => HLT.out.1 b ⟨_, List.mem_of_getElem? HI.out, by simpa only [KRow.val, HN.out] using e⟩) (below_new wr _) HA.out (below_new w2 _) HB.out)
          go_wp2_with (at_builtin; refine wpList_app2 _ rfl _ _ 37 37 rfl w.heap.size 43 (.slice none 0 0) 1 24 Tryz.underlying37 bytesinfo8 rfl _ gs.length gs rfl (HGV.out.alloc _) _ 1 [.slice a4 (n + 1 + 1) q4] rfl (src_one Tryz.underlying37 _ _ _ rfl rfl) (by unfold maxLen; omega) (by omega) (Nat.le_trans HBS.out (by simp)) ?_)
          intro v6 w6 hC
          obtain ⟨a6, q6, rfl⟩ := hC.own.form
          have HC := Aside.mk hC
          clear hC
          go_wp2_with fail
          have hstep := grow_step (r := ⟨a, c, xs⟩) HR.out HFULL.out HG.out HI.out HK.out.size HLT.out.1 HLT.out.2 (by decide) (below_new wr _) (by simp only [KRow.val, HN.out]; exact HA.out) (below_new w2 _) (by simp only [HN.out]; exact HB.out) (below_new w4 _) HC.out
          refine ⟨⟨gs ++ [.slice a4 (n + 1 + 1) q4], a6, q6, by simp; omega, by simp, by simp, ⟨hstep.1, by simpa using hstep.2.1, HK.out.trans hstep.2.2 (fun b e hb => e.elim id (fun h => by omega))⟩⟩, by simp [intOf]; omega⟩
        · obtain hge : gs.length = rows.length := by omega
          clear hi hlt
          obtain ⟨wg, hwg⟩ : ∃ x, x = wr := ⟨_, rfl⟩
          subst hwg
          go_wp2_with fail
          clear c0 c1 c2 c3 c4 c5
          go_loopw [8] (fun i0 wr2 => ∃ i : Nat, i ≤ rows.length ∧ i0 = .int .i64 (i : Int) ∧ Aside (Below wg.heap.size wg wr2)) (fun i0 _ => rows.length - (intOf i0).toNat)
          case atStart => exact ⟨0, by omega, rfl, ⟨Below.refl _ _⟩⟩
          case round =>
            obtain ⟨i, hi, rfl, hp⟩ := hrel
            have HR2 := Aside.mk (HR.out.below hp.out)
            have HG2 := Aside.mk (HG.out.below hp.out)
            have HK2 := Aside.mk (HK.out.trans (Kept.of_below (S := fun _ => False) hp.out) (fun _ h _ => h.elim))
            obtain ⟨c0, c1, c2, c3, c4, c5⟩ := box6b (HBK.out HK2.out)
            by_cases hlt : i < rows.length
            · have HI := Aside.mk (List.getElem?_eq_getElem hlt)
              obtain ⟨g1, o1, e1, hx1, hx2, d1⟩ := rw_at HR2.out hlt
              obtain ⟨⟨a, c, xs⟩, hrow⟩ : ∃ r, rows[i] = r := ⟨_, rfl⟩
              rw [hrow] at HI d1
              clear hrow
              subst e1
              have hsm := HR2.out.small _ _ HI.out
              simp only [KRow.val] at d1 hsm
              generalize hn : xs.length = n at *
              have HN := Aside.mk hn
              clear hn
              have hl2 : i < gs.length := by omega
              go_wp2_with fail
              clear c0 c1 c2 c3 c4 c5 d1 HR2 HG2 HK2
              go_loopw [10] (fun j0 wr2 => ∃ k : Nat, k ≤ n ∧ j0 = .int .i64 (k : Int) ∧ Aside (Below wg.heap.size wg wr2)) (fun j0 _ => n - (intOf j0).toNat)
              case atStart => exact ⟨0, by omega, rfl, hp⟩
              case round =>
                clear hp
                obtain ⟨k, hk, rfl, hp⟩ := hrel
                have HR2 := Aside.mk (HR.out.below hp.out)
                have HG2 := Aside.mk (HG.out.below hp.out)
                have HK2 := Aside.mk (HK.out.trans (Kept.of_below (S := fun _ => False) hp.out) (fun _ h _ => h.elim))
                obtain ⟨c0, c1, c2, c3, c4, c5⟩ := box6b (HBK.out HK2.out)
                obtain ⟨g1, o1, e1, _, _, d1⟩ := rw_at HR2.out hlt
                rw [(Option.some.inj ((List.getElem?_eq_getElem hlt).symm.trans HI.out))] at d1
                simp only [KRow.val, HN.out] at d1
                cases e1
                obtain ⟨g2, o2, g5, o5, c6, e2, hy1, hy2, d2, hy3, hy4, hm, hm0, hm1⟩ := gr_at HG2.out HI.out hl2
                subst e2
                have hx : (((i : Int) % 256) != ((i : Int) % 256)) = false := by simp
                have hxx : ((((i : Int) + 100) % 256) != (((i : Int) + 100) % 256)) = false := by simp
                have hxy : ((((i : Int) + 101) % 256) != (((i : Int) + 101) % 256)) = false := by simp
                rw [HN.out] at hm hm0 hm1 d2 hy3
                by_cases hkl : k < n
                · obtain ⟨g, o, e3, hz1, hz2, d3⟩ := rw_mark HR2.out HFULL.out HI.out (show k < xs.length by have := HN.out; omega)
                  subst e3
                  rw [HN.out] at hz1
                  have d4 := hm k hkl
                  replace d3 : wr.cell? ⟨g, o + k, none⟩ = some (.int .u8 ((i : Int) % 256)) := d3
                  replace d4 : wr.cell? ⟨g5, o5 + k, none⟩ = some (.int .u8 ((i : Int) % 256)) := d4
                  clear hm hm0 hm1
                  go_wp2_with fail
                  exact ⟨⟨k + 1, by omega, by simp, ⟨by first | exact hp.out | exact below_chain hp.out (below_drewN _ _ _)⟩⟩, by simp [intOf]; omega⟩
                · obtain rfl : k = n := by omega
                  clear hm
                  replace hm0 : wr.cell? ⟨g5, o5 + k, none⟩ = some (.int .u8 (((i : Int) + 100) % 256)) := hm0
                  replace hm1 : wr.cell? ⟨g5, o5 + (k + 1), none⟩ = some (.int .u8 (((i : Int) + 101) % 256)) := hm1
                  go_wp2_with fail
                  exact ⟨⟨i + 1, by omega, by simp, ⟨by first | exact hp.out | exact below_chain hp.out (below_drewN _ _ _)⟩⟩, by simp [intOf]; omega⟩
            · obtain rfl : i = rows.length := by omega
              go_wp2_with fail
              go_ret
              exact ⟨rfl, HK2.out⟩
end Go.Proofs.YtmhjjhaipcgbiaaGreat


namespace Go.Proofs.YtmhjjhaipcgbiaaGreat
open Go.RowKit
set_option linter.unusedVariables false
set_option linter.unusedSimpArgs false
set_option maxRecDepth 100000
set_option maxHeartbeats 1000000
def iM (d : Int) (m : Nat) : Value := .int .i64 ((m : Int) + d)
theorem intinfo8 : (Tryz.prog.info? 3).map (fun i => (i.zero, i.size, i.bytes)) = some (some (.int .i64 0), 1, 8) := by kernel_rfl
theorem intsinfo8 : (Tryz.prog.info? 61).map (fun i => (i.zero, i.size, i.bytes)) = some (some (.slice none 0 0), 1, 24) := by kernel_rfl
theorem close_ints (bk : Nat) (rows : List KRow) (iv hv bv sv : Value) (w : World) (hblk : w.heap[bk]? = some (.cells #[iv, hv, .slice none 0 0, .slice none 0 0, bv, sv] 41 (0, 0))) (hb : BR w 3 61 .i64 bv rows) :
    Calls Tryz.prog 98 #[.pointer (some ⟨bk, 0, none⟩)] w (fun e w' => e = .returned (.bool true) ∧ Kept (RowsB rows) w w') := by
  obtain ⟨ba, bc, rfl⟩ := hb.rv.form
  have hf1 := hb.few
  have hnr : ¬ RowsB rows bk := by
    rintro ⟨r, hr, e⟩
    obtain ⟨m, hm, rfl⟩ := List.mem_iff_getElem.1 hr
    obtain ⟨cur, q⟩ := own_blk (hb.row m _ (List.getElem?_eq_getElem hm)) e
    exact blk_ne hblk q (by decide) rfl
  have HBK := Aside.mk (show ∀ {wr : World}, Kept (RowsB rows) w wr → wr.heap[bk]? = some (.cells #[iv, hv, .slice none 0 0, .slice none 0 0, .slice ba rows.length bc, sv] 41 (0, 0)) from fun {wr} k => (k.block bk (lt_of_blk hblk) hnr).trans hblk)
  have H0 := Aside.mk hb.rw_
  have HLT := Aside.mk (And.intro (show ∀ b, RowsB rows b → b < w.heap.size from fun b ⟨r, hr, e⟩ => hb.lt.2 r hr b e) hb.lt.1)
  clear hblk hb hnr
  go_enter Tryz.func98, Tryz.ntmps98
  go_wp2_with fail
  go_loopw [3] (fun i0 wr => ∃ i : Nat, i ≤ rows.length ∧ i0 = .int .i64 (i : Int) ∧ Aside (∃ f, RW wr 3 61 (.slice ba rows.length bc) rows f ∧ Full (iM 0) rows f i 0 ∧ Kept (RowsB rows) w wr)) (fun i0 _ => rows.length - (intOf i0).toNat)
  case atStart => exact ⟨0, by omega, rfl, ⟨_, H0.out, Full.start _ _ _, Kept.refl _ _⟩⟩
  case round =>
    obtain ⟨i, hi, rfl, hp⟩ := hrel
    obtain ⟨f, hR, hF, hK⟩ := hp.out
    have HR := Aside.mk hR
    have HF := Aside.mk hF
    have HK := Aside.mk hK
    clear hR hF hK hp
    obtain ⟨c0, c1, c2, c3, c4, c5⟩ := box6b (HBK.out HK.out)
    by_cases hlt : i < rows.length
    · have HI := Aside.mk (List.getElem?_eq_getElem hlt)
      obtain ⟨⟨a, c, xs⟩, hrow⟩ : ∃ r, rows[i] = r := ⟨_, rfl⟩
      rw [hrow] at HI
      clear hrow
      generalize hn : xs.length = n at *
      have HN := Aside.mk hn
      clear hn
      go_wp2_with fail
      clear c0 c1 c2 c3 c4 c5
      go_loopw [4] (fun j0 wr => ∃ k : Nat, k ≤ n ∧ j0 = .int .i64 (k : Int) ∧ Aside (∃ f, RW wr 3 61 (.slice ba rows.length bc) rows f ∧ Full (iM 0) rows f i k ∧ Kept (RowsB rows) w wr)) (fun j0 _ => n - (intOf j0).toNat)
      case atStart => exact ⟨0, by omega, rfl, ⟨_, HR.out, HF.out, HK.out⟩⟩
      case round =>
        clear HR HF HK
        obtain ⟨k, hk, rfl, hp⟩ := hrel
        obtain ⟨f, hR, hF, hK⟩ := hp.out
        have HR := Aside.mk hR
        have HF := Aside.mk hF
        have HK := Aside.mk hK
        clear hR hF hK hp
        obtain ⟨c0, c1, c2, c3, c4, c5⟩ := box6b (HBK.out HK.out)
        obtain ⟨g1, o1, e1, hx1, hx2, d1⟩ := rw_at HR.out hlt
        rw [(Option.some.inj ((List.getElem?_eq_getElem hlt).symm.trans HI.out))] at d1
        subst e1
        simp only [KRow.val, HN.out] at d1
        by_cases hkl : k < n
        · obtain ⟨g, o, u, e2, hx3, hx4, d2, hu, hf0⟩ := rw_row HR.out HI.out (show k < xs.length by have := HN.out; omega)
          subst e2
          rw [HN.out] at hx3
          have HU := Aside.mk hu
          clear hu
          go_wp2_with fail
          refine ⟨⟨k + 1, by omega, by simp, ⟨_, HR.out.store (by decide) HI.out k (iM 0 i), HF.out.step (List.getElem?_eq_some_iff.1 HU.out).1, HK.out.trans (Kept.setCell _ _ _) (fun b e _ => ?_)⟩⟩, by simp [intOf]; omega⟩
          exact e ▸ ⟨_, List.mem_of_getElem? HI.out, rfl⟩
        · obtain rfl : k = n := by omega
          go_wp2_with fail
          refine ⟨⟨i + 1, by omega, by simp, ⟨_, HR.out, Full.next (r := ⟨a, c, xs⟩) (by rw [HN.out]; exact HF.out) HR.out HI.out, HK.out⟩⟩, by simp [intOf]; omega⟩
    · obtain rfl : i = rows.length := by omega
      have HFULL := Aside.mk (show ∀ m r, rows[m]? = some r → f m = List.replicate r.xs.length (iM 0 m) from fun m r hm => HF.out.1 m r (List.getElem?_eq_some_iff.1 hm).1 hm)
      clear HF
      go_wp2_with fail
      clear c0 c1 c2 c3 c4 c5
      go_loopw [5, 6] (fun gv i0 wr => ∃ (gs : List Value) (ga : Option Addr) (gc : Nat), gs.length ≤ rows.length ∧ gv = .slice ga gs.length gc ∧ i0 = .int .i64 (gs.length : Int) ∧ Aside (RW wr 3 61 (.slice ba rows.length bc) rows f ∧ GR w.heap.size wr 3 61 (iM 0) (iM 1000) (iM 1001) rows (.slice ga gs.length gc) gs ∧ Kept (RowsB rows) w wr)) (fun _ i0 _ => rows.length - (intOf i0).toNat)
      case atStart => exact ⟨[], none, 0, by simp, rfl, rfl, ⟨HR.out, GR.start, HK.out⟩⟩
      case round =>
        clear HR HK
        obtain ⟨gs, ga, gc, hi, rfl, rfl, hp⟩ := hrel
        obtain ⟨hR, hG, hK⟩ := hp.out
        have HR := Aside.mk hR
        have HG := Aside.mk hG
        have HK := Aside.mk hK
        clear hR hG hK hp
        obtain ⟨c0, c1, c2, c3, c4, c5⟩ := box6b (HBK.out HK.out)
        by_cases hlt : gs.length < rows.length
        · have HI := Aside.mk (List.getElem?_eq_getElem hlt)
          obtain ⟨g1, o1, e1, hx1, hx2, d1⟩ := rw_at HR.out hlt
          obtain ⟨⟨a, c, xs⟩, hrow⟩ : ∃ r, rows[gs.length] = r := ⟨_, rfl⟩
          rw [hrow] at HI d1
          clear hrow
          subst e1
          have hsm := HR.out.small _ _ HI.out
          simp only [KRow.val] at d1 hsm
          generalize hn : xs.length = n at *
          have HN := Aside.mk hn
          clear hn
          have HO := Aside.mk (show Own wr 0 3 1 (.slice a n c) n (f gs.length) from by have := HR.out.row _ _ HI.out; simp only [KRow.val, HN.out] at this; exact this)
          go_wp2_with (at_builtin; refine wpList_app2 _ rfl _ _ 61 61 rfl 0 3 (.int .i64 0) 1 8 Tryz.underlying61 intinfo8 rfl _ n (f gs.length) rfl (HO.out.alloc _) _ 1 [iM 1000 gs.length] rfl (src_one Tryz.underlying61 _ _ _ rfl rfl) (by unfold maxLen; omega) (by omega) (Nat.zero_le _) ?_)
          intro v2 w2 hA
          obtain ⟨a2, q2, rfl⟩ := hA.own.form
          have HA := Aside.mk hA
          clear hA c0 c1 c2 c3 c4 c5 d1
          go_wp2_with (at_builtin; refine wpList_app2 _ rfl _ _ 61 61 rfl 0 3 (.int .i64 0) 1 8 Tryz.underlying61 intinfo8 rfl _ (n + 1) (f gs.length ++ [iM 1000 gs.length]) rfl (HA.out.own.alloc _) _ 1 [iM 1001 gs.length] rfl (src_one Tryz.underlying61 _ _ _ rfl rfl) (by unfold maxLen; omega) (by omega) (Nat.zero_le _) ?_)
          intro v4 w4 hB
          obtain ⟨a4, q4, rfl⟩ := hB.own.form
          have HB := Aside.mk hB
          clear hB
          have HBS := Aside.mk (show w.heap.size ≤ w4.heap.size from by
            have s1 := HK.out.size
            have s2 : wr.heap.size ≤ w2.heap.size := by have := (Kept.of_grown HA.out.grown).size; simp at this; omega
            have s3 : w2.heap.size ≤ w4.heap.size := by have := (Kept.of_grown HB.out.grown).size; simp at this; omega
            omega)
          have HGV := Aside.mk (grow_gv HG.out HK.out.size (fun b e => HLT.out.1 b ⟨_, List.mem_of_getElem? HI.out, by simpa only [KRow.val, HN.out] using e⟩) (below_new wr _) HA.out (below_new w2 _) HB.out)
          go_wp2_with (at_builtin; refine wpList_app2 _ rfl _ _ 39 39 rfl w.heap.size 61 (.slice none 0 0) 1 24 Tryz.underlying39 intsinfo8 rfl _ gs.length gs rfl (HGV.out.alloc _) _ 1 [.slice a4 (n + 1 + 1) q4] rfl (src_one Tryz.underlying39 _ _ _ rfl rfl) (by unfold maxLen; omega) (by omega) (Nat.le_trans HBS.out (by simp)) ?_)
          intro v6 w6 hC
          obtain ⟨a6, q6, rfl⟩ := hC.own.form
          have HC := Aside.mk hC
          clear hC
          go_wp2_with fail
          have hstep := grow_step (r := ⟨a, c, xs⟩) HR.out HFULL.out HG.out HI.out HK.out.size HLT.out.1 HLT.out.2 (by decide) (below_new wr _) (by simp only [KRow.val, HN.out]; exact HA.out) (below_new w2 _) (by simp only [HN.out]; exact HB.out) (below_new w4 _) HC.out
          refine ⟨⟨gs ++ [.slice a4 (n + 1 + 1) q4], a6, q6, by simp; omega, by simp, by simp, ⟨hstep.1, by simpa using hstep.2.1, HK.out.trans hstep.2.2 (fun b e hb => e.elim id (fun h => by omega))⟩⟩, by simp [intOf]; omega⟩
        · obtain hge : gs.length = rows.length := by omega
          clear hi hlt
          obtain ⟨wg, hwg⟩ : ∃ x, x = wr := ⟨_, rfl⟩
          subst hwg
          go_wp2_with fail
          clear c0 c1 c2 c3 c4 c5
          go_loopw [8] (fun i0 wr2 => ∃ i : Nat, i ≤ rows.length ∧ i0 = .int .i64 (i : Int) ∧ Aside (Below wg.heap.size wg wr2)) (fun i0 _ => rows.length - (intOf i0).toNat)
          case atStart => exact ⟨0, by omega, rfl, ⟨Below.refl _ _⟩⟩
          case round =>
            obtain ⟨i, hi, rfl, hp⟩ := hrel
            have HR2 := Aside.mk (HR.out.below hp.out)
            have HG2 := Aside.mk (HG.out.below hp.out)
            have HK2 := Aside.mk (HK.out.trans (Kept.of_below (S := fun _ => False) hp.out) (fun _ h _ => h.elim))
            obtain ⟨c0, c1, c2, c3, c4, c5⟩ := box6b (HBK.out HK2.out)
            by_cases hlt : i < rows.length
            · have HI := Aside.mk (List.getElem?_eq_getElem hlt)
              obtain ⟨g1, o1, e1, hx1, hx2, d1⟩ := rw_at HR2.out hlt
              obtain ⟨⟨a, c, xs⟩, hrow⟩ : ∃ r, rows[i] = r := ⟨_, rfl⟩
              rw [hrow] at HI d1
              clear hrow
              subst e1
              have hsm := HR2.out.small _ _ HI.out
              simp only [KRow.val] at d1 hsm
              generalize hn : xs.length = n at *
              have HN := Aside.mk hn
              clear hn
              have hl2 : i < gs.length := by omega
              go_wp2_with fail
              clear c0 c1 c2 c3 c4 c5 d1 HR2 HG2 HK2
              go_loopw [10] (fun j0 wr2 => ∃ k : Nat, k ≤ n ∧ j0 = .int .i64 (k : Int) ∧ Aside (Below wg.heap.size wg wr2)) (fun j0 _ => n - (intOf j0).toNat)
              case atStart => exact ⟨0, by omega, rfl, hp⟩
              case round =>
                clear hp
                obtain ⟨k, hk, rfl, hp⟩ := hrel
                have HR2 := Aside.mk (HR.out.below hp.out)
                have HG2 := Aside.mk (HG.out.below hp.out)
                have HK2 := Aside.mk (HK.out.trans (Kept.of_below (S := fun _ => False) hp.out) (fun _ h _ => h.elim))
                obtain ⟨c0, c1, c2, c3, c4, c5⟩ := box6b (HBK.out HK2.out)
                obtain ⟨g1, o1, e1, _, _, d1⟩ := rw_at HR2.out hlt
                rw [(Option.some.inj ((List.getElem?_eq_getElem hlt).symm.trans HI.out))] at d1
                simp only [KRow.val, HN.out] at d1
                cases e1
                obtain ⟨g2, o2, g5, o5, c6, e2, hy1, hy2, d2, hy3, hy4, hm, hm0, hm1⟩ := gr_at HG2.out HI.out hl2
                subst e2
                have hx : ((i : Int) != (i : Int)) = false := by simp
                have hxx : (((i : Int) + 1000) != ((i : Int) + 1000)) = false := by simp
                have hxy : (((i : Int) + 1001) != ((i : Int) + 1001)) = false := by simp
                rw [HN.out] at hm hm0 hm1 d2 hy3
                by_cases hkl : k < n
                · obtain ⟨g, o, e3, hz1, hz2, d3⟩ := rw_mark HR2.out HFULL.out HI.out (show k < xs.length by have := HN.out; omega)
                  subst e3
                  rw [HN.out] at hz1
                  have d4 := hm k hkl
                  replace d3 : wr.cell? ⟨g, o + k, none⟩ = some (.int .i64 (i : Int)) := d3
                  replace d4 : wr.cell? ⟨g5, o5 + k, none⟩ = some (.int .i64 (i : Int)) := d4
                  clear hm hm0 hm1
                  go_wp2_with fail
                  exact ⟨⟨k + 1, by omega, by simp, ⟨by first | exact hp.out | exact below_chain hp.out (below_drewN _ _ _)⟩⟩, by simp [intOf]; omega⟩
                · obtain rfl : k = n := by omega
                  clear hm
                  replace hm0 : wr.cell? ⟨g5, o5 + k, none⟩ = some (.int .i64 ((i : Int) + 1000)) := hm0
                  replace hm1 : wr.cell? ⟨g5, o5 + (k + 1), none⟩ = some (.int .i64 ((i : Int) + 1001)) := hm1
                  go_wp2_with fail
                  exact ⟨⟨i + 1, by omega, by simp, ⟨by first | exact hp.out | exact below_chain hp.out (below_drewN _ _ _)⟩⟩, by simp [intOf]; omega⟩
            · obtain rfl : i = rows.length := by omega
              go_wp2_with fail
              go_ret
              exact ⟨rfl, HK2.out⟩
end Go.Proofs.YtmhjjhaipcgbiaaGreat


namespace Go.Proofs.YtmhjjhaipcgbiaaGreat
open Go.RowKit
set_option linter.unusedVariables false
set_option linter.unusedSimpArgs false
set_option maxRecDepth 100000
set_option maxHeartbeats 1000000
theorem ints_eq (xs : List Int) (A B : SL) (hl : xs.length ≤ 100000000) (w : World) (ha : Rd w 1 (.slice A.a xs.length A.c) xs.length (xs.map (.int .i64))) (hb : Rd w 1 (.slice B.a xs.length B.c) xs.length (xs.map (.int .i64))) :
    Calls Tryz.prog 156 #[.slice A.a xs.length A.c, .slice B.a xs.length B.c] w (BoolP true w) := by
  obtain ⟨aa, ac⟩ := A
  obtain ⟨ba, bc⟩ := B
  have HA := Aside.mk ha
  have HB := Aside.mk hb
  clear ha hb
  dsimp only at HA HB ⊢
  generalize hn : xs.length = n at *
  have HN := Aside.mk hn
  clear hn
  have hne : ((n : Int) != (n : Int)) = false := by simp
  go_enter Tryz.func156, Tryz.ntmps156
  go_wp2_with fail
  go_loopw [5] (fun iv wr => ∃ i : Nat, i ≤ n ∧ iv = .int .i64 (i : Int) ∧ Aside (Below w.heap.size w wr)) (fun iv _ => n - (intOf iv).toNat)
  case atStart => exact ⟨0, by omega, rfl, ⟨Below.refl _ _⟩⟩
  case round =>
    obtain ⟨i, hi, rfl, hp⟩ := hrel
    by_cases hlt : i < n
    · have hil : i < xs.length := by have := HN.out; omega
      obtain ⟨g1, o1, k1, e1, h1, h2, hc⟩ := (HA.out.below hp.out).some_ (by rw [List.length_map]; omega)
      simp only [Value.slice.injEq, true_and] at e1
      obtain ⟨rfl, rfl⟩ := e1
      obtain ⟨g2, o2, k2, e2, h3, h4, hd⟩ := (HB.out.below hp.out).some_ (by rw [List.length_map]; omega)
      simp only [Value.slice.injEq, true_and] at e2
      obtain ⟨rfl, rfl⟩ := e2
      have hc2 := hc i (.int .i64 xs[i]) (by rw [List.getElem?_map, List.getElem?_eq_getElem hil]; rfl)
      have hd2 := hd i (.int .i64 xs[i]) (by rw [List.getElem?_map, List.getElem?_eq_getElem hil]; rfl)
      clear hc hd
      generalize xs[i] = x at *
      have hx : (x != x) = false := by simp
      go_wp2_with fail
      try go_quiet (fail)
      go_wp2_with fail
      exact ⟨⟨i + 1, by omega, by simp, ⟨by first | exact hp.out.trans (below_drewN _ _ _) | exact hp.out⟩⟩, by simp [intOf]; omega⟩
    · obtain rfl : i = n := by omega
      go_wp2_with fail
      go_ret
      exact ⟨rfl, hp.out⟩
theorem same_same (xs : List Int) (A B : SL) (hx : IsBytes xs) (w : World) (ha : Rd w 1 (.slice A.a xs.length A.c) xs.length (xs.map (.int .u8))) (hb : Rd w 1 (.slice B.a xs.length B.c) xs.length (xs.map (.int .u8))) :
    Calls Tryz.prog 47 #[.slice A.a xs.length A.c, .slice B.a xs.length B.c] w (BoolP true w) := by
  refine (same_bytes xs xs A B hx hx w ha hb).mono ?_
  rintro e w' ⟨rfl, rfl⟩
  exact ⟨by rw [decide_eq_true rfl], Below.refl _ _⟩
theorem row_at {w : World} {E TE : TypeId} {K : IntKind} {a : Option Addr} {cp n : Nat} {rows : List KRow} (h : Own w 0 TE 1 (.slice a n cp) rows.length (rows.map KRow.val)) {i : Nat} (hi : i < rows.length) : ∃ g off, a = some ⟨g, off, none⟩ ∧ n = rows.length ∧ cp ≤ 9223372036854775807 ∧ n ≤ cp ∧ w.cell? ⟨g, off + i, none⟩ = some rows[i].val := by
  obtain ⟨g, off, cap, e, h1, h2, h3, h4, h5, _⟩ := h.some_ (by omega)
  simp only [Value.slice.injEq] at e
  obtain ⟨rfl, rfl, rfl⟩ := e
  exact ⟨g, off, rfl, rfl, h4, h3, h5 i _ (by rw [List.getElem?_map, List.getElem?_eq_getElem hi]; rfl)⟩
theorem said_at {w : World} {E TE : TypeId} {K : IntKind} {a : Option Addr} {cp : Nat} {rows : List KRow} {ss : List Value} (h : BS_ w E TE K (.slice a rows.length cp) rows ss) {i : Nat} (hi : i < rows.length) : ∃ g off ta tc, a = some ⟨g, off, none⟩ ∧ cp ≤ 9223372036854775807 ∧ rows.length ≤ cp ∧ w.cell? ⟨g, off + i, none⟩ = some (.slice ta rows[i].xs.length tc) ∧ Own w 0 E 1 (.slice ta rows[i].xs.length tc) rows[i].xs.length (rows[i].xs.map (.int K)) := by
  obtain ⟨ta, tc, q1, q2⟩ := h.said i _ (List.getElem?_eq_getElem hi)
  obtain ⟨g, off, cap, e, h1, h2, h3, h4, h5, _⟩ := h.rs.some_ (by omega)
  simp only [Value.slice.injEq, true_and] at e
  obtain ⟨rfl, rfl⟩ := e
  exact ⟨g, off, ta, tc, rfl, h4, h3, h5 i _ q1, q2⟩
theorem look_any (T : Nat → Prop) (bk : Nat) (rows irows : List KRow) (ss hs : List Value) (bv sv iv hv : Value) (w : World) (h : BKx w T bk rows irows ss hs bv sv iv hv) :
    Calls Tryz.prog 95 #[.pointer (some ⟨bk, 0, none⟩)] w (BoolP true w) := by
  obtain ⟨ba, bc, rfl⟩ := h.b.rv.form
  obtain ⟨sa, sc, rfl⟩ := h.bs.rs.form
  obtain ⟨ia, ic, rfl⟩ := h.i.rv.form
  obtain ⟨ha, hc, rfl⟩ := h.is.rs.form
  have hf1 := h.b.few
  have hf2 := h.i.few
  have H := Aside.mk h
  clear h
  have K0 : ∀ {wr : World}, Below w.heap.size w wr → BKx wr T bk rows irows ss hs (.slice ba rows.length bc) (.slice sa rows.length sc) (.slice ia irows.length ic) (.slice ha irows.length hc) := fun {wr} hb => H.out.kept (Kept.of_below (S := fun _ => False) hb) (fun _ _ _ e => e)
  have HK := Aside.mk @K0
  clear K0
  go_enter Tryz.func95, Tryz.ntmps95
  go_wp2_with fail
  go_loopw [3] (fun i0 wr => ∃ i : Nat, i ≤ rows.length ∧ i0 = .int .i64 (i : Int) ∧ Aside (Below w.heap.size w wr)) (fun i0 _ => rows.length - (intOf i0).toNat)
  case atStart => exact ⟨0, by omega, rfl, ⟨Below.refl _ _⟩⟩
  case round =>
    obtain ⟨i, hi, rfl, hp⟩ := hrel
    have HB := Aside.mk (HK.out hp.out)
    obtain ⟨c0, c1, c2, c3, c4, c5⟩ := box6b HB.out.blk
    by_cases hlt : i < rows.length
    · obtain ⟨g1, o1, e1, _, hx1, hx2, d1⟩ := row_at (E := 5) (K := .u8) HB.out.b.rv hlt
      obtain ⟨g2, o2, ta, tc, e2, hx3, hx4, d2, hd2⟩ := said_at HB.out.bs hlt
      rw [e1] at c0
      rw [e2] at c1
      have hrow := HB.out.b.row i _ (List.getElem?_eq_getElem hlt)
      have HS := Aside.mk (same_same rows[i].xs ⟨rows[i].a, rows[i].c⟩ ⟨ta, tc⟩ (HB.out.by_ _ (List.getElem_mem hlt)) wr.drew (hrow.rd.below (below_drewN wr _ 1)) (hd2.rd.below (below_drewN wr _ 1)))
      clear hrow hd2 e1 e2
      unfold KRow.val at d1
      dsimp only at HS
      generalize rows[i] = r at *
      obtain ⟨ra, rc, rx⟩ := r
      dsimp only at d1 d2 HS
      generalize rx.length = rn at *
      go_wp2_with fail
      go_region_law ((refine step_call (P := Tryz.prog) wr.drew (by rfl) 47 [.tmp 21, .tmp 28] _ (by rfl) [.slice ra rn rc, .slice ta rn tc] (by rfl) (fun _ _ => rfl) HS.out ?_; rintro e w5 ⟨rfl, hb5⟩; have HB5 := Aside.mk (below_chain (below_chain hp.out (below_drewN wr _ 1)) hb5); clear hb5; refine ⟨_, rfl, ?_⟩))
      all_goals
        go_wp2_with fail
        exact ⟨⟨i + 1, by omega, by simp, HB5⟩, by simp [intOf]; omega⟩
    · obtain rfl : i = rows.length := by omega
      clear HB
      go_wp2_with fail
      clear c0 c1 c2 c3 c4 c5
      go_loopw [4] (fun i0 wr2 => i0 = .int .i64 0 ∧ wr2 = wr) (fun _ _ => 0)
      case atStart => exact ⟨rfl, rfl⟩
      case round =>
        obtain ⟨rfl, rfl⟩ := hrel
        have HB := Aside.mk (HK.out hp.out)
        obtain ⟨c0, c1, c2, c3, c4, c5⟩ := box6b HB.out.blk
        go_wp2_with fail
        clear c0 c1 c2 c3 c4 c5
        go_loopw [5] (fun i0 wr => ∃ i : Nat, i ≤ irows.length ∧ i0 = .int .i64 (i : Int) ∧ Aside (Below w.heap.size w wr)) (fun i0 _ => irows.length - (intOf i0).toNat)
        case atStart => exact ⟨0, by omega, rfl, hp⟩
        case round =>
          clear hp HB
          obtain ⟨i, hi, rfl, hp⟩ := hrel
          have HB := Aside.mk (HK.out hp.out)
          obtain ⟨c0, c1, c2, c3, c4, c5⟩ := box6b HB.out.blk
          by_cases hlt : i < irows.length
          · obtain ⟨g1, o1, e1, _, hx1, hx2, d1⟩ := row_at (E := 3) (K := .i64) HB.out.i.rv hlt
            obtain ⟨g2, o2, ta, tc, e2, hx3, hx4, d2, hd2⟩ := said_at HB.out.is hlt
            rw [e1] at c4
            rw [e2] at c5
            have hrow := HB.out.i.row i _ (List.getElem?_eq_getElem hlt)
            have HS := Aside.mk (ints_eq irows[i].xs ⟨irows[i].a, irows[i].c⟩ ⟨ta, tc⟩ (HB.out.i.small _ (List.getElem_mem hlt)) wr.drew (hrow.rd.below (below_drewN wr _ 1)) (hd2.rd.below (below_drewN wr _ 1)))
            clear hrow hd2 e1 e2
            unfold KRow.val at d1
            dsimp only at HS
            generalize irows[i] = r at *
            obtain ⟨ra, rc, rx⟩ := r
            dsimp only at d1 d2 HS
            generalize rx.length = rn at *
            go_wp2_with fail
            go_region_law ((refine step_call (P := Tryz.prog) wr.drew (by rfl) 156 [.tmp 71, .tmp 78] _ (by rfl) [.slice ra rn rc, .slice ta rn tc] (by rfl) (fun _ _ => rfl) HS.out ?_; rintro e w5 ⟨rfl, hb5⟩; have HB5 := Aside.mk (below_chain (below_chain hp.out (below_drewN wr _ 1)) hb5); clear hb5; refine ⟨_, rfl, ?_⟩))
            all_goals
              go_wp2_with fail
              exact ⟨⟨i + 1, by omega, by simp, HB5⟩, by simp [intOf]; omega⟩
          · obtain rfl : i = irows.length := by omega
            go_wp2_with fail
            go_ret
            exact ⟨rfl, hp.out⟩
end Go.Proofs.YtmhjjhaipcgbiaaGreat
