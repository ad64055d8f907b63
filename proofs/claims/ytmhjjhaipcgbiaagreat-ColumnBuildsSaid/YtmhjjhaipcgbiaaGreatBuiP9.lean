/- Texts of this claim, one behind the other: Book2, Close, Cut50, Twins, Lend, Twin18, BackK, Builds0, Builds1, Kind, Kind2, Args, ArgVs, Builds2. -/
import Derived.Test.YtmhjjhaipcgbiaaGreatBuiP7
import Derived.Test.YtmhjjhaipcgbiaaGreatBuiP6
import Derived.Test.YtmhjjhaipcgbiaaGreatBuiP8
import Derived.Test.YtmhjjhaipcgbiaaGreatBuiP5
import Derived.Test.YtmhjjhaipcgbiaaGreatBuiP2
import Derived.Test.YtmhjjhaipcgbiaaGreatBuiP1
import Derived.ProofKit
import Derived.OpenShut
import Derived.ShutString
import Derived.ChangeOld
import Derived.Deep.Slices
import Derived.SizedLaws

/- (*mintagekeep.Book).Look. -/
namespace Go.Proofs.YtmhjjhaipcgbiaaGreat
open Go.RowKit
set_option linter.unusedVariables false
set_option linter.unusedSimpArgs false
set_option maxRecDepth 100000
set_option maxHeartbeats 1000000

/-- mintagekeep.Ints of equal rows. -/
theorem ints_eq (xs : List Int) (A B : SL) (hl : xs.length ≤ 100000000) (w : World) (ha : Rd w 1 (.slice A.a xs.length A.c) xs.length (xs.map (.int .i64))) (hb : Rd w 1 (.slice B.a xs.length B.c) xs.length (xs.map (.int .i64))) :
    Calls Tryz.prog 156 #[.slice A.a xs.length A.c, .slice B.a xs.length B.c] w (BoolP true w) := by
  obtain ⟨aa, ac⟩ := A
  obtain ⟨ba, bc⟩ := B
  have HA := Aside.mk ha
  have HB := Aside.mk hb
  clear ha hb
  dsimp only at HA HB ⊢
  generalize hn : xs.length = n at *
  have HN := Aside.mk hn
  clear hn
  have hne : ((n : Int) != (n : Int)) = false := by simp
  go_enter Tryz.func156, Tryz.ntmps156
  go_wp2_with fail
  go_loopw [5] (fun iv wr => ∃ i : Nat, i ≤ n ∧ iv = .int .i64 (i : Int) ∧ Aside (Below w.heap.size w wr)) (fun iv _ => n - (intOf iv).toNat)
  case atStart => exact ⟨0, by omega, rfl, ⟨Below.refl _ _⟩⟩
  case round =>
    obtain ⟨i, hi, rfl, hp⟩ := hrel
    by_cases hlt : i < n
    · have hil : i < xs.length := by have := HN.out; omega
      obtain ⟨g1, o1, k1, e1, h1, h2, hc⟩ := (HA.out.below hp.out).some_ (by rw [List.length_map]; omega)
      simp only [Value.slice.injEq, true_and] at e1
      obtain ⟨rfl, rfl⟩ := e1
      obtain ⟨g2, o2, k2, e2, h3, h4, hd⟩ := (HB.out.below hp.out).some_ (by rw [List.length_map]; omega)
      simp only [Value.slice.injEq, true_and] at e2
      obtain ⟨rfl, rfl⟩ := e2
      have hc2 := hc i (.int .i64 xs[i]) (by rw [List.getElem?_map, List.getElem?_eq_getElem hil]; rfl)
      have hd2 := hd i (.int .i64 xs[i]) (by rw [List.getElem?_map, List.getElem?_eq_getElem hil]; rfl)
      clear hc hd
      generalize xs[i] = x at *
      have hx : (x != x) = false := by simp
      go_wp2_with fail
      try go_quiet (fail)
      go_wp2_with fail
      exact ⟨⟨i + 1, by omega, by simp, ⟨by first | exact hp.out.trans (below_drewN _ _ _) | exact hp.out⟩⟩, by simp [intOf]; omega⟩
    · obtain rfl : i = n := by omega
      go_wp2_with fail
      go_ret
      exact ⟨rfl, hp.out⟩

theorem same_same (xs : List Int) (A B : SL) (hx : IsBytes xs) (w : World) (ha : Rd w 1 (.slice A.a xs.length A.c) xs.length (xs.map (.int .u8))) (hb : Rd w 1 (.slice B.a xs.length B.c) xs.length (xs.map (.int .u8))) :
    Calls Tryz.prog 47 #[.slice A.a xs.length A.c, .slice B.a xs.length B.c] w (BoolP true w) := by
  refine (same_bytes xs xs A B hx hx w ha hb).mono ?_
  rintro e w' ⟨rfl, rfl⟩
  exact ⟨by rw [decide_eq_true rfl], Below.refl _ _⟩

theorem row_at {w : World} {E TE : TypeId} {K : IntKind} {a : Option Addr} {cp n : Nat} {rows : List KRow} (h : Own w 0 TE 1 (.slice a n cp) rows.length (rows.map KRow.val)) {i : Nat} (hi : i < rows.length) : ∃ g off, a = some ⟨g, off, none⟩ ∧ n = rows.length ∧ cp ≤ 9223372036854775807 ∧ n ≤ cp ∧ w.cell? ⟨g, off + i, none⟩ = some rows[i].val := by
  obtain ⟨g, off, cap, e, h1, h2, h3, h4, h5, _⟩ := h.some_ (by omega)
  simp only [Value.slice.injEq] at e
  obtain ⟨rfl, rfl, rfl⟩ := e
  exact ⟨g, off, rfl, rfl, h4, h3, h5 i _ (by rw [List.getElem?_map, List.getElem?_eq_getElem hi]; rfl)⟩
theorem said_at {w : World} {E TE : TypeId} {K : IntKind} {a : Option Addr} {cp : Nat} {rows : List KRow} {ss : List Value} (h : BS_ w E TE K (.slice a rows.length cp) rows ss) {i : Nat} (hi : i < rows.length) : ∃ g off ta tc, a = some ⟨g, off, none⟩ ∧ cp ≤ 9223372036854775807 ∧ rows.length ≤ cp ∧ w.cell? ⟨g, off + i, none⟩ = some (.slice ta rows[i].xs.length tc) ∧ Own w 0 E 1 (.slice ta rows[i].xs.length tc) rows[i].xs.length (rows[i].xs.map (.int K)) := by
  obtain ⟨ta, tc, q1, q2⟩ := h.said i _ (List.getElem?_eq_getElem hi)
  obtain ⟨g, off, cap, e, h1, h2, h3, h4, h5, _⟩ := h.rs.some_ (by omega)
  simp only [Value.slice.injEq, true_and] at e
  obtain ⟨rfl, rfl⟩ := e
  exact ⟨g, off, ta, tc, rfl, h4, h3, h5 i _ q1, q2⟩

theorem look_any (T : Nat → Prop) (bk : Nat) (rows irows : List KRow) (ss hs : List Value) (bv sv iv hv : Value) (w : World) (h : BKx w T bk rows irows ss hs bv sv iv hv) :
    Calls Tryz.prog 95 #[.pointer (some ⟨bk, 0, none⟩)] w (BoolP true w) := by
  obtain ⟨ba, bc, rfl⟩ := h.b.rv.form
  obtain ⟨sa, sc, rfl⟩ := h.bs.rs.form
  obtain ⟨ia, ic, rfl⟩ := h.i.rv.form
  obtain ⟨ha, hc, rfl⟩ := h.is.rs.form
  have hf1 := h.b.few
  have hf2 := h.i.few
  have H := Aside.mk h
  clear h
  have K0 : ∀ {wr : World}, Below w.heap.size w wr → BKx wr T bk rows irows ss hs (.slice ba rows.length bc) (.slice sa rows.length sc) (.slice ia irows.length ic) (.slice ha irows.length hc) := fun {wr} hb => H.out.kept (Kept.of_below (S := fun _ => False) hb) (fun _ _ _ e => e)
  have HK := Aside.mk @K0
  clear K0
  go_enter Tryz.func95, Tryz.ntmps95
  go_wp2_with fail
  go_loopw [3] (fun i0 wr => ∃ i : Nat, i ≤ rows.length ∧ i0 = .int .i64 (i : Int) ∧ Aside (Below w.heap.size w wr)) (fun i0 _ => rows.length - (intOf i0).toNat)
  case atStart => exact ⟨0, by omega, rfl, ⟨Below.refl _ _⟩⟩
  case round =>
    obtain ⟨i, hi, rfl, hp⟩ := hrel
    have HB := Aside.mk (HK.out hp.out)
    obtain ⟨c0, c1, c2, c3, c4, c5⟩ := box6b HB.out.blk
    by_cases hlt : i < rows.length
    · obtain ⟨g1, o1, e1, _, hx1, hx2, d1⟩ := row_at (E := 5) (K := .u8) HB.out.b.rv hlt
      obtain ⟨g2, o2, ta, tc, e2, hx3, hx4, d2, hd2⟩ := said_at HB.out.bs hlt
      rw [e1] at c0
      rw [e2] at c1
      have hrow := HB.out.b.row i _ (List.getElem?_eq_getElem hlt)
      have HS := Aside.mk (same_same rows[i].xs ⟨rows[i].a, rows[i].c⟩ ⟨ta, tc⟩ (HB.out.by_ _ (List.getElem_mem hlt)) wr.drew (hrow.rd.below (below_drewN wr _ 1)) (hd2.rd.below (below_drewN wr _ 1)))
      clear hrow hd2 e1 e2
      unfold KRow.val at d1
      dsimp only at HS
      generalize rows[i] = r at *
      obtain ⟨ra, rc, rx⟩ := r
      dsimp only at d1 d2 HS
      generalize rx.length = rn at *
      go_wp2_with fail
      go_region_law ((refine step_call (P := Tryz.prog) wr.drew (by rfl) 47 [.tmp 21, .tmp 28] _ (by rfl) [.slice ra rn rc, .slice ta rn tc] (by rfl) (fun _ _ => rfl) HS.out ?_; rintro e w5 ⟨rfl, hb5⟩; have HB5 := Aside.mk (below_chain (below_chain hp.out (below_drewN wr _ 1)) hb5); clear hb5; refine ⟨_, rfl, ?_⟩))
      all_goals
        go_wp2_with fail
        exact ⟨⟨i + 1, by omega, by simp, HB5⟩, by simp [intOf]; omega⟩
    · obtain rfl : i = rows.length := by omega
      clear HB
      go_wp2_with fail
      clear c0 c1 c2 c3 c4 c5
      go_loopw [4] (fun i0 wr2 => i0 = .int .i64 0 ∧ wr2 = wr) (fun _ _ => 0)
      case atStart => exact ⟨rfl, rfl⟩
      case round =>
        obtain ⟨rfl, rfl⟩ := hrel
        have HB := Aside.mk (HK.out hp.out)
        obtain ⟨c0, c1, c2, c3, c4, c5⟩ := box6b HB.out.blk
        go_wp2_with fail
        clear c0 c1 c2 c3 c4 c5
        go_loopw [5] (fun i0 wr => ∃ i : Nat, i ≤ irows.length ∧ i0 = .int .i64 (i : Int) ∧ Aside (Below w.heap.size w wr)) (fun i0 _ => irows.length - (intOf i0).toNat)
        case atStart => exact ⟨0, by omega, rfl, hp⟩
        case round =>
          clear hp HB
          obtain ⟨i, hi, rfl, hp⟩ := hrel
          have HB := Aside.mk (HK.out hp.out)
          obtain ⟨c0, c1, c2, c3, c4, c5⟩ := box6b HB.out.blk
          by_cases hlt : i < irows.length
          · obtain ⟨g1, o1, e1, _, hx1, hx2, d1⟩ := row_at (E := 3) (K := .i64) HB.out.i.rv hlt
            obtain ⟨g2, o2, ta, tc, e2, hx3, hx4, d2, hd2⟩ := said_at HB.out.is hlt
            rw [e1] at c4
            rw [e2] at c5
            have hrow := HB.out.i.row i _ (List.getElem?_eq_getElem hlt)
            have HS := Aside.mk (ints_eq irows[i].xs ⟨irows[i].a, irows[i].c⟩ ⟨ta, tc⟩ (HB.out.i.small _ (List.getElem_mem hlt)) wr.drew (hrow.rd.below (below_drewN wr _ 1)) (hd2.rd.below (below_drewN wr _ 1)))
            clear hrow hd2 e1 e2
            unfold KRow.val at d1
            dsimp only at HS
            generalize irows[i] = r at *
            obtain ⟨ra, rc, rx⟩ := r
            dsimp only at d1 d2 HS
            generalize rx.length = rn at *
            go_wp2_with fail
            go_region_law ((refine step_call (P := Tryz.prog) wr.drew (by rfl) 156 [.tmp 71, .tmp 78] _ (by rfl) [.slice ra rn rc, .slice ta rn tc] (by rfl) (fun _ _ => rfl) HS.out ?_; rintro e w5 ⟨rfl, hb5⟩; have HB5 := Aside.mk (below_chain (below_chain hp.out (below_drewN wr _ 1)) hb5); clear hb5; refine ⟨_, rfl, ?_⟩))
            all_goals
              go_wp2_with fail
              exact ⟨⟨i + 1, by omega, by simp, HB5⟩, by simp [intOf]; omega⟩
          · obtain rfl : i = irows.length := by omega
            go_wp2_with fail
            go_ret
            exact ⟨rfl, hp.out⟩
end Go.Proofs.YtmhjjhaipcgbiaaGreat


/- (*mintagekeep.Book).Close. -/
namespace Go.Proofs.YtmhjjhaipcgbiaaGreat
open Go.RowKit
set_option linter.unusedVariables false
set_option linter.unusedSimpArgs false
set_option maxRecDepth 100000
set_option maxHeartbeats 1000000

theorem close_words (bk : Nat) (bv sv iv hv : Value) (w : World) (hblk : w.heap[bk]? = some (.cells #[bv, sv, .slice none 0 0, .slice none 0 0, iv, hv] 41 (0, 0))) :
    Calls Tryz.prog 97 #[.pointer (some ⟨bk, 0, none⟩)] w (fun e w' => e = .returned (.bool true) ∧ w' = w) := by
  have HB := Aside.mk hblk
  clear hblk
  go_enter Tryz.func97, Tryz.ntmps97
  go_wp2_with fail
  go_loopw [3] (fun i0 wr => i0 = .int .i64 0 ∧ wr = w) (fun _ _ => 0)
  case atStart => exact ⟨rfl, rfl⟩
  case round =>
    obtain ⟨rfl, rfl⟩ := hrel
    obtain ⟨c0, c1, c2, c3, c4, c5⟩ := box6b HB.out
    go_wp2_with fail
    go_loopw [5, 6] (fun g0 i0 wr2 => g0 = .slice none 0 0 ∧ i0 = .int .i64 0 ∧ wr2 = wr) (fun _ _ _ => 0)
    case atStart => exact ⟨rfl, rfl, rfl⟩
    case round =>
      obtain ⟨rfl, rfl, rfl⟩ := hrel
      go_wp2_with fail
      go_loopw [8] (fun i0 wr2 => i0 = .int .i64 0 ∧ wr2 = wr) (fun _ _ => 0)
      case atStart => exact ⟨rfl, rfl⟩
      case round =>
        obtain ⟨rfl, rfl⟩ := hrel
        go_wp2_with fail
        go_ret
        exact ⟨rfl, rfl⟩

theorem rows_ne {w : World} {E TE : TypeId} {K : IntKind} {v : Value} {rows : List KRow} (h : BR w E TE K v rows) {b : Nat} (hb : RowsB rows b) : ∃ cur, w.heap[b]? = some (.cells cur E (0, 0)) := by
  obtain ⟨r, hr, e⟩ := hb
  obtain ⟨m, hm, rfl⟩ := List.mem_iff_getElem.1 hr
  exact own_blk (h.row m _ (List.getElem?_eq_getElem hm)) e

theorem book_at {w w1 w2 : World} {T : Nat → Prop} {bk : Nat} {rows irows : List KRow} {ss hs : List Value} {bv sv iv hv : Value} (H : BKx w T bk rows irows ss hs bv sv iv hv) (hb : Below w.heap.size w w1) (hk : Kept (RowsB rows) w1 w2) :
    w2.heap[bk]? = some (.cells #[bv, sv, .slice none 0 0, .slice none 0 0, iv, hv] 41 (0, 0)) ∧ BR w2 3 61 .i64 iv irows ∧ Kept T w w2 := by
  have hr : ∀ b, RowsB rows b → ∃ cur, w1.heap[b]? = some (.cells cur 5 (0, 0)) := fun b h => by
    obtain ⟨cur, q⟩ := rows_ne H.b h
    exact ⟨cur, (hb.block b (lt_of_blk q)).trans q⟩
  have h1 := (hb.block _ (lt_of_blk H.blk)).trans H.blk
  refine ⟨(hk.block _ (lt_of_blk h1) (fun e => ?_)).trans h1, (H.i.kept (Kept.of_below (S := fun _ => False) hb) (fun _ _ e => e) (fun _ _ _ _ e => e)).keptT hk (fun b e _ cs q => ?_) (fun b e _ cs q => ?_), (Kept.of_below (S := T) hb).trans hk (fun b e _ => ?_)⟩
  · obtain ⟨cur, q⟩ := hr _ e
    exact blk_ne h1 q (by decide) rfl
  · obtain ⟨cur, q2⟩ := hr _ e
    exact blk_ne q q2 (by decide) rfl
  · obtain ⟨cur, q2⟩ := hr _ e
    exact blk_ne q q2 (by decide) rfl
  · obtain ⟨r, hr, e⟩ := e
    exact H.bt.trow r hr b e
theorem book_close (T : Nat → Prop) (bk : Nat) (w : World) (h : BK w T bk) : Calls Tryz.prog 36 #[.pointer (some ⟨bk, 0, none⟩)] w (fun e w' => e = .returned (.bool true) ∧ Kept T w w') := by
  obtain ⟨rows, irows, ss, hs, bv, sv, iv, hv, h⟩ := h
  have H := Aside.mk h
  clear h
  go_enter Tryz.func36, Tryz.ntmps36
  go_wp2_with (first
    | (go_at_call 95; refine (look_any T bk rows irows ss hs bv sv iv hv _ H.out).mono ?_; rintro e w1 ⟨rfl, hb1⟩; have HB1 := Aside.mk hb1; clear hb1)
    | (go_at_call 96; refine (close_bytes bk rows bv sv iv hv w1 ((HB1.out.block _ (lt_of_blk H.out.blk)).trans H.out.blk) (H.out.b.kept (Kept.of_below (S := fun _ => False) HB1.out) (fun _ _ e => e) (fun _ _ _ _ e => e))).mono ?_; rintro e w2 ⟨rfl, hk2⟩; have HB2 := Aside.mk (book_at H.out HB1.out hk2); clear hk2)
    | (go_at_call 97; refine (close_words bk bv sv iv hv w2 HB2.out.1).mono ?_; rintro e w3 ⟨rfl, rfl⟩)
    | (go_at_call 98; refine (close_ints bk irows bv sv iv hv _ HB2.out.1 HB2.out.2.1).mono ?_; rintro e w4 ⟨rfl, hk4⟩; have HK4 := Aside.mk (HB2.out.2.2.trans hk4 (fun b ⟨r, hr, e⟩ _ => H.out.it.trow r hr b e)); clear hk4))
  go_ret
  exact ⟨rfl, HK4.out⟩
end Go.Proofs.YtmhjjhaipcgbiaaGreat


/- mintagekeep.Cut with 50; mintagekeep.Twins. -/
namespace Go.Proofs.YtmhjjhaipcgbiaaGreat
open Go.RowKit
set_option linter.unusedVariables false
set_option linter.unusedSimpArgs false
set_option maxRecDepth 100000
set_option maxHeartbeats 1000000

theorem cut50_bytes (xs : List Int) (A : SL) (hl : xs.length ≤ 9223372036854775807) (w : World) (h : Rd w 1 (.slice A.a xs.length A.c) xs.length (xs.map (.int .u8))) :
    Calls Tryz.prog 20 #[.slice A.a xs.length A.c, .int .i64 50] w fun e w' => ∃ a c, e = .returned (.slice a (xs.take 50).length c) ∧ Rd w 1 (.slice a (xs.take 50).length c) (xs.take 50).length ((xs.take 50).map (.int .u8)) ∧ w = w' := by
  by_cases h50 : 50 < xs.length
  · obtain ⟨g, off, cap, e, h1, h2, hc⟩ := h.some_ (by rw [List.length_map]; omega)
    obtain ⟨aa, ac⟩ := A
    simp only [Value.slice.injEq, true_and] at e
    obtain ⟨rfl, rfl⟩ := e
    have HT := Aside.mk (rd_cut (i := 0) (j := 50) h (by omega) (by omega))
    have hlen : (xs.take 50).length = 50 := by rw [List.length_take]; omega
    rw [hlen]
    clear h hc hlen
    generalize hn : xs.length = n at *
    have HN := Aside.mk hn
    clear hn
    go_enter Tryz.func20, Tryz.ntmps20
    go_wp2
    go_ret
    refine ⟨_, _, rfl, ?_, rfl⟩
    have := HT.out
    simpa [List.map_take] using this
  · have e : xs.take 50 = xs := List.take_of_length_le (by omega)
    have HR := Aside.mk h
    rw [e]
    clear h e
    generalize hn : xs.length = n at *
    clear hn
    go_enter Tryz.func20, Tryz.ntmps20
    go_wp2
    go_ret
    exact ⟨_, _, rfl, HR.out, rfl⟩

end Go.Proofs.YtmhjjhaipcgbiaaGreat


/- mintagekeep.Twins. -/
namespace Go.Proofs.YtmhjjhaipcgbiaaGreat
open Go.RowKit
set_option linter.unusedVariables false
set_option linter.unusedSimpArgs false
set_option maxRecDepth 100000
set_option maxHeartbeats 1000000

theorem bytesinfo7 : (Tryz.prog.info? 43).map (fun i => (i.zero, i.size, i.bytes)) = some (some (.slice none 0 0), 1, 24) := by kernel_rfl
/-- i twins are laid. -/
structure TwI (w wr : World) (ws : List (List Int)) (i : Nat) (v : Value) (vals : List Value) : Prop where
  out : Own wr w.heap.size 43 1 v i vals
  own : WOwn wr w.heap.size i vals ws
  sep : WSep i vals
  below : Below w.heap.size w wr
theorem twins_step {w wr w3 w5 : World} {ws : List (List Int)} {i : Nat} {v v' : Value} {vals : List Value} {t : List Int} {ta : Option Addr} {tc : Nat} (h : TwI w wr ws i v vals) (hi : ws[i]? = some t) (ho : Own w3 wr.heap.size 5 1 (.slice ta t.length tc) t.length (t.map (.int .u8))) (hb : Below wr.heap.size wr w3)
    (hA : AppP (w3.alloc (.cells #[.slice ta t.length tc] 43)) w.heap.size 43 1 v i vals 1 [.slice ta t.length tc] v' w5) : TwI w w5 ws (i + 1) v' (vals ++ [.slice ta t.length tc]) := by
  have hl : vals.length = i := by have := h.out.1; omega
  have hs : w.heap.size ≤ wr.heap.size := h.below.size
  have hs3 : wr.heap.size ≤ w3.heap.size := hb.size
  have hov := h.out.below hb
  have K : Kept (fun b => v.ownBlock = some b) w3 w5 := (Kept.of_below (below_new w3 _)).trans ((Kept.of_grown hA.grown).mono (fun b e _ => e.symm)) (fun _ e _ => e)
  have keep : ∀ {a : Value} {n b0 : Nat} {xs : List Value}, Own w3 b0 5 1 a n xs → Own w5 b0 5 1 a n xs := fun h2 => h2.kept K (fun b e e2 => own_blk h2 e |>.elim (fun cur q => hov.blk_ne q (by decide) e2))
  refine ⟨hA.own, fun j u hj hu => ?_, fun j j' x x' h1 h2 hx hx' b e e2 => ?_, ?_⟩
  · by_cases e : j < i
    · obtain ⟨a, cap, q1, q2⟩ := h.own j u e hu
      exact ⟨a, cap, by rw [List.getElem?_append_left (by omega)]; exact q1, keep (q2.below hb)⟩
    · obtain rfl : j = i := by omega
      rw [hi] at hu; cases hu
      exact ⟨ta, tc, by rw [← hl, List.getElem?_append_right (Nat.le_refl _)]; simp, (keep ho).mono hs⟩
  · by_cases e3 : j' < i
    · rw [List.getElem?_append_left (by omega)] at hx hx'
      exact h.sep j j' x x' h1 e3 hx hx' b e e2
    · obtain rfl : j' = i := by omega
      rw [List.getElem?_append_left (by omega)] at hx
      rw [← hl, List.getElem?_append_right (Nat.le_refl _)] at hx'
      simp at hx'
      subst hx'
      have hjl : j < ws.length := by have := (List.getElem?_eq_some_iff.1 hi).1; omega
      obtain ⟨a, cap, q1, q2⟩ := h.own j _ h1 (List.getElem?_eq_getElem hjl)
      rw [q1] at hx; cases hx
      have := (q2.lt b e).2
      have := (ho.lt b e2).1
      omega
  · refine (h.below.trans (hb.mono hs)).trans (((below_new w3 _).mono (by omega)).trans (below_of_grown (B := w.heap.size) hA.grown (by simp; omega) (fun k e => (h.out.lt k e).1)))

theorem twins_any (ws : List (List Int)) (vals0 : List Value) (X : SL) (hl : ws.length ≤ 100000000) (hsm : ∀ t ∈ ws, t.length ≤ 100000000) (w : World) (h : Rd w 1 (.slice X.a ws.length X.c) ws.length vals0) (he : RdWs w vals0 ws) :
    Calls Tryz.prog 81 #[.slice X.a ws.length X.c] w (WordsP ws w) := by
  obtain ⟨xa, xc⟩ := X
  have HR := Aside.mk h
  have HE := Aside.mk he
  have hl0 : vals0.length = ws.length := he.1
  clear h he
  dsimp only at HR ⊢
  generalize hn : ws.length = n at *
  have HN := Aside.mk hn
  have HL0 := Aside.mk hl0
  clear hn hl0
  go_enter Tryz.func81, Tryz.ntmps81
  go_wp2_with fail
  go_loopw [3, 4] (fun ov i0 wr => ∃ (i : Nat) (oa : Option Addr) (oc : Nat), i ≤ n ∧ ov = .slice oa i oc ∧ i0 = .int .i64 (i : Int) ∧ Aside (∃ vals, TwI w wr ws i (.slice oa i oc) vals)) (fun _ i0 _ => n - (intOf i0).toNat)
  case atStart => exact ⟨0, none, 0, by omega, rfl, rfl, ⟨[], Own.nil _ _ _ _, fun j t h => by omega, fun j j' _ _ h h2 => by omega, Below.refl _ _⟩⟩
  case round =>
    obtain ⟨i, oa, oc, hi, rfl, rfl, hp⟩ := hrel
    obtain ⟨vals, HT⟩ := hp.out
    have HT := Aside.mk HT
    clear hp
    by_cases hlt : i < n
    · obtain ⟨t, ht⟩ : ∃ t, ws[i]? = some t := ⟨_, List.getElem?_eq_getElem (by have := HN.out; omega)⟩
      obtain ⟨g, o, cp, e1, hx1, hx2, hc⟩ := (HR.out.below HT.out.below).some_ (by have := HL0.out; omega)
      simp only [Value.slice.injEq, true_and] at e1
      obtain ⟨rfl, rfl⟩ := e1
      obtain ⟨a, cap, q1, q2⟩ := (HE.out.below HT.out.below).2 i t ht
      have d1 := hc i _ q1
      have hts := hsm t (List.mem_of_getElem? ht)
      have HTW := Aside.mk (twin_bytes t ⟨a, cap⟩ hts wr q2)
      have HTT := Aside.mk ht
      clear hc q1 q2 ht
      dsimp only at HTW
      go_wp2_with (first
        | (go_at_call 80; refine HTW.out.mono ?_; rintro e w3 ⟨ta, tc, rfl, ho, hb3⟩; have HO := Aside.mk ho; have HB3 := Aside.mk hb3; clear ho hb3)
        | (at_builtin; refine wpList_app2 _ rfl _ _ 37 37 rfl w.heap.size 43 (.slice none 0 0) 1 24 Tryz.underlying37 bytesinfo7 rfl _ i vals rfl ((HT.out.out.below HB3.out).alloc _) _ 1 [.slice ta t.length tc] rfl (src_one Tryz.underlying37 _ _ _ rfl rfl) (by unfold maxLen; omega) (by omega) (Nat.le_trans HT.out.below.size (Nat.le_trans HB3.out.size (by simp))) ?_))
      intro v5 w5 hA
      obtain ⟨a5, c5, rfl⟩ := hA.own.form
      have H5 := Aside.mk (twins_step HT.out HTT.out HO.out HB3.out hA)
      clear hA
      go_wp2_with fail
      exact ⟨⟨i + 1, a5, c5, by omega, rfl, by simp, ⟨_, H5.out⟩⟩, by simp [intOf]; omega⟩
    · obtain rfl : i = n := by omega
      go_wp2_with fail
      go_ret
      have h := HT.out
      have := HN.out
      subst this
      exact ⟨_, _, vals, rfl, h.out, by have := h.out.1; omega, h.own, h.below, h.sep⟩
end Go.Proofs.YtmhjjhaipcgbiaaGreat


/- mintagekeep.Lend, mintagekeep.Back. -/
namespace Go.Proofs.YtmhjjhaipcgbiaaGreat
open Go.RowKit
set_option linter.unusedVariables false
set_option linter.unusedSimpArgs false
set_option maxRecDepth 100000
set_option maxHeartbeats 1000000

theorem own_fresh (w : World) (cur : Array Value) (E : TypeId) (c : Nat) (h : c ≤ cur.size) (hm : c ≤ maxLen) : Own (w.alloc (.cells cur E)) w.heap.size E 1 (.slice (some ⟨w.heap.size, 0, none⟩) 0 c) 0 [] :=
  ⟨rfl, .inr ⟨w.heap.size, 0, c, cur, rfl, Nat.le_refl _, heap_alloc_new w _, Nat.zero_le _, hm, by omega, fun j hj => by omega⟩⟩
theorem src_two (w : World) (x0 x1 : Value) (h0 : x0.oneCell' = true) (h1 : x1.oneCell' = true) : Src Tryz.prog 1 43 (.slice (some ⟨w.heap.size, 0, none⟩) 2 2) 2 [x0, x1] (w.alloc (.cells #[x0, x1] 5)) := by
  refine Src.ofSlice _ Tryz.underlying43 _ 2 2 [x0, x1] rfl (fun j u hu => ?_) (by simp [h0, h1])
  rw [addr_add, cell_blk (heap_alloc_new w _)]
  match j, hu with
  | 0, hu => cases hu; rfl
  | 1, hu => cases hu; rfl
theorem byteinfo9 : (Tryz.prog.info? 5).map (fun i => (i.zero, i.size, i.bytes)) = some (some (.int .u8 0), 1, 1) := by kernel_rfl

def LendP (xs : List Int) (w : World) (e : Ending) (w' : World) : Prop := ∃ a c, e = .returned (.slice a xs.length c) ∧ xs.length + 2 ≤ c ∧ Own w' w.heap.size 5 1 (.slice a (xs.length + 2) c) (xs.length + 2) (xs.map (.int .u8) ++ [.int .u8 165, .int .u8 90]) ∧ Below w.heap.size w w'
theorem lend_bytes (xs : List Int) (A : SL) (hl : xs.length ≤ 100000000) (w : World) (h : Rd w 1 (.slice A.a xs.length A.c) xs.length (xs.map (.int .u8))) :
    Calls Tryz.prog 19 #[.slice A.a xs.length A.c] w (LendP xs w) := by
  obtain ⟨aa, ac⟩ := A
  have HR := Aside.mk h
  clear h
  dsimp only at HR ⊢
  unfold LendP
  generalize hn : xs.length = n at *
  have HN := Aside.mk hn
  clear hn
  obtain ⟨m, hm⟩ : ∃ m : Nat, m = n + 2 := ⟨_, rfl⟩
  have hcast : (n : Int) + 2 = (m : Int) := by omega
  have HM := Aside.mk hm
  have hm2 : m ≤ 100000002 := by omega
  clear hm
  obtain ⟨i0, hi, hz0, hz1, hz2⟩ := info_parts byteinfo9
  obtain ⟨M, hM⟩ : ∃ M, M = madeCells (Value.int .u8 0).cells ((m : Int).toNat * i0.size) := ⟨_, rfl⟩
  have hMs : M.size = m := by rw [hM, size_madeCells, hz1]; simp [Value.cells]
  have hmk : ∀ W : World, (Instr.makeSlice 43 (.int .i64 0) (.int .i64 (m : Int))).run Tryz.prog W = .ok (.slice (some ⟨W.heap.size, 0, none⟩) 0 m) (W.alloc (.cells M 5)) := fun W => by
    have h := run_make (P := Tryz.prog) W 43 5 i0 (.int .u8 0) Tryz.underlying43 hi hz0 .i64 .i64 0 (m : Int) (by omega) (by omega) (by rw [hz2]; omega) (by omega)
    rw [← hM] at h
    simpa using h
  clear hM hi hz0 hz1 hz2
  have HO := Aside.mk (own_fresh w M 5 m (by omega) (by unfold maxLen; omega))
  have HB := Aside.mk (below_new w (.cells M 5))
  go_enter Tryz.func19, Tryz.ntmps19
  go_wp2_with (at_builtin; refine wpList_app2 _ rfl _ _ 43 43 rfl w.heap.size 5 (.int .u8 0) 1 1 Tryz.underlying43 byteinfo9 rfl _ 0 [] rfl HO.out _ n (xs.map (.int .u8)) rfl ((HR.out.below HB.out).src (tx := 43) (P := Tryz.prog) Tryz.underlying43 (one_map (fun x : Int => Value.int .u8 x) (fun _ => rfl) xs)) (by unfold maxLen; omega) (by omega) (by simp) ?_)
  intro v2 w2 hA
  obtain ⟨a2, c2, e2⟩ := hA.own.form
  rw [Nat.zero_add] at e2
  subst e2
  have HA := Aside.mk (show Own w2 w.heap.size 5 1 (.slice a2 n c2) n (xs.map (.int .u8)) from by have h := hA.own; rw [Nat.zero_add] at h; simpa using h)
  have HB2 := Aside.mk (HB.out.trans (below_of_grown (B := w.heap.size) hA.grown (by simp) (fun k e => by cases e; exact Nat.le_refl _)))
  clear hA
  have HS2 := Aside.mk (src_two w2 (.int .u8 165) (.int .u8 90) rfl rfl)
  go_wp2_with (at_builtin; refine wpList_app2 _ rfl _ _ 43 43 rfl w.heap.size 5 (.int .u8 0) 1 1 Tryz.underlying43 byteinfo9 rfl _ n (xs.map (.int .u8)) rfl (HA.out.alloc _) _ 2 [.int .u8 165, .int .u8 90] rfl HS2.out (by unfold maxLen; omega) (by omega) (Nat.le_trans HB2.out.size (by simp)) ?_)
  intro v4 w4 hA
  obtain ⟨a4, c4, rfl⟩ := hA.own.form
  have HA4 := Aside.mk hA.own
  have HB4 := Aside.mk (HB2.out.trans ((below_new w2 _).mono HB2.out.size |>.trans (below_of_grown (B := w.heap.size) hA.grown (Nat.le_trans HB2.out.size (by simp)) (fun k e => (HA.out.lt k e).1))))
  obtain ⟨g, o, cp, e4, _, _, hx1, hx2, _⟩ := hA.own.some_ (by omega)
  simp only [Value.slice.injEq, true_and] at e4
  obtain ⟨rfl, rfl⟩ := e4
  clear hA
  go_wp2_with fail
  go_ret
  exact ⟨_, _, rfl, hx1, HA4.out, HB4.out⟩
end Go.Proofs.YtmhjjhaipcgbiaaGreat


/- mintagelaw18.Twin: a column in memory of its own. -/
namespace Go.Proofs.YtmhjjhaipcgbiaaGreat
open Go.RowKit
set_option linter.unusedVariables false
set_option linter.unusedSimpArgs false
set_option maxRecDepth 100000
set_option maxHeartbeats 1000000

/-- The boxed column, the answer's place, the new column's place. -/
structure TwB (w : World) (n : Nat) (c : Col) (B D E X : SL) (b' d' e' x' : Value) : Prop where
  k0 : w.heap[n]? = some (.cells #[.int .i64 c.k, .int .i64 c.s, .int .i64 c.n, .int .i64 c.m, .slice B.a c.bits.length B.c, .slice D.a c.data.length D.c, .slice E.a c.ends.length E.c, .slice X.a c.words.length X.c] 63 (0, 0))
  k1 : w.heap[n + 1]? = some (.cells #[.int .i64 0, .int .i64 0, .int .i64 0, .int .i64 0, .slice none 0 0, .slice none 0 0, .slice none 0 0, .slice none 0 0] 63 (0, 0))
  k2 : w.heap[n + 1 + 1]? = some (.cells #[.int .i64 c.k, .int .i64 c.s, .int .i64 c.n, .int .i64 c.m, b', d', e', x'] 63 (0, 0))
theorem TwB.below {w w' : World} {n : Nat} {c : Col} {B D E X : SL} {b' d' e' x' : Value} (h : TwB w n c B D E X b' d' e' x') (hb : Below w.heap.size w w') : TwB w' n c B D E X b' d' e' x' :=
  ⟨(hb.block _ (lt_of_blk h.k0)).trans h.k0, (hb.block _ (lt_of_blk h.k1)).trans h.k1, (hb.block _ (lt_of_blk h.k2)).trans h.k2⟩
theorem TwB.set {w : World} {n : Nat} {c : Col} {B D E X : SL} {b' d' e' x' : Value} (h : TwB w n c B D E X b' d' e' x') (k : Nat) (v : Value) : (w.setCell ⟨n + 1 + 1, k, none⟩ v).heap[n]? = some (.cells #[.int .i64 c.k, .int .i64 c.s, .int .i64 c.n, .int .i64 c.m, .slice B.a c.bits.length B.c, .slice D.a c.data.length D.c, .slice E.a c.ends.length E.c, .slice X.a c.words.length X.c] 63 (0, 0)) ∧ (w.setCell ⟨n + 1 + 1, k, none⟩ v).heap[n + 1]? = some (.cells #[.int .i64 0, .int .i64 0, .int .i64 0, .int .i64 0, .slice none 0 0, .slice none 0 0, .slice none 0 0, .slice none 0 0] 63 (0, 0)) :=
  ⟨((Kept.setCell w ⟨n + 1 + 1, k, none⟩ v).block _ (lt_of_blk h.k0) (by simp; omega)).trans h.k0, ((Kept.setCell w ⟨n + 1 + 1, k, none⟩ v).block _ (lt_of_blk h.k1) (by simp)).trans h.k1⟩

theorem intinfo9 : (Tryz.prog.info? 3).map (fun i => (i.zero, i.size, i.bytes)) = some (some (.int .i64 0), 1, 8) := by kernel_rfl
theorem twin18 (c : Col) (B D E X : SL) (vals : List Value) (hd : c.data.length ≤ 100000000) (hb : c.bits.length ≤ 100000000) (he : c.ends.length ≤ 100000000) (hw : c.words.length ≤ 100000000) (hwl : ∀ t ∈ c.words, t.length ≤ 100000000) (w : World) (h : RdC w c B D E X vals) :
    Calls Tryz.prog 27 #[colV c B D E X] w (ColBP c w) := by
  obtain ⟨w0, ew0⟩ : ∃ x, x = ((w.alloc (.cells #[.int .i64 c.k, .int .i64 c.s, .int .i64 c.n, .int .i64 c.m, .slice B.a c.bits.length B.c, .slice D.a c.data.length D.c, .slice E.a c.ends.length E.c, .slice X.a c.words.length X.c] 63)).alloc (.cells #[.int .i64 0, .int .i64 0, .int .i64 0, .int .i64 0, .slice none 0 0, .slice none 0 0, .slice none 0 0, .slice none 0 0] 63)).alloc (.cells #[.int .i64 c.k, .int .i64 c.s, .int .i64 c.n, .int .i64 c.m, .slice B.a c.bits.length B.c, .slice D.a c.data.length D.c, .slice E.a c.ends.length E.c, .slice X.a c.words.length X.c] 63) := ⟨_, rfl⟩
  have HB0 := Aside.mk (show Below w.heap.size w w0 from by rw [ew0]; exact ((below_new w _).trans ((below_new _ _).mono (by simp))).trans ((below_new _ _).mono (by simp; omega)))
  have HT0 := Aside.mk (show TwB w0 w.heap.size c B D E X (.slice B.a c.bits.length B.c) (.slice D.a c.data.length D.c) (.slice E.a c.ends.length E.c) (.slice X.a c.words.length X.c) from by
    rw [ew0]
    refine ⟨?_, ?_, ?_⟩
    · rw [Below.heap_alloc _ _ _ (by simp; omega), Below.heap_alloc _ _ _ (by simp)]; exact heap_alloc_new w _
    · rw [Below.heap_alloc _ _ _ (by simp)]; simpa using heap_alloc_new (w.alloc (.cells #[.int .i64 c.k, .int .i64 c.s, .int .i64 c.n, .int .i64 c.m, .slice B.a c.bits.length B.c, .slice D.a c.data.length D.c, .slice E.a c.ends.length E.c, .slice X.a c.words.length X.c] 63)) (.cells #[.int .i64 0, .int .i64 0, .int .i64 0, .int .i64 0, .slice none 0 0, .slice none 0 0, .slice none 0 0, .slice none 0 0] 63)
    · simpa using heap_alloc_new ((w.alloc (.cells #[.int .i64 c.k, .int .i64 c.s, .int .i64 c.n, .int .i64 c.m, .slice B.a c.bits.length B.c, .slice D.a c.data.length D.c, .slice E.a c.ends.length E.c, .slice X.a c.words.length X.c] 63)).alloc (.cells #[.int .i64 0, .int .i64 0, .int .i64 0, .int .i64 0, .slice none 0 0, .slice none 0 0, .slice none 0 0, .slice none 0 0] 63)) (.cells #[.int .i64 c.k, .int .i64 c.s, .int .i64 c.n, .int .i64 c.m, .slice B.a c.bits.length B.c, .slice D.a c.data.length D.c, .slice E.a c.ends.length E.c, .slice X.a c.words.length X.c] 63))
  have HW := Aside.mk h
  have HR := Aside.mk (h.below HB0.out)
  clear h
  dsimp only [colV]
  go_enter Tryz.func27, Tryz.ntmps27
  go_wp2_with fail
  rw [← ew0]
  refine (twin_bytes c.data D hd w0 HR.out.data).mono ?_
  rintro e w1 ⟨da, dc, rfl, ho, hb1⟩
  have HD1 := Aside.mk ho
  have HT1 := Aside.mk (HT0.out.below hb1)
  have HB1 := Aside.mk hb1
  clear ho hb1
  obtain ⟨d0, d1, d2, d3, d4, d5, d6, d7⟩ := box8 HT1.out.k2
  obtain ⟨g0, g1, g2, g3, g4, g5, g6, g7⟩ := box8 HT1.out.k0
  have hf0 := fun k => frozen_blk (k := k) HT1.out.k2
  have hl2 := lt_of_blk HT1.out.k2
  go_wp2_with fail
  have HT2 := Aside.mk (show TwB (w1.setCell ⟨w.heap.size + 1 + 1, 5, none⟩ (.slice da c.data.length dc)) w.heap.size c B D E X (.slice B.a c.bits.length B.c) (.slice da c.data.length dc) (.slice E.a c.ends.length E.c) (.slice X.a c.words.length X.c) from ⟨(HT1.out.set 5 _).1, (HT1.out.set 5 _).2, by have h := heap_setCell_at (k := 5) HT1.out.k2 (.slice da c.data.length dc); simpa using h⟩)
  have HB2 := Aside.mk (show Below w.heap.size w (w1.setCell ⟨w.heap.size + 1 + 1, 5, none⟩ (.slice da c.data.length dc)) from Below.setCell (HB0.out.trans (HB1.out.mono HB0.out.size)) (by simp; omega) _)
  have HD2 := Aside.mk (HD1.out.set_other (a := ⟨w.heap.size + 1 + 1, 5, none⟩) (HD1.out.blk_ne HT1.out.k2 (by decide)) (.slice da c.data.length dc))
  clear d0 d1 d2 d3 d4 d5 d6 d7 g0 g1 g2 g3 g4 g5 g6 g7 hf0 hl2
  generalize w1.setCell ⟨w.heap.size + 1 + 1, 5, none⟩ (.slice da c.data.length dc) = w2 at *
  refine (twin_bytes c.bits B hb w2 (HW.out.below HB2.out).bits).mono ?_
  rintro e w3 ⟨pa, pc, rfl, ho, hb3⟩
  have HP3 := Aside.mk ho
  have HT3 := Aside.mk (HT2.out.below hb3)
  have HB3 := Aside.mk hb3
  clear ho hb3
  obtain ⟨d0, d1, d2, d3, d4, d5, d6, d7⟩ := box8 HT3.out.k2
  obtain ⟨g0, g1, g2, g3, g4, g5, g6, g7⟩ := box8 HT3.out.k0
  have hf0 := fun k => frozen_blk (k := k) HT3.out.k2
  have hl2 := lt_of_blk HT3.out.k2
  have r0 := (HT3.out.set 4 (.slice pa c.bits.length pc))
  have HT4 := Aside.mk (show TwB ((w3.setCell ⟨w.heap.size + 1 + 1, 4, none⟩ (.slice pa c.bits.length pc)).alloc (.cells #[] 3)) w.heap.size c B D E X (.slice pa c.bits.length pc) (.slice da c.data.length dc) (.slice E.a c.ends.length E.c) (.slice X.a c.words.length X.c) from TwB.below ⟨r0.1, r0.2, by have h := heap_setCell_at (k := 4) HT3.out.k2 (.slice pa c.bits.length pc); simpa using h⟩ (below_new _ _))
  clear r0
  obtain ⟨s0, s1, s2, s3, s4, s5, s6, s7⟩ := box8 HT4.out.k0
  have HE4 := Aside.mk (show Own ((w3.setCell ⟨w.heap.size + 1 + 1, 4, none⟩ (.slice pa c.bits.length pc)).alloc (.cells #[] 3)) w3.heap.size 3 1 (.slice (some ⟨w3.heap.size, 0, none⟩) 0 0) 0 [] from by
    have h := own_fresh (w3.setCell ⟨w.heap.size + 1 + 1, 4, none⟩ (.slice pa c.bits.length pc)) #[] 3 0 (Nat.le_refl _) (Nat.zero_le _)
    rw [show (w3.setCell ⟨w.heap.size + 1 + 1, 4, none⟩ (.slice pa c.bits.length pc)).heap.size = w3.heap.size from by simp] at h
    exact h)
  have HB4 := Aside.mk (show Below w.heap.size w ((w3.setCell ⟨w.heap.size + 1 + 1, 4, none⟩ (.slice pa c.bits.length pc)).alloc (.cells #[] 3)) from (Below.setCell (HB2.out.trans (HB3.out.mono HB2.out.size)) (by simp; omega) _).trans ((below_new _ _).mono (by have h1 := HB2.out.size; have h2 := HB3.out.size; simp; omega)))
  go_wp2_with (at_builtin; refine wpList_app2 _ rfl _ _ 61 61 rfl w3.heap.size 3 (.int .i64 0) 1 8 Tryz.underlying61 intinfo9 rfl _ 0 [] rfl HE4.out _ c.ends.length (c.ends.map (.int .i64)) rfl ((HW.out.below HB4.out).ends.src (tx := 61) (P := Tryz.prog) Tryz.underlying61 (one_map (fun x : Int => Value.int .i64 x) (fun _ => rfl) c.ends)) (by unfold maxLen; omega) (by omega) (by simp) ?_)
  intro v5 w5 hA
  obtain ⟨ea, ec, rfl⟩ := hA.own.form
  have hz4 : ((w3.setCell ⟨w.heap.size + 1 + 1, 4, none⟩ (.slice pa c.bits.length pc)).alloc (.cells #[] 3)).heap.size = w3.heap.size + 1 := by simp
  have hz3 := lt_of_blk HT3.out.k2
  have HZ := Aside.mk (And.intro HB2.out.size HB3.out.size)
  have K5 := Aside.mk (show Kept (fun b => b = w3.heap.size) ((w3.setCell ⟨w.heap.size + 1 + 1, 4, none⟩ (.slice pa c.bits.length pc)).alloc (.cells #[] 3)) w5 from (Kept.of_grown hA.grown).mono (fun b e _ => by cases e; rfl))
  have hD3 : Own ((w3.setCell ⟨w.heap.size + 1 + 1, 4, none⟩ (.slice pa c.bits.length pc)).alloc (.cells #[] 3)) w0.heap.size 5 1 (.slice da c.data.length dc) c.data.length (c.data.map (.int .u8)) := ((HD2.out.below HB3.out).set_other (a := ⟨w.heap.size + 1 + 1, 4, none⟩) ((HD2.out.below HB3.out).blk_ne HT3.out.k2 (by decide)) _).alloc _
  have hP3 : Own ((w3.setCell ⟨w.heap.size + 1 + 1, 4, none⟩ (.slice pa c.bits.length pc)).alloc (.cells #[] 3)) w2.heap.size 5 1 (.slice pa c.bits.length pc) c.bits.length (c.bits.map (.int .u8)) := (HP3.out.set_other (a := ⟨w.heap.size + 1 + 1, 4, none⟩) (HP3.out.blk_ne HT3.out.k2 (by decide)) _).alloc _
  have HSEP := Aside.mk (show ∀ b, (Value.slice pa c.bits.length pc).ownBlock = some b → (Value.slice da c.data.length dc).ownBlock ≠ some b from fun b e e2 => by
    have h1 := (HP3.out.lt b e).1
    have h2 := (HD2.out.lt b e2).2
    omega)
  have HDLT := Aside.mk (show ∀ b, (Value.slice da c.data.length dc).ownBlock = some b ∨ (Value.slice pa c.bits.length pc).ownBlock = some b → b < w3.heap.size from fun b e => by
    rcases e with e | e
    · have := (HD2.out.lt b e).2; have := HZ.out.2; omega
    · exact (HP3.out.lt b e).2)
  have HD5 := Aside.mk (hD3.kept K5.out (fun b e h => by have := HDLT.out b (.inl e); omega))
  have HP5 := Aside.mk (hP3.kept K5.out (fun b e h => by have := HDLT.out b (.inr e); omega))
  have hE5 := hA.own
  rw [Nat.zero_add, List.nil_append] at hE5
  rw [Nat.zero_add]
  have HE5 := Aside.mk hE5
  have HT5 := Aside.mk (show TwB w5 w.heap.size c B D E X (.slice pa c.bits.length pc) (.slice da c.data.length dc) (.slice E.a c.ends.length E.c) (.slice X.a c.words.length X.c) from
    ⟨(K5.out.block _ (lt_of_blk HT4.out.k0) (by omega)).trans HT4.out.k0, (K5.out.block _ (lt_of_blk HT4.out.k1) (by omega)).trans HT4.out.k1, (K5.out.block _ (lt_of_blk HT4.out.k2) (by omega)).trans HT4.out.k2⟩)
  have HB5 := Aside.mk (HB4.out.trans (K5.out.to_below HB4.out.size (fun b e => by subst e; have := HZ.out.1; have := HZ.out.2; omega)))
  have hs5 := K5.out.size
  rw [hz4] at hs5
  have HS5 := Aside.mk hs5
  clear hA hE5 hD3 hP3 hz4 hz3 s0 s1 s2 s3 s4 s5 s6 s7 d0 d1 d2 d3 d4 d5 d6 d7 g0 g1 g2 g3 g4 g5 g6 g7 hf0 hl2 hs5
  obtain ⟨d0, d1, d2, d3, d4, d5, d6, d7⟩ := box8 HT5.out.k2
  obtain ⟨g0, g1, g2, g3, g4, g5, g6, g7⟩ := box8 HT5.out.k0
  have hf0 := fun k => frozen_blk (k := k) HT5.out.k2
  have hl2 := lt_of_blk HT5.out.k2
  go_wp2_with fail
  have HT6 := Aside.mk (show TwB (w5.setCell ⟨w.heap.size + 1 + 1, 6, none⟩ (.slice ea c.ends.length ec)) w.heap.size c B D E X (.slice pa c.bits.length pc) (.slice da c.data.length dc) (.slice ea c.ends.length ec) (.slice X.a c.words.length X.c) from ⟨(HT5.out.set 6 _).1, (HT5.out.set 6 _).2, by have h := heap_setCell_at (k := 6) HT5.out.k2 (.slice ea c.ends.length ec); simpa using h⟩)
  have HB6 := Aside.mk (show Below w.heap.size w (w5.setCell ⟨w.heap.size + 1 + 1, 6, none⟩ (.slice ea c.ends.length ec)) from Below.setCell HB5.out (by simp; omega) _)
  have HD6 := Aside.mk (HD5.out.set_other (a := ⟨w.heap.size + 1 + 1, 6, none⟩) (HD5.out.blk_ne HT5.out.k2 (by decide)) (.slice ea c.ends.length ec))
  have HP6 := Aside.mk (HP5.out.set_other (a := ⟨w.heap.size + 1 + 1, 6, none⟩) (HP5.out.blk_ne HT5.out.k2 (by decide)) (.slice ea c.ends.length ec))
  have HE6 := Aside.mk (HE5.out.set_other (a := ⟨w.heap.size + 1 + 1, 6, none⟩) (HE5.out.blk_ne HT5.out.k2 (by decide)) (.slice ea c.ends.length ec))
  have HS6 := Aside.mk (show w3.heap.size + 1 ≤ (w5.setCell ⟨w.heap.size + 1 + 1, 6, none⟩ (.slice ea c.ends.length ec)).heap.size from by simpa using HS5.out)
  clear d0 d1 d2 d3 d4 d5 d6 d7 g0 g1 g2 g3 g4 g5 g6 g7 hf0 hl2
  generalize w5.setCell ⟨w.heap.size + 1 + 1, 6, none⟩ (.slice ea c.ends.length ec) = w6 at *
  refine (twins_any c.words vals X hw hwl w6 (HW.out.below HB6.out).words (HW.out.below HB6.out).each).mono ?_
  rintro e w7 ⟨wa, wc, wvals, rfl, hwo, hwlen, hwe, hwb, hws⟩
  have HT7 := Aside.mk (HT6.out.below hwb)
  have HD7 := Aside.mk (HD6.out.below hwb)
  have HP7 := Aside.mk (HP6.out.below hwb)
  have HE7 := Aside.mk (HE6.out.below hwb)
  have HW7 := Aside.mk (And.intro hwo (And.intro hwlen (And.intro hwe hws)))
  have HB7 := Aside.mk (HB6.out.trans (hwb.mono HB6.out.size))
  clear hwo hwlen hwe hws hwb
  obtain ⟨d0, d1, d2, d3, d4, d5, d6, d7⟩ := box8 HT7.out.k2
  obtain ⟨g0, g1, g2, g3, g4, g5, g6, g7⟩ := box8 HT7.out.k1
  have hf0 := fun k => frozen_blk (k := k) HT7.out.k2
  have hf1 := fun k => frozen_blk (k := k) HT7.out.k1
  have hl2 := lt_of_blk HT7.out.k2
  go_wp2_with fail
  refine bodyPost_ret (v := colV c ⟨pa, pc⟩ ⟨da, dc⟩ ⟨ea, ec⟩ ⟨wa, wc⟩) (by simp [results, Tryz.results27, go_sem, colV, g0, g1, g2, g3, g4, g5, g6, g7]) rfl ?_
  clear d0 d1 d2 d3 d4 d5 d6 d7 g0 g1 g2 g3 g4 g5 g6 g7 hf0 hf1
  have K : Kept (fun b => b = w.heap.size + 1 + 1 ∨ b = w.heap.size + 1) w7 (((((((((w7.setCell ⟨w.heap.size + 1 + 1, 7, none⟩ (.slice wa c.words.length wc)).setCell ⟨w.heap.size + 1, 0, none⟩ (.int .i64 c.k)).setCell ⟨w.heap.size + 1, 1, none⟩ (.int .i64 c.s)).setCell ⟨w.heap.size + 1, 2, none⟩ (.int .i64 c.n)).setCell ⟨w.heap.size + 1, 3, none⟩ (.int .i64 c.m)).setCell ⟨w.heap.size + 1, 4, none⟩ (.slice pa c.bits.length pc)).setCell ⟨w.heap.size + 1, 5, none⟩ (.slice da c.data.length dc)).setCell ⟨w.heap.size + 1, 6, none⟩ (.slice ea c.ends.length ec)).setCell ⟨w.heap.size + 1, 7, none⟩ (.slice wa c.words.length wc)) :=
    Kept.trans ((Kept.setCell w7 _ _).mono (fun b e _ => .inl e)) (kept8 _ (w.heap.size + 1) _ _ _ _ _ _ _ _) (fun b e _ => .inr e)
  generalize (((((((((w7.setCell ⟨w.heap.size + 1 + 1, 7, none⟩ (.slice wa c.words.length wc)).setCell ⟨w.heap.size + 1, 0, none⟩ (.int .i64 c.k)).setCell ⟨w.heap.size + 1, 1, none⟩ (.int .i64 c.s)).setCell ⟨w.heap.size + 1, 2, none⟩ (.int .i64 c.n)).setCell ⟨w.heap.size + 1, 3, none⟩ (.int .i64 c.m)).setCell ⟨w.heap.size + 1, 4, none⟩ (.slice pa c.bits.length pc)).setCell ⟨w.heap.size + 1, 5, none⟩ (.slice da c.data.length dc)).setCell ⟨w.heap.size + 1, 6, none⟩ (.slice ea c.ends.length ec)).setCell ⟨w.heap.size + 1, 7, none⟩ (.slice wa c.words.length wc)) = W at *
  have ty : ∀ {F : TypeId}, F ≠ 63 → ∀ b, (b = w.heap.size + 1 + 1 ∨ b = w.heap.size + 1) → b < w7.heap.size → ∀ cs, w7.heap[b]? ≠ some (.cells cs F (0, 0)) := by
    rintro F hF b (rfl | rfl) hb cs hc
    · rw [HT7.out.k2] at hc; cases hc; exact hF rfl
    · rw [HT7.out.k1] at hc; cases hc; exact hF rfl
  have z0 := HB0.out.size
  have z1 := HZ.out.1
  have z2 := HZ.out.2
  have z6 := HS6.out
  have z7 := HB6.out.size
  have hwe := HW7.out.2.2.1
  have hwl := HW7.out.2.1
  refine ⟨⟨pa, pc⟩, ⟨da, dc⟩, ⟨ea, ec⟩, ⟨wa, wc⟩, wvals, rfl, ⟨(HP7.out.keptT K (ty (by decide))).mono (by omega), (HD7.out.keptT K (ty (by decide))).mono (by omega), (HE7.out.keptT K (ty (by decide))).mono (by omega), (HW7.out.1.keptT K (ty (by decide))).mono (by omega), hwl, fun j t hj ht => ?_, ⟨fun b e => ?_, fun v hv b e => ?_, ?_⟩⟩, HB7.out.trans (K.to_below HB7.out.size (fun b e => by omega))⟩
  · obtain ⟨a, cap, q1, q2⟩ := hwe j t hj ht
    exact ⟨a, cap, q1, (q2.keptT K (ty (by decide))).mono (by omega)⟩
  · rw [← own_len00 pa c.bits.length pc] at e
    rw [← own_len00 da c.data.length dc]
    exact HSEP.out b e
  · obtain ⟨j, hj, rfl⟩ := List.mem_iff_getElem.1 hv
    have hj2 : j < c.words.length := by omega
    obtain ⟨a, cap, q1, q2⟩ := hwe j _ hj2 (List.getElem?_eq_getElem hj2)
    rw [List.getElem?_eq_getElem hj] at q1
    rw [Option.some.inj q1] at e
    have hb := (q2.lt b e).1
    rw [← own_len00 pa c.bits.length pc, ← own_len00 da c.data.length dc]
    exact ⟨fun e2 => by have := HDLT.out b (.inr e2); omega, fun e2 => by have := HDLT.out b (.inl e2); omega⟩
  · rw [hwl]; exact HW7.out.2.2.2
end Go.Proofs.YtmhjjhaipcgbiaaGreat


/- mintagekeep.Back. -/
namespace Go.Proofs.YtmhjjhaipcgbiaaGreat
open Go.RowKit
set_option linter.unusedVariables false
set_option linter.unusedSimpArgs false
set_option maxRecDepth 100000
set_option maxHeartbeats 1000000

theorem back_bytes (xs : List Int) (hx : IsBytes xs) (a : Option Addr) (c : Nat) (A : SL) (hl : xs.length ≤ 100000000) (w : World) (h : Own w 0 5 1 (.slice a (xs.length + 2) c) (xs.length + 2) (xs.map (.int .u8) ++ [.int .u8 165, .int .u8 90])) (hb : Rd w 1 (.slice A.a xs.length A.c) xs.length (xs.map (.int .u8))) :
    Calls Tryz.prog 23 #[.slice a xs.length c, .slice A.a xs.length A.c] w (fun e w' => e = .returned (.bool true) ∧ Kept (fun b => (Value.slice a xs.length c).ownBlock = some b) w w') := by
  obtain ⟨g, o, cp, e4, _, _, hx1, hx2, hc, _⟩ := h.some_ (by omega)
  simp only [Value.slice.injEq, true_and] at e4
  obtain ⟨rfl, rfl⟩ := e4
  have hm0 : w.cell? ⟨g, o + xs.length, none⟩ = some (.int .u8 165) := hc _ _ (by rw [List.getElem?_append_right (by simp)]; simp)
  have hm1 : w.cell? ⟨g, o + (xs.length + 1), none⟩ = some (.int .u8 90) := hc _ _ (by rw [List.getElem?_append_right (by simp)]; simp)
  have hf : Own w 0 5 1 (.slice (some ⟨g, o, none⟩) xs.length c) xs.length (xs.map (.int .u8)) := own_front0 h (by simp)
  have HS := Aside.mk (same_same xs ⟨some ⟨g, o, none⟩, c⟩ A hx w hf.rd hb)
  have HO := Aside.mk (show ∃ ys : List Int, ys.length = xs.length + 2 ∧ Own w 0 5 1 (.slice (some ⟨g, o, none⟩) (xs.length + 2) c) (xs.length + 2) (ys.map (.int .u8)) from ⟨xs ++ [165, 90], by simp, by simpa using h⟩)
  have HM := Aside.mk (fun (w2 : World) (hw : Below w.heap.size w w2) => And.intro (show w2.cell? ⟨g, o + xs.length, none⟩ = some (.int .u8 165) from ((hw.cell (World.block_lt_of_cell? _ _ hm0)).trans hm0)) (show w2.cell? ⟨g, o + (xs.length + 1), none⟩ = some (.int .u8 90) from ((hw.cell (World.block_lt_of_cell? _ _ hm1)).trans hm1)))
  clear h hb hf hc hm0 hm1
  dsimp only at HS ⊢
  generalize hn : xs.length = n at *
  have HN := Aside.mk hn
  clear hn
  go_enter Tryz.func23, Tryz.ntmps23
  go_wp2_with (go_at_call 47; refine HS.out.mono ?_; rintro e w2 ⟨rfl, hb2⟩; have HB2 := Aside.mk hb2; obtain ⟨hm0, hm1⟩ := HM.out w2 hb2; clear hb2)
  go_loopw [6] (fun i0 wr => ∃ i : Nat, i ≤ n ∧ i0 = .int .i64 (i : Int) ∧ Aside (Kept (fun b => (Value.slice (some ⟨g, o, none⟩) n c).ownBlock = some b) w wr ∧ ∃ ys : List Int, ys.length = n + 2 ∧ Own wr 0 5 1 (.slice (some ⟨g, o, none⟩) (n + 2) c) (n + 2) (ys.map (.int .u8)))) (fun i0 _ => n - (intOf i0).toNat)
  case atStart => exact ⟨0, by omega, rfl, ⟨Kept.of_below HB2.out, HO.out.imp (fun ys h => ⟨h.1, h.2.below HB2.out⟩)⟩⟩
  case round =>
    obtain ⟨i, hi, rfl, hp⟩ := hrel
    obtain ⟨hk, ys, hy, ho⟩ := hp.out
    by_cases hlt : i < n
    · obtain ⟨g', o', cp, e4, _, _, _, _, hc, hf0⟩ := ho.some_ (by omega)
      simp only [Value.slice.injEq, Option.some.injEq, Addr.mk.injEq, and_true, true_and] at e4
      obtain ⟨⟨rfl, rfl⟩, rfl⟩ := e4
      obtain ⟨x, hxi⟩ : ∃ x, ys[i]? = some x := ⟨_, List.getElem?_eq_getElem (by omega)⟩
      have d1 := hc i (.int .u8 x) (by rw [List.getElem?_map, hxi]; rfl)
      have HO2 := Aside.mk ho
      have HK2 := Aside.mk hk
      have HY := Aside.mk hy
      clear ho hk hc hy hp hxi
      go_wp2_with fail
      refine ⟨⟨i + 1, by omega, by simp, ⟨HK2.out.trans (Kept.setCell _ _ _) (fun b e _ => by subst e; rfl), ?_⟩⟩, by simp [intOf]; omega⟩
      refine ⟨ys.set i ((x + 77) % 256), by rw [List.length_set]; exact HY.out, ?_⟩
      rw [List.map_set]
      exact HO2.out.stored i _
    · obtain rfl : i = n := by omega
      go_wp2_with fail
      go_ret
      exact ⟨rfl, hk⟩
end Go.Proofs.YtmhjjhaipcgbiaaGreat


/- ColumnBuilds: what is held from step to step; each call's contract in these words. -/
namespace Go.Proofs.YtmhjjhaipcgbiaaGreat
open Go.RowKit
set_option linter.unusedVariables false
set_option linter.unusedSimpArgs false
set_option maxRecDepth 100000
set_option maxHeartbeats 1000000

/-- The builder's blocks S, the book's T, the document's builder's R: apart, and apart from Z. -/
structure CBx (w W : World) (Z : Nat → Prop) (bl rb bk : Nat) (k s : Int) (lb lr : List V) (S T R : Nat → Prop) : Prop where
  bel : Below w.heap.size w W
  zs : ∀ b, Z b → b < W.heap.size ∧ ¬ S b ∧ ¬ T b ∧ ¬ R b
  z0 : ∀ b, b < w.heap.size → Z b
  st : ∀ b, S b → ¬ T b ∧ ¬ R b
  tr : ∀ b, T b → ¬ R b
  lt : ∀ b, S b ∨ T b ∨ R b → b < W.heap.size
  bs : BS W S bl k s (CS.of k lb)
  bk : BK W T bk
  rb : RB W R rb k s lr
def CB (w W : World) (Z : Nat → Prop) (bl rb bk : Nat) (k s : Int) (lb lr : List V) : Prop := ∃ S T R, CBx w W Z bl rb bk k s lb lr S T R

/-- What a call leaves. -/
def Went (w : World) (Z : Nat → Prop) (bl rb bk : Nat) (k s : Int) (lb lr : List V) (r : Value) (W : World) (e : Ending) (W' : World) : Prop :=
  e = .returned r ∧ CB w W' Z bl rb bk k s lb lr ∧ Kept (fun b => ¬ Z b) W W'

section
variable {w W W' : World} {Z : Nat → Prop} {bl rb bk : Nat} {k s : Int} {lb lr : List V}

theorem CB.below (h : CB w W Z bl rb bk k s lb lr) (hb : Below W.heap.size W W') : CB w W' (fun b => Z b ∨ (W.heap.size ≤ b ∧ b < W'.heap.size)) bl rb bk k s lb lr := by
  obtain ⟨S, T, R, h⟩ := h
  have hz := hb.size
  refine ⟨S, T, R, below_chain h.bel hb, fun b hz2 => ?_, fun b hb2 => .inl (h.z0 b hb2), h.st, h.tr, fun b hb2 => Nat.lt_of_lt_of_le (h.lt b hb2) hz, h.bs.below hb, h.bk.below hb, h.rb.below hb⟩
  rcases hz2 with h1 | ⟨h1, h2⟩
  · obtain ⟨a, b1, c, d⟩ := h.zs b h1
    exact ⟨by omega, b1, c, d⟩
  · exact ⟨h2, fun e => by have := h.lt b (.inl e); omega, fun e => by have := h.lt b (.inr (.inl e)); omega, fun e => by have := h.lt b (.inr (.inr e)); omega⟩
theorem CB.monoZ {Z' : Nat → Prop} (h : CB w W Z bl rb bk k s lb lr) (hz : ∀ b, Z' b → Z b) (h0 : ∀ b, b < w.heap.size → Z' b) : CB w W Z' bl rb bk k s lb lr := by
  obtain ⟨S, T, R, h⟩ := h
  exact ⟨S, T, R, h.bel, fun b hb => h.zs b (hz b hb), h0, h.st, h.tr, h.lt, h.bs, h.bk, h.rb⟩
theorem CB.same (h : CB w W Z bl rb bk k s lb lr) (hb : Below W.heap.size W W') : CB w W' Z bl rb bk k s lb lr :=
  (h.below hb).monoZ (fun b e => .inl e) (by obtain ⟨S, T, R, h⟩ := h; exact h.z0)
theorem CB.bel (h : CB w W Z bl rb bk k s lb lr) : Below w.heap.size w W := by obtain ⟨S, T, R, h⟩ := h; exact h.bel
theorem Went.of_below {r : Value} {e : Ending} (h : CB w W Z bl rb bk k s lb lr) (he : e = .returned r) (hb : Below W.heap.size W W') : Went w Z bl rb bk k s lb lr r W e W' :=
  ⟨he, h.same hb, Kept.of_below hb⟩

theorem went_b {S T R : Nat → Prop} {lb' : List V} {r : Value} {e : Ending} (h : CBx w W Z bl rb bk k s lb lr S T R) (hs : StepP S bl k s (CS.of k lb') r W e W') : Went w Z bl rb bk k s lb' lr r W e W' := by
  obtain ⟨he, hb, hk⟩ := hs
  have hz := hk.size
  have hSz : ∀ b, S b → ¬ Z b := fun b e z => (h.zs b z).2.1 e
  refine ⟨he, ⟨fun b => (S b ∨ W.heap.size ≤ b) ∧ b < W'.heap.size, T, R, h.bel.trans (hk.to_below h.bel.size (fun b e => ?_)), fun b z => ?_, h.z0, fun b e => ?_, h.tr, fun b e => ?_, hb.mono (fun b e1 e2 => ⟨e1, e2⟩), h.bk.kept hk (fun b e _ e2 => (h.st b e2).1 e), h.rb.kept hk (fun b e _ e2 => (h.st b e2).2 e)⟩, hk.mono (fun b e _ => hSz b e)⟩
  · rcases Nat.lt_or_ge b w.heap.size with h1 | h1
    · exact absurd (h.z0 b h1) (hSz b e)
    · exact h1
  · obtain ⟨a1, a2, a3, a4⟩ := h.zs b z
    exact ⟨by omega, fun e => e.1.elim a2 (fun h => by omega), a3, a4⟩
  · rcases e.1 with e | e
    · exact h.st b e
    · exact ⟨fun t => by have := h.lt b (.inr (.inl t)); omega, fun t => by have := h.lt b (.inr (.inr t)); omega⟩
  · rcases e with e | e | e
    · exact e.2
    · exact Nat.lt_of_lt_of_le (h.lt b (.inr (.inl e))) hz
    · exact Nat.lt_of_lt_of_le (h.lt b (.inr (.inr e))) hz
theorem went_r {S T R : Nat → Prop} {lr' : List V} {r : Value} {e : Ending} (h : CBx w W Z bl rb bk k s lb lr S T R) (hs : RStep R rb k s lr' r W e W') : Went w Z bl rb bk k s lb lr' r W e W' := by
  obtain ⟨he, hb, hk⟩ := hs
  have hz := hk.size
  have hSz : ∀ b, R b → ¬ Z b := fun b e z => (h.zs b z).2.2.2 e
  refine ⟨he, ⟨S, T, fun b => (R b ∨ W.heap.size ≤ b) ∧ b < W'.heap.size, h.bel.trans (hk.to_below h.bel.size (fun b e => ?_)), fun b z => ?_, h.z0, fun b e => ?_, fun b e => ?_, fun b e => ?_, h.bs.kept hk (fun b e _ e2 => (h.st b e).2 e2), h.bk.kept hk (fun b e _ e2 => h.tr b e e2), hb.mono (fun b e1 e2 => ⟨e1, e2⟩)⟩, hk.mono (fun b e _ => hSz b e)⟩
  · rcases Nat.lt_or_ge b w.heap.size with h1 | h1
    · exact absurd (h.z0 b h1) (hSz b e)
    · exact h1
  · obtain ⟨a1, a2, a3, a4⟩ := h.zs b z
    exact ⟨by omega, a2, a3, fun e => e.1.elim a4 (fun h => by omega)⟩
  · exact ⟨(h.st b e).1, fun t => t.1.elim (h.st b e).2 (fun t => by have := h.lt b (.inl e); omega)⟩
  · exact fun t => t.1.elim (h.tr b e) (fun t => by have := h.lt b (.inr (.inl e)); omega)
  · rcases e with e | e | e
    · exact Nat.lt_of_lt_of_le (h.lt b (.inl e)) hz
    · exact Nat.lt_of_lt_of_le (h.lt b (.inr (.inl e))) hz
    · exact e.2
/-- The book takes the rows that were made behind W0. -/
theorem went_k {W0 : World} {S T R : Nat → Prop} {r : Value} {e : Ending} (h : CBx w W0 Z bl rb bk k s lb lr S T R) (hb : Below W0.heap.size W0 W) (he : e = .returned r) (hbk : BK W' (fun b => T b ∨ W0.heap.size ≤ b) bk) (hk : Kept (fun b => T b ∨ W0.heap.size ≤ b) W W') : Went w Z bl rb bk k s lb lr r W e W' := by
  have hz0 := hb.size
  have hz := hk.size
  have hw0 := h.bel.size
  have hSz : ∀ b, T b ∨ W0.heap.size ≤ b → ¬ Z b := fun b e z => by
    obtain ⟨a1, a2, a3, a4⟩ := h.zs b z
    exact e.elim a3 (fun e => by omega)
  refine ⟨he, ⟨S, fun b => (T b ∨ W0.heap.size ≤ b) ∧ b < W'.heap.size, R, (below_chain h.bel hb).trans (hk.to_below (by omega) (fun b e => ?_)), fun b z => ?_, h.z0, fun b e => ?_, fun b e => ?_, fun b e => ?_, (h.bs.below hb).kept hk (fun b e _ e2 => ?_), hbk.mono (fun b e1 e2 => ⟨e1, e2⟩), (h.rb.below hb).kept hk (fun b e _ e2 => ?_)⟩, hk.mono (fun b e _ => hSz b e)⟩
  · rcases Nat.lt_or_ge b w.heap.size with h1 | h1
    · exact absurd (h.z0 b h1) (hSz b e)
    · exact h1
  · obtain ⟨a1, a2, a3, a4⟩ := h.zs b z
    exact ⟨by omega, a2, fun e => e.1.elim a3 (fun h => by omega), a4⟩
  · exact ⟨fun t => t.1.elim (h.st b e).1 (fun t => by have := h.lt b (.inl e); omega), (h.st b e).2⟩
  · rcases e.1 with e | e
    · exact h.tr b e
    · exact fun t => by have := h.lt b (.inr (.inr t)); omega
  · rcases e with e | e | e
    · have := h.lt b (.inl e); omega
    · exact e.2
    · have := h.lt b (.inr (.inr e)); omega
  · exact e2.elim (h.st b e).1 (fun t => by have := h.lt b (.inl e); omega)
  · exact e2.elim (fun t => h.tr b t e) (fun t => by have := h.lt b (.inr (.inr e)); omega)
end

/-- Values that a step may bring. -/
def Brought (k s : Int) (l : List V) (n : Nat) : Prop := l.length ≤ n ∧ ∀ v ∈ l, vOK k s v ∧ v.text.length ≤ 50
theorem Brought.few {k s : Int} {l : List V} {n : Nat} (h : Brought k s l n) (hn : n ≤ 20000) : Few l ∧ ∀ v ∈ l, vOK k s v :=
  ⟨⟨by have := h.1; omega, fun v hv => Nat.le_trans (h.2 v hv).2 (by decide)⟩, fun v hv => (h.2 v hv).1⟩
theorem Brought.app {k s : Int} {l r : List V} {n m : Nat} (h : Brought k s l n) (hr : Brought k s r m) : Brought k s (l ++ r) (n + m) :=
  ⟨by rw [List.length_append]; have := h.1; have := hr.1; omega, fun v hv => (List.mem_append.1 hv).elim (h.2 v) (hr.2 v)⟩
theorem Brought.one {k s : Int} {v : V} (hv : vOK k s v ∧ v.text.length ≤ 50) : Brought k s [v] 1 := ⟨by simp, fun u hu => by simp at hu; subst hu; exact hv⟩
theorem room_snoc {k s : Int} {l : List V} {v : V} (h : Few (l ++ [v]) ∧ ∀ x ∈ l ++ [v], vOK k s x) : Room (CS.of k l) v := by
  have := of_room h.1 h.2 (i := l.length) (by simp)
  simpa using this
/-- A column of few values is small. -/
theorem data_max (k : Int) (l : List V) (m : Nat) (hm : 8 ≤ m) (hl : ∀ v ∈ l, v.text.length ≤ m) : (CS.of k l).data.length ≤ l.length * m ∧ ∀ t ∈ (CS.of k l).words, t.length ≤ m := by
  induction l using snoc_ind with
  | h0 => exact ⟨Nat.zero_le _, fun t ht => (by cases ht)⟩
  | h1 l v ih =>
    obtain ⟨h1, h2⟩ := ih (fun v hv => hl v (List.mem_append_left _ hv))
    have hv := hl v (by simp)
    obtain ⟨W, hW, hW8⟩ := width_nat k
    have hw8 : (widthOf k).toNat ≤ 8 := by rw [hW]; exact hW8
    have hs : (l ++ [v]).length * m = l.length * m + m := by rw [List.length_append, List.length_singleton, Nat.add_mul, Nat.one_mul]
    rw [CS.of_snoc, hs]
    unfold CS.add
    split
    · refine ⟨?_, h2⟩
      simp only [List.length_append]; omega
    split
    · refine ⟨by simp only [List.length_append, lows_len]; omega, ?_⟩
      dsimp only
      split
      · exact h2
      · unfold addWord
        split
        · exact h2
        · intro t ht
          rcases List.mem_append.1 ht with h | h
          · exact h2 t h
          · simp at h; subst h; exact hv
    · exact ⟨by simp only [List.length_append, lows_len]; omega, h2⟩
theorem small_col {k s : Int} {l : List V} (h : l.length ≤ 120 ∧ ∀ v ∈ l, vOK k s v ∧ v.text.length ≤ 40) : Small18 (colOf k s l) := by
  obtain ⟨h1, h2⟩ := data_max k l 40 (by decide) (fun v hv => (h.2 v hv).2)
  have h3 := h.1
  have h4 : l.length * 40 ≤ 120 * 40 := Nat.mul_le_mul_right _ h3
  refine ⟨?_, ?_, fun t ht => ?_⟩
  · show ((CS.of k l).nulls.length : Int) ≤ 20000
    rw [nulls_of, List.length_map]; omega
  · show (CS.of k l).data.length ≤ 4900
    omega
  · have := h2 t ht; omega
end Go.Proofs.YtmhjjhaipcgbiaaGreat


/- ColumnBuilds: each call's contract. -/
namespace Go.Proofs.YtmhjjhaipcgbiaaGreat
open Go.RowKit
set_option linter.unusedVariables false
set_option linter.unusedSimpArgs false
set_option maxRecDepth 100000
set_option maxHeartbeats 1000000

def putE (k s : Int) (X : Nat) : Int := if wordedB k = true then 170 else if fitsB k s X = true then 0 else 172
def putL (k s : Int) (l : List V) (X : Nat) : List V := if wordedB k = false ∧ fitsB k s X = true then l ++ [⟨false, X, []⟩] else l
def textE (k : Int) : Int := if wordedB k = true then 0 else 170
def textL (k : Int) (l : List V) (t : List Int) : List V := if wordedB k = true then l ++ [⟨false, 0, t⟩] else l
def appE (k s k2 s2 : Int) : Int := if k2 = k ∧ s2 = s then 0 else 174
def appL (k s k2 s2 : Int) (l r : List V) : List V := if k2 = k ∧ s2 = s then l ++ r else l
def backE (m : Nat) (n : Int) : Int := if 0 ≤ n ∧ n ≤ (m : Int) then 0 else 173
def backL (l : List V) (n : Int) : List V := if 0 ≤ n ∧ n ≤ (l.length : Int) then l.take n.toNat else l

section
variable {w W : World} {Z : Nat → Prop} {bl rb bk : Nat} {k s : Int} {lb lr : List V}

theorem vok_put {k s : Int} {X : Nat} (hX : X < 18446744073709551616) (hw : wordedB k = false) (hf : fitsB k s X = true) : vOK k s ⟨false, X, []⟩ ∧ (⟨false, X, []⟩ : V).text.length ≤ 50 :=
  ⟨⟨isBytes_nil, hX, fun e => (by cases e), fun _ => by rw [hw]; exact ⟨hf, rfl⟩⟩, by simp⟩
theorem vok_text {k s : Int} {t : List Int} (ht : IsBytes t) (hl : t.length ≤ 50) (hw : wordedB k = true) : vOK k s ⟨false, 0, t⟩ ∧ (⟨false, 0, t⟩ : V).text.length ≤ 50 :=
  ⟨⟨ht, by simp, fun e => (by cases e), fun _ => by rw [hw]; rfl⟩, hl⟩
theorem vok_null {k s : Int} : vOK k s ⟨true, 0, []⟩ ∧ (⟨true, 0, []⟩ : V).text.length ≤ 50 := ⟨⟨isBytes_nil, by simp, fun _ => ⟨rfl, rfl⟩, fun e => (by cases e)⟩, by simp⟩

theorem cb_null (h : CB w W Z bl rb bk k s lb lr) {n : Nat} (hB : Brought k s lb n) (hn : n + 1 ≤ 20000) : Calls Tryz.prog 16 #[.pointer (some ⟨bl, 0, none⟩)] W (Went w Z bl rb bk k s (lb ++ [⟨true, 0, []⟩]) lr (.tuple #[]) W) := by
  obtain ⟨S, T, R, hx⟩ := h
  refine (null_BS S bl k s _ (room_snoc ((hB.app (Brought.one vok_null)).few hn)) W hx.bs).mono fun e W' hs => went_b hx ?_
  rw [CS.of_snoc]; exact hs
theorem cb_put (h : CB w W Z bl rb bk k s lb lr) {n : Nat} (hB : Brought k s lb n) (hn : n + 1 ≤ 20000) (X : Nat) (hX : X < 18446744073709551616) : Calls Tryz.prog 17 #[.pointer (some ⟨bl, 0, none⟩), .int .u64 (X : Int)] W (Went w Z bl rb bk k s (putL k s lb X) lr (.int .i64 (putE k s X)) W) := by
  obtain ⟨S, T, R, hx⟩ := h
  unfold putE putL
  cases hw : wordedB k with
  | true =>
    rw [if_pos rfl, if_neg (fun h => by cases h.1)]
    exact (put_word S bl k s _ X hw W hx.bs).mono fun e W' hs => Went.of_below ⟨S, T, R, hx⟩ hs.1 hs.2
  | false =>
    rw [if_neg (show ¬ ((false : Bool) = true) by decide)]
    cases hf : fitsB k s X with
    | true =>
      rw [if_pos rfl, if_pos ⟨rfl, rfl⟩]
      refine (put_BS S bl k s _ X hw hf (room_snoc ((hB.app (Brought.one (vok_put hX hw hf))).few hn)) W hx.bs).mono fun e W' hs => went_b hx ?_
      rw [CS.of_snoc]; exact hs
    | false =>
      rw [if_neg (show ¬ ((false : Bool) = true) by decide), if_neg (fun h => by cases h.2)]
      exact (put_bad S bl k s _ X hX hw hf W hx.bs).mono fun e W' hs => Went.of_below ⟨S, T, R, hx⟩ hs.1 hs.2
theorem cb_rput (h : CB w W Z bl rb bk k s lb lr) (hn : lr.length ≤ 20000) (X : Nat) (hX : X < 18446744073709551616) : Calls Tryz.prog 18 #[.pointer (some ⟨rb, 0, none⟩), .int .u64 (X : Int)] W (Went w Z bl rb bk k s lb (putL k s lr X) (.int .i64 (putE k s X)) W) := by
  obtain ⟨S, T, R, hx⟩ := h
  unfold putE putL
  cases hw : wordedB k with
  | true =>
    rw [if_pos rfl, if_neg (fun h => by cases h.1)]
    exact (rput_word R rb k s _ X hw W hx.rb).mono fun e W' hs => Went.of_below ⟨S, T, R, hx⟩ hs.1 hs.2
  | false =>
    rw [if_neg (show ¬ ((false : Bool) = true) by decide)]
    cases hf : fitsB k s X with
    | true =>
      rw [if_pos rfl, if_pos ⟨rfl, rfl⟩]
      exact (rput_yes R rb k s _ X hX hw hf (by omega) W hx.rb).mono fun e W' hs => went_r hx hs
    | false =>
      rw [if_neg (show ¬ ((false : Bool) = true) by decide), if_neg (fun h => by cases h.2)]
      exact (rput_bad R rb k s _ X hX hw hf W hx.rb).mono fun e W' hs => Went.of_below ⟨S, T, R, hx⟩ hs.1 hs.2
theorem cb_text (h : CB w W Z bl rb bk k s lb lr) {n : Nat} (hB : Brought k s lb n) (hn : n + 1 ≤ 20000) (t : List Int) (ht : IsBytes t) (hl : t.length ≤ 50) (A : SL) (hr : Rd W 1 (.slice A.a t.length A.c) t.length (t.map (.int .u8))) :
    Calls Tryz.prog 21 #[.pointer (some ⟨bl, 0, none⟩), .slice A.a t.length A.c] W (Went w Z bl rb bk k s (textL k lb t) lr (.int .i64 (textE k)) W) := by
  obtain ⟨S, T, R, hx⟩ := h
  unfold textE textL
  cases hw : wordedB k with
  | true =>
    rw [if_pos rfl, if_pos rfl]
    refine (text_BS S bl k s _ t A.a A.c hw (room_snoc ((hB.app (Brought.one (vok_text ht hl hw))).few hn)) W hx.bs hr).mono fun e W' hs => went_b hx ?_
    rw [CS.of_snoc]; exact hs
  | false =>
    rw [if_neg (show ¬ ((false : Bool) = true) by decide), if_neg (show ¬ ((false : Bool) = true) by decide)]
    exact (text_no S bl k s _ _ hw W hx.bs).mono fun e W' hs => Went.of_below ⟨S, T, R, hx⟩ hs.1 hs.2
theorem cb_rtext (h : CB w W Z bl rb bk k s lb lr) (hn : lr.length ≤ 20000) (t : List Int) (hl : t.length ≤ 50) (A : SL) (hr : Rd W 1 (.slice A.a t.length A.c) t.length (t.map (.int .u8))) :
    Calls Tryz.prog 22 #[.pointer (some ⟨rb, 0, none⟩), .slice A.a t.length A.c] W (Went w Z bl rb bk k s lb (textL k lr t) (.int .i64 (textE k)) W) := by
  obtain ⟨S, T, R, hx⟩ := h
  unfold textE textL
  cases hw : wordedB k with
  | true =>
    rw [if_pos rfl, if_pos rfl]
    exact (rtext_yes R rb k s _ t A hw (by omega) (by omega) W hx.rb hr).mono fun e W' hs => went_r hx hs
  | false =>
    rw [if_neg (show ¬ ((false : Bool) = true) by decide), if_neg (show ¬ ((false : Bool) = true) by decide)]
    exact (rtext_no R rb k s _ _ hw W hx.rb).mono fun e W' hs => Went.of_below ⟨S, T, R, hx⟩ hs.1 hs.2

/-- A column that is lent: its rows lie in Z. -/
def Lent (Z : Nat → Prop) (W : World) (c : Col) (B D E X : SL) (va : List Value) : Prop := (D.a = none ∨ ∃ g off, D.a = some ⟨g, off, none⟩) ∧ ∀ W', Kept (fun b => ¬ Z b) W W' → RdC W' c B D E X va
theorem cb_append (ho : okType k s = true) {k2 s2 : Int} (ho2 : okType k2 s2 = true) (h : CB w W Z bl rb bk k s lb lr) {n : Nat} (hB : Brought k s lb n) (hn : n + 120 ≤ 20000) {r : List V} (hr : r.length ≤ 120 ∧ ∀ v ∈ r, vOK k2 s2 v ∧ v.text.length ≤ 40) {c : Col} (ec : c = colOf k2 s2 r) {B D E X : SL} {va : List Value} (hL : Lent Z W c B D E X va) :
    Calls Tryz.prog 28 #[.pointer (some ⟨bl, 0, none⟩), colV c B D E X] W (Went w Z bl rb bk k s (appL k s k2 s2 lb r) lr (.int .i64 (appE k s k2 s2)) W) := by
  obtain ⟨S, T, R, hx⟩ := h
  have hSz : ∀ b, S b → ¬ Z b := fun b e z => (hx.zs b z).2.1 e
  unfold appE appL
  by_cases hk : k2 = k ∧ s2 = s
  · obtain ⟨rfl, rfl⟩ := hk
    rw [if_pos ⟨rfl, rfl⟩, if_pos ⟨rfl, rfl⟩]
    have hb2 : Brought k2 s2 r 120 := ⟨hr.1, fun v hv => ⟨(hr.2 v hv).1, Nat.le_trans (hr.2 v hv).2 (by decide)⟩⟩
    exact (append_of ho S bl ec ((hB.app hb2).few hn) B D E X va hL.1 W hx.bs (fun W' hk => hL.2 W' (hk.mono (fun b e _ => hSz b e)))).mono fun e W' hs => went_b hx hs
  · rw [if_neg hk, if_neg hk]
    have hf : Few r ∧ ∀ v ∈ r, vOK k2 s2 v := ⟨⟨by have := hr.1; omega, fun v hv => Nat.le_trans (hr.2 v hv).2 (by decide)⟩, fun v hv => (hr.2 v hv).1⟩
    have hbf : BF k2 s2 r c := by rw [ec]; exact built_facts ho2 hf.1 hf.2
    refine (append_no S bl k s _ c hbf.cok B D E X va hbf.chk (fun h => hk ⟨hbf.k ▸ h.1, hbf.s ▸ h.2⟩) W hx.bs (hL.2 W (Kept.refl _ _))).mono fun e W' hs => Went.of_below ⟨S, T, R, hx⟩ hs.1 hs.2
theorem cb_rappend (ho : okType k s = true) {k2 s2 : Int} (ho2 : okType k2 s2 = true) (h : CB w W Z bl rb bk k s lb lr) (hn : lr.length + 120 ≤ 20000) {r : List V} (hr : r.length ≤ 120 ∧ ∀ v ∈ r, vOK k2 s2 v ∧ v.text.length ≤ 40) {c : Col} (ec : c = colOf k2 s2 r) {B D E X : SL} {va : List Value} (hL : Lent Z W c B D E X va) :
    Calls Tryz.prog 29 #[.pointer (some ⟨rb, 0, none⟩), colV c B D E X] W (Went w Z bl rb bk k s lb (appL k s k2 s2 lr r) (.int .i64 (appE k s k2 s2)) W) := by
  obtain ⟨S, T, R, hx⟩ := h
  have hSz : ∀ b, R b → ¬ Z b := fun b e z => (hx.zs b z).2.2.2 e
  have hf : Few r ∧ ∀ v ∈ r, vOK k2 s2 v := ⟨⟨by have := hr.1; omega, fun v hv => Nat.le_trans (hr.2 v hv).2 (by decide)⟩, fun v hv => (hr.2 v hv).1⟩
  have hsm : Small18 c := by rw [ec]; exact small_col hr
  unfold appE appL
  by_cases hk : k2 = k ∧ s2 = s
  · obtain ⟨rfl, rfl⟩ := hk
    rw [if_pos ⟨rfl, rfl⟩, if_pos ⟨rfl, rfl⟩]
    exact (rappend_yes ho R rb lr r c ec hf hsm (by have := hr.1; omega) B D E X va W hx.rb (fun W' hk => hL.2 W' (hk.mono (fun b e _ => hSz b e)))).mono fun e W' hs => went_r hx hs
  · rw [if_neg hk, if_neg hk]
    have hbf : BF k2 s2 r c := by rw [ec]; exact built_facts ho2 hf.1 hf.2
    refine (rappend_no R rb lr r c hbf.cok (by rw [ec]; exact read_built ho2 r hf.2 (by have := hr.1; omega)) hsm (fun h => hk ⟨hbf.k ▸ h.1, hbf.s ▸ h.2⟩) B D E X va W hx.rb (hL.2 W (Kept.refl _ _))).mono fun e W' hs => Went.of_below ⟨S, T, R, hx⟩ hs.1 hs.2
theorem cb_back (ho : okType k s = true) (h : CB w W Z bl rb bk k s lb lr) {m : Nat} (hB : Brought k s lb m) (hm : m ≤ 20000) (n : Int) : Calls Tryz.prog 31 #[.pointer (some ⟨bl, 0, none⟩), .int .i64 n] W (Went w Z bl rb bk k s (backL lb n) lr (.int .i64 (backE lb.length n)) W) := by
  obtain ⟨S, T, R, hx⟩ := h
  unfold backE backL
  by_cases hn : 0 ≤ n ∧ n ≤ (lb.length : Int)
  · rw [if_pos hn, if_pos hn]
    obtain ⟨j, rfl⟩ := Int.eq_ofNat_of_zero_le hn.1
    rw [Int.toNat_natCast]
    obtain ⟨hf, hl⟩ := hB.few hm
    exact (back_BS S bl k s lb ho hf hl j (by omega) W hx.bs).mono fun e W' hs => went_b hx hs
  · rw [if_neg hn, if_neg hn]
    have hl : (CS.of k lb).nulls.length = lb.length := by rw [nulls_of]; simp
    have := hB.1
    exact (back_no S bl k s _ n (by omega) (by omega) W hx.bs).mono fun e W' hs => Went.of_below ⟨S, T, R, hx⟩ hs.1 hs.2
theorem cb_rback (h : CB w W Z bl rb bk k s lb lr) (hm : lr.length ≤ 20000) (n : Int) : Calls Tryz.prog 32 #[.pointer (some ⟨rb, 0, none⟩), .int .i64 n] W (Went w Z bl rb bk k s lb (backL lr n) (.int .i64 (backE lr.length n)) W) := by
  obtain ⟨S, T, R, hx⟩ := h
  unfold backE backL
  by_cases hn : 0 ≤ n ∧ n ≤ (lr.length : Int)
  · rw [if_pos hn, if_pos hn]
    obtain ⟨j, rfl⟩ := Int.eq_ofNat_of_zero_le hn.1
    rw [Int.toNat_natCast]
    exact (rback_yes R rb k s lr j (by omega) (by omega) W hx.rb).mono fun e W' hs => went_r hx hs
  · rw [if_neg hn, if_neg hn]
    exact (rback_no R rb k s lr n (by omega) (by omega) W hx.rb).mono fun e W' hs => Went.of_below ⟨S, T, R, hx⟩ hs.1 hs.2
theorem cb_len (h : CB w W Z bl rb bk k s lb lr) : Calls Tryz.prog 33 #[.pointer (some ⟨bl, 0, none⟩)] W fun e W' => e = .returned (.int .i64 (lb.length : Int)) ∧ W = W' := by
  obtain ⟨S, T, R, hx⟩ := h
  have hl : (CS.of k lb).nulls.length = lb.length := by rw [nulls_of]; simp
  have := len_BS S bl k s _ W hx.bs
  rwa [hl] at this
theorem cb_column (h : CB w W Z bl rb bk k s lb lr) {m : Nat} (hB : Brought k s lb m) (hm : m ≤ 20000) {c : Col} (ec : c = colOf k s lb) : Calls Tryz.prog 34 #[.pointer (some ⟨bl, 0, none⟩)] W (ColBP c W) := by
  obtain ⟨S, T, R, hx⟩ := h
  exact column_of (hB.few hm).1 S bl ec W hx.bs
/-- The document's rows, as they lie. -/
theorem cb_rows (h : CB w W Z bl rb bk k s lb lr) : ∃ A : SL, W.cell? ⟨rb, 0, none⟩ = some (.int .i64 k) ∧ W.cell? ⟨rb, 1, none⟩ = some (.int .i64 s) ∧ W.cell? ⟨rb, 2, none⟩ = some (.slice A.a lr.length A.c) ∧ RdVs W A lr := by
  obtain ⟨S, T, R, hx⟩ := h
  obtain ⟨A, xs, h1⟩ := hx.rb
  obtain ⟨c0, c1, c2, c3⟩ := h1.cells
  exact ⟨A, c0, c1, c2, h1.vals⟩
theorem cb_keep (h : CB w W Z bl rb bk k s lb lr) {W1 : World} (hb : Below W.heap.size W W1) {c : Col} (hc : COK c) {B D E X : SL} {va : List Value} (ho : OwnC W1 W.heap.size c B D E X va) :
    Calls Tryz.prog 35 #[.pointer (some ⟨bk, 0, none⟩), colV c B D E X] W1 (Went w Z bl rb bk k s lb lr (.tuple #[]) W1) := by
  obtain ⟨S, T, R, hx⟩ := h
  exact (keep_col T bk c B D E X va W.heap.size (fun b e => hx.lt b (.inr (.inl e))) hc.data hc.bits (fun t ht => (hc.words t ht).1) hc.ld hc.lb hc.le (fun t ht => (hc.words t ht).2) hc.lw W1 hb.size (hx.bk.below hb) ho).mono fun e W' hs => went_k hx hb hs.1 hs.2.1 hs.2.2
end
end Go.Proofs.YtmhjjhaipcgbiaaGreat


/- Within, Kind. -/
namespace Go.Proofs.YtmhjjhaipcgbiaaGreat
open Go.RowKit
set_option linter.unusedVariables false
set_option linter.unusedSimpArgs false
set_option maxRecDepth 100000
set_option maxHeartbeats 1000000

theorem tm_neg (n m : Int) (hm : 0 < m) (h : n.tmod m < 0) : n % m = n.tmod m + m ∧ -m < n.tmod m := by
  rw [Int.tmod_eq_emod] at *
  have := Int.emod_nonneg n (show m ≠ 0 by omega)
  have := Int.emod_lt_of_pos n hm
  split at h
  · omega
  · rename_i h2
    rw [if_neg h2]
    have : ((m.natAbs : Nat) : Int) = m := Int.natAbs_of_nonneg (by omega)
    have h3 : n % m ≠ 0 := fun e => h2 (.inr (Int.dvd_of_emod_eq_zero e))
    omega
theorem tm_pos (n m : Int) (hm : 0 < m) (h : ¬ n.tmod m < 0) : n % m = n.tmod m ∧ n.tmod m < m := by
  rw [Int.tmod_eq_emod] at *
  have := Int.emod_nonneg n (show m ≠ 0 by omega)
  have := Int.emod_lt_of_pos n hm
  split at h
  · rename_i h2
    rw [if_pos h2]
    omega
  · rename_i h2
    have : ((m.natAbs : Nat) : Int) = m := Int.natAbs_of_nonneg (by omega)
    omega

/-- A number within bounds, out of any. -/
def withinI (n lo hi : Int) : Int := lo + n % (hi - lo + 1)
theorem within_any (n lo hi : Int) (h0 : 0 ≤ lo) (h1 : lo ≤ hi) (h2 : hi ≤ 1000000) (w : World) : Calls Tryz.prog 15 #[.int .i64 n, .int .i64 lo, .int .i64 hi] w fun e w' => e = .returned (.int .i64 (withinI n lo hi)) ∧ w = w' := by
  have hm1' : 0 < hi - lo + 1 := by omega
  by_cases ht : n.tmod (hi - lo + 1) < 0
  · have hb := tm_neg n _ hm1' ht
    have hb1 : -1000001 < n.tmod (hi - lo + 1) := by omega
    have hb := Aside.mk hb
    go_enter Tryz.func15, Tryz.ntmps15
    go_wp2
    go_ret
    refine ⟨ret_int ?_, rfl⟩
    have := hb.out
    unfold withinI
    omega
  · have hb := tm_pos n _ hm1' ht
    have hb1 : n.tmod (hi - lo + 1) < 1000001 := by omega
    have hb := Aside.mk hb
    go_enter Tryz.func15, Tryz.ntmps15
    go_wp2
    go_ret
    refine ⟨ret_int ?_, rfl⟩
    have := hb.out
    unfold withinI
    omega

end Go.Proofs.YtmhjjhaipcgbiaaGreat


/- Kind: the type that a number leads to. -/
namespace Go.Proofs.YtmhjjhaipcgbiaaGreat
open Go.RowKit
set_option linter.unusedVariables false
set_option linter.unusedSimpArgs false
set_option maxRecDepth 100000
set_option maxHeartbeats 200000

theorem within_1 (n : Int) (w : World) : Calls Tryz.prog 15 #[.int .i64 n, .int .i64 1, .int .i64 16] w fun e w' => e = .returned (.int .i64 (withinI n 1 16)) ∧ w = w' := within_any n 1 16 (by omega) (by omega) (by omega) w
theorem within_0 (n : Int) (w : World) : Calls Tryz.prog 15 #[.int .i64 n, .int .i64 0, .int .i64 18] w fun e w' => e = .returned (.int .i64 (withinI n 0 18)) ∧ w = w' := within_any n 0 18 (by omega) (by omega) (by omega) w
/-- The type that a number leads to. -/
def kindI (n : Int) : Int := withinI n 1 16
def scaleI (n : Int) : Int := if kindI n = 12 then withinI (n / 16) 0 18 else 0
theorem kind_any (n : Int) (w : World) : Calls Tryz.prog 24 #[.int .i64 n] w fun e w' => e = .returned (.agg #[.int .i64 (kindI n), .int .i64 (scaleI n)]) ∧ Below w.heap.size w w' := by
  by_cases h : kindI n = 12
  · have hk : withinI n 1 16 = 12 := h
    have hs : Aside (scaleI n = withinI (n / 16) 0 18) := ⟨by unfold scaleI; rw [if_pos h]⟩
    have hk := Aside.mk hk
    clear h
    go_enter Tryz.func24, Tryz.ntmps24
    go_wp2_with (fail)
    refine (within_1 _ _).mono ?_
    rintro e w1 ⟨rfl, rfl⟩
    rw [hk.out]
    go_wp2_with (fail)
    refine (within_0 _ _).mono ?_
    rintro e w1 ⟨rfl, rfl⟩
    go_wp2_with (fail)
    refine bodyPost_ret (v := .agg #[.int .i64 12, .int .i64 (withinI (n / 16) 0 18)]) (by simp [results, Tryz.results24, go_sem]) rfl ⟨?_, (by repeat (first | exact Below.refl _ _ | assumption | (refine Below.drew ?_) | (refine Below.trans ?_ (below_drewN _ _ _)) | (refine Below.alloc ?_ (by first | omega | (simp; done) | (simp; omega)) _) | (refine Below.setCell ?_ (by first | omega | (simp; done) | (simp; omega)) _)))⟩
    rw [hs.out, kindI, hk.out]
  · have hk : (withinI n 1 16 == 12) = false := by simpa [kindI] using h
    have hs : Aside (scaleI n = 0) := ⟨by unfold scaleI; rw [if_neg h]⟩
    have hu : Aside (kindI n = withinI n 1 16) := ⟨rfl⟩
    clear h
    go_enter Tryz.func24, Tryz.ntmps24
    go_wp2_with (fail)
    refine (within_1 _ _).mono ?_
    rintro e w1 ⟨rfl, rfl⟩
    go_wp2_with (fail)
    refine bodyPost_ret (v := .agg #[.int .i64 (withinI n 1 16), .int .i64 0]) (by simp [results, Tryz.results24, go_sem]) rfl ⟨?_, (by repeat (first | exact Below.refl _ _ | assumption | (refine Below.drew ?_) | (refine Below.trans ?_ (below_drewN _ _ _)) | (refine Below.alloc ?_ (by first | omega | (simp; done) | (simp; omega)) _) | (refine Below.setCell ?_ (by first | omega | (simp; done) | (simp; omega)) _)))⟩
    rw [hs.out, hu.out]
theorem kind_ok (n : Int) : okType (kindI n) (scaleI n) = true := by
  unfold okType scaleI kindI withinI
  simp only [decide_eq_true_eq]
  split <;> omega
end Go.Proofs.YtmhjjhaipcgbiaaGreat


/- What a law's arguments hold: data of plain shapes, read out of the row's own reading. Over any program. -/
namespace Go.Proofs.YtmhjjhaipcgbiaaGreat
open Go.RowKit Go.ChangeShapes
set_option linter.unusedVariables false
set_option linter.unusedSimpArgs false

/-- The shapes of plain data. A struct is 'st' of a row of fields, 'cons' by 'cons'. -/
inductive Sh where
  | int (k : IntKind) | bool | str | sl (e : Sh) | st (fs : Sh) | nil | cons (f r : Sh)

namespace Sh
def size : Sh → Nat
  | int _ => 1 | bool => 1 | str => 1 | sl _ => 1 | st fs => fs.size | nil => 0 | cons f r => f.size + r.size
/-- Is it a row of fields? -/
def fields : Sh → Bool
  | nil => true | cons _ _ => true | _ => false
/-- A shape is a type's; 'nil' and 'cons' are a list of fields', from an offset on. -/
def ok (P : Program) : Sh → TypeId → List Field → Nat → Prop
  | int k, t, _, _ => P.underlying t = some (.int k)
  | bool, t, _, _ => P.underlying t = some .bool
  | str, t, _, _ => P.underlying t = some .string
  | sl e, t, _, _ => ∃ te, P.underlying t = some (.slice te) ∧ P.cellsOf te = e.size ∧ 0 < e.size ∧ e.fields = false ∧ e.ok P te [] 0
  | st fs, t, _, _ => ∃ fl : Array Field, P.underlying t = some (.struct fl) ∧ P.cellsOf t = fs.size ∧ fs.fields = true ∧ fs.ok P 0 fl.toList 0
  | nil, _, fl, _ => fl = []
  | cons f r, _, fl, o => ∃ fd rest, fl = fd :: rest ∧ fd.offset = o ∧ P.cellsOf fd.type = f.size ∧ f.fields = false ∧ r.fields = true ∧ f.ok P fd.type [] 0 ∧ r.ok P 0 rest (o + f.size)
/-- What is read. -/
def M : Sh → Type
  | int _ => Int | bool => Bool | str => ByteArray | sl e => List e.M | st fs => fs.M | nil => Unit | cons f r => f.M × r.M
def Reads (w : World) : (s : Sh) → List Value → s.M → Prop
  | int k, cs, n => cs = [.int k n] ∧ (Lit.int k n).wf = true
  | bool, cs, b => cs = [.bool b]
  | str, cs, s => cs = [.string s] ∧ ByteArray.size s ≤ maxLen
  | sl e, cs, l => ∃ a cap, cs = [.slice a (List.length l) cap] ∧ List.length l ≤ cap ∧ cap ≤ maxLen ∧ (a = none → List.length l = 0 ∧ cap = 0) ∧
      ∀ i (h : i < List.length l), ∃ b off cs', a = some ⟨b, off, none⟩ ∧ cs'.length = e.size ∧ (∀ j u, cs'[j]? = some u → w.cell? ⟨b, off + i * e.size + j, none⟩ = some u) ∧ e.Reads w cs' (List.get l ⟨i, h⟩)
  | st fs, cs, m => fs.Reads w cs m
  | nil, cs, _ => cs = []
  | cons f r, cs, m => ∃ c1 c2, cs = c1 ++ c2 ∧ c1.length = f.size ∧ f.Reads w c1 m.1 ∧ r.Reads w c2 m.2
/-- What is read, as the row's data (one datum; of fields: a list of them). -/
def Dat {H : Type} : (s : Sh) → s.M → List (DataW H) → Prop
  | int k, n, ds => ds = [.lit (.int k n)]
  | bool, b, ds => ds = [.lit (.bool b)]
  | str, s, ds => ds = [.lit (.string (ByteArray.data s).toList)]
  | sl e, l, ds => (List.length l = 0 ∧ ds = [.nil]) ∨ ∃ els rest, ds = [.slice els rest] ∧ List.length els = List.length l ∧ ∀ i (h : i < List.length l) (h' : i < List.length els), e.Dat (List.get l ⟨i, h⟩) [List.get els ⟨i, h'⟩]
  | st fs, m, ds => ∃ ds', ds = [.agg ds'] ∧ fs.Dat m ds'
  | nil, _, ds => ds = []
  | cons f r, m, ds => ∃ d rest, ds = d :: rest ∧ f.Dat m.1 [d] ∧ r.Dat m.2 rest

section
variable {H : Type} {enc : TypeId × Value → H} {P : Program} {w : World} {base : Nat} {spare : Nat → Bool} {held : Bool}

theorem cells?_get {a : Addr} {n : Nat} {cs : List Value} (h : w.cells? base a n = some cs) : cs.length = n ∧ ∀ j u, cs[j]? = some u → w.cell? (a.add j) = some u := by
  unfold World.cells? at h
  split at h
  · have hl := mapM_some_length h
    simp at hl
    refine ⟨hl, fun j u hu => ?_⟩
    have hj : j < n := by have := (List.getElem?_eq_some_iff.1 hu).1; omega
    have := mapM_some_get h j j (by simp [hj])
    rw [this]; exact hu
  · cases h

theorem reads_of_trod (s : Sh) : (∀ (t : TypeId) (fuel : Nat) (cs : List Value) (x : DataW H × List MemPlace), s.ok P t [] 0 → s.fields = false → DataW.trod enc P w base spare held fuel t cs = some x → ∃ m, s.Reads w cs m ∧ s.Dat m [x.1]) ∧
    (∀ (fl : List Field) (o n : Nat) (cs : List Value) (xs : List (DataW H × List MemPlace)), s.ok P 0 fl o → s.fields = true → o + s.size ≤ cs.length → xs.length = fl.length →
      (∀ (i : Nat) (f : Field), fl[i]? = some f → DataW.trod enc P w base spare held n f.type ((cs.drop f.offset).take (P.cellsOf f.type)) = xs[i]?) → ∃ m, s.Reads w ((cs.drop o).take s.size) m ∧ s.Dat m (xs.map (·.1))) := by
  induction s with
  | int k =>
    refine ⟨fun t fuel cs x hok _ h => ?_, (fun _ _ _ _ _ _ h => (by cases h))⟩
    obtain ⟨n, h1, h2, h3⟩ := DataW.trod_int hok h
    exact ⟨n, ⟨h1, h3⟩, by rw [h2]; rfl⟩
  | bool =>
    refine ⟨fun t fuel cs x hok _ h => ?_, (fun _ _ _ _ _ _ h => (by cases h))⟩
    obtain ⟨b, h1, h2⟩ := DataW.trod_bool hok h
    exact ⟨b, h1, by rw [h2]; rfl⟩
  | str =>
    refine ⟨fun t fuel cs x hok _ h => ?_, (fun _ _ _ _ _ _ h => (by cases h))⟩
    obtain ⟨b, h1, h2, h3⟩ := DataW.trod_string hok h
    exact ⟨b, ⟨h1, h3⟩, by rw [h2]; rfl⟩
  | sl e ih =>
    refine ⟨fun t fuel cs x hok _ h => ?_, (fun _ _ _ _ _ _ h => (by cases h))⟩
    obtain ⟨te, ht, hc, hp, hne, hoe⟩ := hok
    rcases Go.Deep.open_slice ht h with ⟨rfl, rfl⟩ | ⟨a, len, cap, m, n, D, Pl, rfl, hb, hl, hm, hmm, rfl, hx⟩
    · exact ⟨[], ⟨none, 0, rfl, Nat.le_refl _, by decide, fun _ => ⟨rfl, rfl⟩, fun i h => absurd h (by simp)⟩, .inl ⟨rfl, rfl⟩⟩
    · have hml : len ≤ m := by rw [hmm]; split <;> omega
      have key : ∀ i, i < len → ∃ md : e.M, (∃ b off cs', a = ⟨b, off, none⟩ ∧ cs'.length = e.size ∧ (∀ j u, cs'[j]? = some u → w.cell? ⟨b, off + i * e.size + j, none⟩ = some u) ∧ e.Reads w cs' md) ∧ e.Dat md [D i] := by
        intro i hi
        obtain ⟨cs', h1, h2⟩ := hx i (by omega)
        obtain ⟨h3, h4⟩ := cells?_get h1
        obtain ⟨md, h5, h6⟩ := ih.1 te n cs' _ hoe hne h2
        obtain ⟨cs0, g1, _⟩ := hx 0 (by omega)
        obtain ⟨g3, g4⟩ := cells?_get g1
        obtain ⟨b, off, sp⟩ := a
        have hsp : sp = none := by
          have := g4 0 (cs0[0]'(by rw [g3, hc]; exact hp)) (List.getElem?_eq_getElem _)
          have := World.cell?_spot this
          simpa [Addr.add] using this
        subst hsp
        refine ⟨md, ⟨b, off, cs', rfl, by rw [h3, hc], fun j u hu => ?_, h5⟩, h6⟩
        have := h4 j u hu
        rw [addr_add, addr_add, hc] at this
        exact this
      have hch : ∃ l : List e.M, l.length = len ∧ ∀ i (h : i < l.length), (∃ b off cs', a = ⟨b, off, none⟩ ∧ cs'.length = e.size ∧ (∀ j u, cs'[j]? = some u → w.cell? ⟨b, off + i * e.size + j, none⟩ = some u) ∧ e.Reads w cs' (l.get ⟨i, h⟩)) ∧ e.Dat (l.get ⟨i, h⟩) [D i] := by
        clear hx hmm hml hl h
        induction len with
        | zero => exact ⟨[], rfl, fun i h => absurd h (by simp)⟩
        | succ len ih2 =>
          obtain ⟨l, hl1, hl2⟩ := ih2 (fun i hi => key i (by omega))
          obtain ⟨md, hmd⟩ := key len (by omega)
          refine ⟨l ++ [md], by simp [hl1], fun i h => ?_⟩
          by_cases hi : i < l.length
          · have : (l ++ [md]).get ⟨i, h⟩ = l.get ⟨i, hi⟩ := by simp [List.getElem_append_left hi]
            rw [this]; exact hl2 i hi
          · have hi' : i = len := by simp at h; omega
            subst hi'
            have : (l ++ [md]).get ⟨i, h⟩ = md := by simp [← hl1]
            rw [this]; exact hmd
      obtain ⟨l, hl1, hl2⟩ := hch
      refine ⟨l, ⟨some a, cap, by rw [hl1], by omega, hm, (fun e => by cases e), fun i h => ?_⟩, .inr ⟨_, _, rfl, by simp [hl1], fun i h h' => ?_⟩⟩
      · obtain ⟨⟨b, off, cs', rfl, r⟩, _⟩ := hl2 i h
        exact ⟨b, off, cs', rfl, r⟩
      · have := (hl2 i h).2
        simpa using this
  | st fs ih =>
    refine ⟨fun t fuel cs x hok _ h => ?_, (fun _ _ _ _ _ _ h => (by cases h))⟩
    obtain ⟨fl, ht, hc, hne, hof⟩ := hok
    obtain ⟨xs, n, _, rfl, hl, hlen, hf⟩ := DataW.trod_struct ht h
    obtain ⟨m, h1, h2⟩ := ih.2 fl.toList 0 n cs xs hof hne (by omega) (by simp [hlen]) (fun i f hi => hf i f (by simpa using hi))
    refine ⟨m, ?_, ⟨_, rfl, h2⟩⟩
    rw [List.drop_zero, List.take_of_length_le (by omega)] at h1
    exact h1
  | nil =>
    refine ⟨(fun _ _ _ _ _ h => (by cases h)), fun fl o n cs xs hok _ hl hx hf => ?_⟩
    have hfl : fl = [] := hok
    subst hfl
    exact ⟨(), by simp [Reads, size], by simp [Dat]; exact List.length_eq_zero_iff.1 hx⟩
  | cons f r ihf ihr =>
    refine ⟨(fun _ _ _ _ _ h => (by cases h)), fun fl o n cs xs hok _ hl hx hf => ?_⟩
    obtain ⟨fd, rest, rfl, ho, hc, hf1, hr1, h1, h2⟩ := hok
    match xs, hx with
    | x :: xs, hx =>
      simp only [size] at hl
      have g0 := hf 0 fd rfl
      rw [ho, hc] at g0
      obtain ⟨m1, g1, g2⟩ := ihf.1 fd.type n _ x h1 hf1 g0
      obtain ⟨m2, g3, g4⟩ := ihr.2 rest (o + f.size) n cs xs h2 hr1 (by omega) (by simpa using hx) (fun i fd' hi => hf (i + 1) fd' hi)
      refine ⟨(m1, m2), ⟨_, _, ?_, ?_, g1, g3⟩, ⟨x.1, xs.map (·.1), rfl, g2, g4⟩⟩
      · simp only [size]
        rw [List.take_add, List.drop_drop]
      · rw [List.length_take, List.length_drop]; omega
end
end Sh
end Go.Proofs.YtmhjjhaipcgbiaaGreat


/- Rows of values among a law's arguments. -/
namespace Go.Proofs.YtmhjjhaipcgbiaaGreat
open Go.RowKit
set_option linter.unusedVariables false
set_option linter.unusedSimpArgs false

/-- The shape of a row of values. -/
abbrev shVal : Sh := .st (.cons .bool (.cons (.int .u64) (.cons (.sl (.int .u8)) .nil)))
def toV (m : Sh.M shVal) : V := ⟨m.1, m.2.1.toNat, m.2.2.1⟩

theorem u64_wf {b : Int} (h : (Lit.int .u64 b).wf = true) : 0 ≤ b ∧ b ≤ 18446744073709551615 := by
  simp [Lit.wf] at h
  have h1 : IntKind.u64.min = 0 := by decide
  have h2 : IntKind.u64.max = 18446744073709551615 := by decide
  omega

theorem u8_wf {b : Int} (h : (Lit.int .u8 b).wf = true) : 0 ≤ b ∧ b < 256 := by
  simp [Lit.wf] at h
  have h1 : IntKind.u8.min = 0 := by decide
  have h2 : IntKind.u8.max = 255 := by decide
  omega

theorem rd_of_sl {w : World} {cs : List Value} {l : List Int} (h : Sh.Reads w (.sl (.int .u8)) cs l) : ∃ a cap, cs = [.slice a l.length cap] ∧ Rd w 1 (.slice a l.length cap) l.length (l.map (.int .u8)) ∧ IsBytes l ∧ l.length ≤ 9223372036854775807 := by
  obtain ⟨a, cap, rfl, h1, h2, h3, h4⟩ := h
  refine ⟨a, cap, rfl, ⟨by simp, a, cap, rfl, h1, h2, h3, fun j u hu => ?_⟩, fun x hx => ?_, by unfold maxLen at h2; exact Nat.le_trans h1 h2⟩
  · rw [List.getElem?_map] at hu
    cases hj : l[j]? with
    | none => rw [hj] at hu; cases hu
    | some y =>
      rw [hj] at hu
      cases hu
      obtain ⟨hlt, rfl⟩ := List.getElem?_eq_some_iff.1 hj
      obtain ⟨b, off, cs', e, _, hc, hr, _⟩ := h4 j hlt
      refine ⟨b, off, e, ?_⟩
      have := hc 0 _ (by rw [hr]; rfl)
      rw [show off + j * Sh.size (.int .u8) + 0 = off + j by show off + j * 1 + 0 = _; omega] at this
      exact this
  · obtain ⟨i, hi, rfl⟩ := List.mem_iff_getElem.1 hx
    obtain ⟨b, off, cs', e, _, hc, hr, hw⟩ := h4 i hi
    exact u8_wf hw

theorem rdvs_of_sl {w : World} {cs : List Value} {l : List (Sh.M shVal)} (h : Sh.Reads w (.sl shVal) cs l) : ∃ A : SL, cs = [.slice A.a (l.map toV).length A.c] ∧ RdVs w A (l.map toV) ∧ (l.map toV).length ≤ 9223372036854775807 ∧ ∀ v ∈ l.map toV, IsBytes v.text ∧ v.bits < 18446744073709551616 ∧ v.text.length ≤ 9223372036854775807 := by
  obtain ⟨a, cap, rfl, h1, h2, h3, h4⟩ := h
  have key : ∀ i, ∃ p : Option Addr × Nat, ∀ (hi : i < l.length), ∃ b off, a = some ⟨b, off, none⟩ ∧ w.cell? ⟨b, off + i * 3 + 0, none⟩ = some (.bool (toV (l.get ⟨i, hi⟩)).null) ∧ w.cell? ⟨b, off + i * 3 + 1, none⟩ = some (.int .u64 ((toV (l.get ⟨i, hi⟩)).bits : Int)) ∧
      w.cell? ⟨b, off + i * 3 + 2, none⟩ = some (.slice p.1 (toV (l.get ⟨i, hi⟩)).text.length p.2) ∧ Rd w 1 (.slice p.1 (toV (l.get ⟨i, hi⟩)).text.length p.2) (toV (l.get ⟨i, hi⟩)).text.length ((toV (l.get ⟨i, hi⟩)).text.map (.int .u8)) ∧
      IsBytes (toV (l.get ⟨i, hi⟩)).text ∧ (toV (l.get ⟨i, hi⟩)).bits < 18446744073709551616 ∧ (toV (l.get ⟨i, hi⟩)).text.length ≤ 9223372036854775807 := by
    intro i
    by_cases hi : i < l.length
    · obtain ⟨b, off, cs', e, hl, hc, hr⟩ := h4 i hi
      obtain ⟨c1, c2, e1, _, r1, c3, c4, e2, _, ⟨r2, wf⟩, c5, c6, e3, _, r3, r4⟩ := hr
      obtain ⟨ta, tc, e4, hrd, hby, hlm⟩ := rd_of_sl r3
      have hcs : cs' = [.bool (l.get ⟨i, hi⟩).1, .int .u64 (l.get ⟨i, hi⟩).2.1, .slice ta (l.get ⟨i, hi⟩).2.2.1.length tc] := by
        rw [e1, show c1 = [.bool (l.get ⟨i, hi⟩).1] from r1, e2, r2, e3, e4, show c6 = [] from r4]; rfl
      have hb := u64_wf wf
      have hnat : (((toV (l.get ⟨i, hi⟩)).bits : Nat) : Int) = (l.get ⟨i, hi⟩).2.1 := Int.toNat_of_nonneg hb.1
      refine ⟨(ta, tc), fun _ => ⟨b, off, e, ?_, ?_, ?_, hrd, hby, ?_, hlm⟩⟩
      · exact hc 0 _ (by rw [hcs]; rfl)
      · rw [hnat]; exact hc 1 _ (by rw [hcs]; rfl)
      · exact hc 2 _ (by rw [hcs]; rfl)
      · show (l.get ⟨i, hi⟩).2.1.toNat < _
        omega
    · exact ⟨(none, 0), fun h => absurd h hi⟩
  obtain ⟨f, hf⟩ := Classical.axiomOfChoice key
  have hlen : (l.map toV).length = l.length := List.length_map ..
  refine ⟨⟨a, cap⟩, by rw [hlen], ?_, by rw [hlen]; unfold maxLen at h2; exact Nat.le_trans h1 h2, ?_⟩
  · let row : Nat → List Value := fun i => if hi : i < l.length then [.bool (toV (l.get ⟨i, hi⟩)).null, .int .u64 ((toV (l.get ⟨i, hi⟩)).bits : Int), .slice (f i).1 (toV (l.get ⟨i, hi⟩)).text.length (f i).2] else [.bool false, .bool false, .bool false]
    have hrow : ∀ i, (row i).length = 3 := fun i => by show (dite _ _ _ : List Value).length = 3; split <;> rfl
    have hget : ∀ i (hi : i < l.length) j, j < 3 → ((List.range l.length).flatMap row)[i * 3 + j]? = [Value.bool (toV (l.get ⟨i, hi⟩)).null, .int .u64 ((toV (l.get ⟨i, hi⟩)).bits : Int), .slice (f i).1 (toV (l.get ⟨i, hi⟩)).text.length (f i).2][j]? := fun i hi j hj => by
      rw [flatMap_get row 3 hrow (List.range l.length) i j (by simpa using hi) hj, List.getElem_range]
      show (dite _ _ _ : List Value)[j]? = _
      rw [dif_pos hi]
    have hxl : ((List.range l.length).flatMap row).length = l.length * 3 := by rw [flatMap_len row 3 hrow, List.length_range]
    refine ⟨(List.range l.length).flatMap row, ?_, fun i v hv => ?_⟩
    · rw [hlen]
      refine ⟨hxl, a, cap, rfl, h1, h2, h3, fun m u hu => ?_⟩
      have hm := (List.getElem?_eq_some_iff.1 hu).1
      have hi : m / 3 < l.length := by omega
      obtain ⟨b, off, e, q0, q1, q2, _⟩ := hf (m / 3) hi
      refine ⟨b, off, e, ?_⟩
      have hm3 : m = m / 3 * 3 + m % 3 := by omega
      have hr : m % 3 < 3 := Nat.mod_lt _ (by decide)
      rw [hm3, hget _ hi _ hr] at hu
      rcases get3 _ _ _ _ _ hu with ⟨e3, rfl⟩ | ⟨e3, rfl⟩ | ⟨e3, rfl⟩
      · rw [show off + m = off + m / 3 * 3 + 0 by omega]; exact q0
      · rw [show off + m = off + m / 3 * 3 + 1 by omega]; exact q1
      · rw [show off + m = off + m / 3 * 3 + 2 by omega]; exact q2
    · rw [List.getElem?_map] at hv
      obtain ⟨x, hx, rfl⟩ := Option.map_eq_some_iff.1 hv
      obtain ⟨hi, rfl⟩ := List.getElem?_eq_some_iff.1 hx
      obtain ⟨b, off, e, q0, q1, q2, q3, _⟩ := hf i hi
      exact ⟨(f i).1, (f i).2, hget i hi 0 (by decide), hget i hi 1 (by decide), hget i hi 2 (by decide), q3⟩
  · intro v hv
    obtain ⟨x, hx, rfl⟩ := List.mem_map.1 hv
    obtain ⟨i, hi, rfl⟩ := List.mem_iff_getElem.1 hx
    obtain ⟨_, _, _, _, _, _, _, q4, q5, q6⟩ := hf i hi
    exact ⟨q4, q5, q6⟩

end Go.Proofs.YtmhjjhaipcgbiaaGreat


/- ColumnBuilds: the script as it lies; what the loop holds. -/
namespace Go.Proofs.YtmhjjhaipcgbiaaGreat
open Go.RowKit
set_option linter.unusedVariables false
set_option linter.unusedSimpArgs false
set_option maxRecDepth 100000
set_option maxHeartbeats 1000000

/-- A step of the script. -/
structure StM where
  kind : Int
  n : Int
  ty : Int
  v : V
  l : List V
def StOK (st : StM) : Prop := (IsI64 st.kind ∧ IsI64 st.n ∧ IsI64 st.ty) ∧ (IsBytes st.v.text ∧ st.v.bits < 18446744073709551616 ∧ st.v.text.length ≤ 9223372036854775807) ∧ st.l.length ≤ 9223372036854775807 ∧ ∀ v ∈ st.l, IsBytes v.text ∧ v.bits < 18446744073709551616 ∧ v.text.length ≤ 9223372036854775807
/-- The i-th step, as it lies. -/
structure StAt (w : World) (A : SL) (N i : Nat) (st : StM) (g off : Nat) (ta : Option Addr) (tc : Nat) (L : SL) : Prop where
  e : A.a = some ⟨g, off, none⟩
  room : N ≤ A.c
  max : A.c ≤ 9223372036854775807
  c0 : w.cell? ⟨g, off + i * 7, none⟩ = some (.int .i64 st.kind)
  c1 : w.cell? ⟨g, off + i * 7 + 1, none⟩ = some (.int .i64 st.n)
  c2 : w.cell? ⟨g, off + i * 7 + 2, none⟩ = some (.int .i64 st.ty)
  c3 : w.cell? ⟨g, off + i * 7 + 3, none⟩ = some (.bool st.v.null)
  c4 : w.cell? ⟨g, off + i * 7 + 4, none⟩ = some (.int .u64 (st.v.bits : Int))
  c5 : w.cell? ⟨g, off + i * 7 + 5, none⟩ = some (.slice ta st.v.text.length tc)
  c6 : w.cell? ⟨g, off + i * 7 + 6, none⟩ = some (.slice L.a st.l.length L.c)
  rt : Rd w 1 (.slice ta st.v.text.length tc) st.v.text.length (st.v.text.map (.int .u8))
  rl : RdVs w L st.l
theorem StAt.below {w w' : World} {A : SL} {N i : Nat} {st : StM} {g off : Nat} {ta : Option Addr} {tc : Nat} {L : SL} (h : StAt w A N i st g off ta tc L) (hb : Below w.heap.size w w') : StAt w' A N i st g off ta tc L := by
  have hg := World.block_lt_of_cell? _ _ h.c0
  have f : ∀ {o : Nat} {v : Value}, w.cell? ⟨g, o, none⟩ = some v → w'.cell? ⟨g, o, none⟩ = some v := fun {o v} hc => (hb.cell (p := ⟨g, o, none⟩) hg).trans hc
  exact ⟨h.e, h.room, h.max, f h.c0, f h.c1, f h.c2, f h.c3, f h.c4, f h.c5, f h.c6, h.rt.below hb, h.rl.below hb⟩
/-- The script. -/
def RdSts (w : World) (A : SL) (ss : List StM) : Prop := ∀ (i : Nat) st, ss[i]? = some st → StOK st ∧ ∃ g off ta tc L, StAt w A ss.length i st g off ta tc L
theorem RdSts.below {w w' : World} {A : SL} {ss : List StM} (h : RdSts w A ss) (hb : Below w.heap.size w w') : RdSts w' A ss := fun i st hi => by
  obtain ⟨h1, g, off, ta, tc, L, h2⟩ := h i st hi
  exact ⟨h1, g, off, ta, tc, L, h2.below hb⟩

/-- What is kept of old: the arguments, the type's box. -/
def Z0 (w : World) (b : Nat) : Prop := b < w.heap.size + 1
/-- What the loop holds. -/
def BL (w W : World) (bl rb bk : Nat) (k s : Int) (i : Nat) : Prop := ∃ l, Brought k s l (i * 120) ∧ CB w W (Z0 w) bl rb bk k s l l ∧ W.heap[w.heap.size]? = some (.cells #[.int .i64 k, .int .i64 s] 23 (0, 0))
/-- The end of a round. -/
theorem bl_next {w W1 W2 : World} {Z : Nat → Prop} {bl rb bk : Nat} {k s : Int} {l : List V} {i : Nat} (hz : ∀ b, Z0 w b → Z b) (ht : W1.heap[w.heap.size]? = some (.cells #[.int .i64 k, .int .i64 s] 23 (0, 0))) (h : CB w W2 Z bl rb bk k s l l) (hk : Kept (fun b => ¬ Z b) W1 W2) (hb : Brought k s l ((i + 1) * 120)) : BL w W2 bl rb bk k s (i + 1) :=
  ⟨l, hb, h.monoZ hz (fun b hb => by unfold Z0; omega), (hk.block _ (lt_of_blk ht) (fun e => e (hz _ (by unfold Z0; omega)))).trans ht⟩
theorem bl_next2 {w W1 W2 W3 : World} {Z Q : Nat → Prop} {bl rb bk : Nat} {k s : Int} {l : List V} {i : Nat} (hz : ∀ b, Z0 w b → Z b) (ht : W1.heap[w.heap.size]? = some (.cells #[.int .i64 k, .int .i64 s] 23 (0, 0))) (hk : Kept (fun b => ¬ Z b) W1 W2) (hk2 : Kept Q W2 W3) (hq : ¬ Q w.heap.size) (h : CB w W3 Z bl rb bk k s l l) (hb : Brought k s l ((i + 1) * 120)) : BL w W3 bl rb bk k s (i + 1) := by
  have h2 := (hk.block _ (lt_of_blk ht) (fun e => e (hz _ (by unfold Z0; omega)))).trans ht
  exact ⟨l, hb, h.monoZ hz (fun b hb => by unfold Z0; omega), (hk2.block _ (lt_of_blk h2) hq).trans h2⟩
theorem brought_put {k s : Int} {l : List V} {i : Nat} (h : Brought k s l (i * 120)) (X : Nat) (hX : X < 18446744073709551616) : Brought k s (putL k s l X) ((i + 1) * 120) := by
  unfold putL
  split
  · rename_i hh
    have := h.app (Brought.one (vok_put hX hh.1 hh.2))
    exact ⟨by have := this.1; omega, this.2⟩
  · exact ⟨by have := h.1; omega, h.2⟩
theorem brought_text {k s : Int} {l : List V} {i : Nat} (h : Brought k s l (i * 120)) (t : List Int) (ht : IsBytes t) (hl : t.length ≤ 50) : Brought k s (textL k l t) ((i + 1) * 120) := by
  unfold textL
  split
  · rename_i hh
    have := h.app (Brought.one (vok_text (s := s) ht hl hh))
    exact ⟨by have := this.1; omega, this.2⟩
  · exact ⟨by have := h.1; omega, h.2⟩
theorem brought_app {k s k2 s2 : Int} {l r : List V} {i : Nat} (h : Brought k s l (i * 120)) (hr : r.length ≤ 120 ∧ ∀ v ∈ r, vOK k2 s2 v ∧ v.text.length ≤ 40) : Brought k s (appL k s k2 s2 l r) ((i + 1) * 120) := by
  unfold appL
  split
  · rename_i hh
    obtain ⟨rfl, rfl⟩ := hh
    have := h.app (m := 120) (r := r) ⟨hr.1, fun v hv => ⟨(hr.2 v hv).1, Nat.le_trans (hr.2 v hv).2 (by decide)⟩⟩
    exact ⟨by have := this.1; omega, this.2⟩
  · exact ⟨by have := h.1; omega, h.2⟩
theorem brought_back {k s : Int} {l : List V} {i : Nat} (h : Brought k s l (i * 120)) (n : Int) : Brought k s (backL l n) ((i + 1) * 120) := by
  unfold backL
  split
  · exact ⟨by rw [List.length_take]; have := h.1; omega, fun v hv => h.2 v (List.mem_of_mem_take hv)⟩
  · exact ⟨by have := h.1; omega, h.2⟩
theorem brought_null {k s : Int} {l : List V} {i : Nat} (h : Brought k s l (i * 120)) : Brought k s (l ++ [⟨true, 0, []⟩]) ((i + 1) * 120) := by
  have := h.app (Brought.one (vok_null (k := k) (s := s)))
  exact ⟨by have := this.1; omega, this.2⟩
theorem brought_same {k s : Int} {l : List V} {i : Nat} (h : Brought k s l (i * 120)) : Brought k s l ((i + 1) * 120) := ⟨by have := h.1; omega, h.2⟩

/-- A write into a block of Z that is new. -/
theorem CB.keptZ {w W W' : World} {Z Q : Nat → Prop} {bl rb bk : Nat} {k s : Int} {lb lr : List V} (h : CB w W Z bl rb bk k s lb lr) (hk : Kept Q W W') (hq : ∀ b, Q b → Z b ∧ w.heap.size ≤ b) : CB w W' Z bl rb bk k s lb lr := by
  obtain ⟨S, T, R, h⟩ := h
  have hz := hk.size
  exact ⟨S, T, R, h.bel.trans (hk.to_below h.bel.size (fun b e => (hq b e).2)), fun b z => by obtain ⟨a, b1, c, d⟩ := h.zs b z; exact ⟨by omega, b1, c, d⟩, h.z0, h.st, h.tr, fun b e => Nat.lt_of_lt_of_le (h.lt b e) hz,
    h.bs.kept hk (fun b e _ q => (h.zs b (hq b q).1).2.1 e), h.bk.kept hk (fun b e _ q => (h.zs b (hq b q).1).2.2.1 e), h.rb.kept hk (fun b e _ q => (h.zs b (hq b q).1).2.2.2 e)⟩

/-- Behind the book's end: the builders are as they were. -/
structure CN (w W : World) (bl rb : Nat) (k s : Int) (lb lr : List V) : Prop where
  bel : Below w.heap.size w W
  bs : ∃ S, BS W S bl k s (CS.of k lb)
  rb : ∃ R, RB W R rb k s lr
theorem CN.below {w W W' : World} {bl rb : Nat} {k s : Int} {lb lr : List V} (h : CN w W bl rb k s lb lr) (hb : Below W.heap.size W W') : CN w W' bl rb k s lb lr := by
  obtain ⟨S, h1⟩ := h.bs
  obtain ⟨R, h2⟩ := h.rb
  exact ⟨below_chain h.bel hb, ⟨S, h1.below hb⟩, ⟨R, h2.below hb⟩⟩
theorem CB.cn {w W : World} {Z : Nat → Prop} {bl rb bk : Nat} {k s : Int} {lb lr : List V} (h : CB w W Z bl rb bk k s lb lr) : CN w W bl rb k s lb lr := by
  obtain ⟨S, T, R, h⟩ := h
  exact ⟨h.bel, ⟨S, h.bs⟩, ⟨R, h.rb⟩⟩
theorem cn_column {w W : World} {bl rb : Nat} {k s : Int} {lb lr : List V} (h : CN w W bl rb k s lb lr) {m : Nat} (hB : Brought k s lb m) (hm : m ≤ 20000) {c : Col} (ec : c = colOf k s lb) : Calls Tryz.prog 34 #[.pointer (some ⟨bl, 0, none⟩)] W (ColBP c W) := by
  obtain ⟨S, h1⟩ := h.bs
  exact column_of (hB.few hm).1 S bl ec W h1
theorem cn_rows {w W : World} {bl rb : Nat} {k s : Int} {lb lr : List V} (h : CN w W bl rb k s lb lr) : ∃ A : SL, W.cell? ⟨rb, 2, none⟩ = some (.slice A.a lr.length A.c) ∧ RdVs W A lr := by
  obtain ⟨R, A, xs, h1⟩ := h.rb
  exact ⟨A, h1.cells.2.2.1, h1.vals⟩
theorem cb_close {w W : World} {Z : Nat → Prop} {bl rb bk : Nat} {k s : Int} {lb lr : List V} (h : CB w W Z bl rb bk k s lb lr) :
    Calls Tryz.prog 36 #[.pointer (some ⟨bk, 0, none⟩)] W (fun e W' => e = .returned (.bool true) ∧ CN w W' bl rb k s lb lr ∧ Kept (fun b => ¬ Z b) W W' ∧ W'.cell? ⟨rb, 2, none⟩ = W.cell? ⟨rb, 2, none⟩) := by
  obtain ⟨S, T, R, h⟩ := h
  refine (book_close T bk W h.bk).mono fun e W' ⟨he, hk⟩ => ⟨he, ⟨h.bel.trans (hk.to_below h.bel.size (fun b e => ?_)), ⟨S, h.bs.kept hk (fun b e _ => (h.st b e).1)⟩, ⟨R, h.rb.kept hk (fun b e _ t => h.tr b t e)⟩⟩, hk.mono (fun b e _ z => (h.zs b z).2.2.1 e), ?_⟩
  · rcases Nat.lt_or_ge b w.heap.size with h1 | h1
    · exact absurd e (h.zs b (h.z0 b h1)).2.2.1
    · exact h1
  · obtain ⟨A, xs, hr⟩ := h.rb
    exact World.cell?_of_block (w := W) (hk.block rb (lt_of_blk hr.blk) (fun t => h.tr rb t hr.sb))
/-- The rows are where they were. -/
theorem cn_rows_at {w W : World} {bl rb : Nat} {k s : Int} {lb lr : List V} (h : CN w W bl rb k s lb lr) {A : SL} {n : Nat} (q : W.cell? ⟨rb, 2, none⟩ = some (.slice A.a n A.c)) : RdVs W A lr := by
  obtain ⟨A2, q2, hr⟩ := cn_rows h
  rw [q] at q2
  have q3 := Option.some.inj q2
  simp only [Value.slice.injEq] at q3
  obtain ⟨e1, _, e2⟩ := q3
  cases A; cases A2
  simp only at e1 e2
  subst e1 e2
  exact hr
theorem lay_eq {k s : Int} (ho : okType k s = true) {l : List V} (h : Few l ∧ ∀ v ∈ l, vOK k s v) {c : Col} (ec : c = colOf k s l) (A : SL) {n : Nat} (hn : l.length = n) (W : World) (hr : RdVs W A l) : Calls Tryz.prog 25 #[.agg #[.int .i64 k, .int .i64 s], .slice A.a n A.c] W (ColBP c W) := by
  subst hn ec
  exact lay_any k s l ho h.1 h.2 A W hr

/-- Seven cells of a step. -/
theorem box7s {w : World} {b : Nat} {x0 x1 x2 x3 x4 x5 x6 : Value} {T : TypeId} (h : w.heap[b]? = some (.cells #[x0, x1, x2, x3, x4, x5, x6] T (0, 0))) :
    w.cell? ⟨b, 0, none⟩ = some x0 ∧ w.cell? ⟨b, 1, none⟩ = some x1 ∧ w.cell? ⟨b, 2, none⟩ = some x2 ∧ w.cell? ⟨b, 3, none⟩ = some x3 ∧ w.cell? ⟨b, 4, none⟩ = some x4 ∧ w.cell? ⟨b, 5, none⟩ = some x5 ∧ w.cell? ⟨b, 6, none⟩ = some x6 := by
  refine ⟨?_, ?_, ?_, ?_, ?_, ?_, ?_⟩ <;> (rw [cell_blk h]; rfl)
/-- A builder, a book, the document's builder, all new. -/
theorem cb_start {w W : World} {bl : Nat} {k s : Int} (hb : Below w.heap.size w W) (hw : w.heap.size + 1 ≤ W.heap.size) (h : BS W (fun b => w.heap.size + 1 ≤ b) bl k s CS.zero) :
    CB w ((W.alloc (.cells #[.int .i64 k, .int .i64 s, .slice none 0 0] 35)).alloc (.cells #[.slice none 0 0, .slice none 0 0, .slice none 0 0, .slice none 0 0, .slice none 0 0, .slice none 0 0] 41)) (Z0 w) bl W.heap.size (W.heap.size + 1) k s [] [] := by
  have hz : (W.alloc (.cells #[.int .i64 k, .int .i64 s, .slice none 0 0] 35)).heap.size = W.heap.size + 1 := by simp
  refine ⟨fun b => w.heap.size + 1 ≤ b ∧ b < W.heap.size, fun b => b = W.heap.size + 1, fun b => b = W.heap.size, (hb.alloc hb.size _).alloc (by rw [hz]; have := hb.size; omega) _, fun b hz0 => ?_, fun b h => by unfold Z0; omega, fun b h => ⟨by omega, by omega⟩, fun b h => by omega, fun b h => by simp; omega, ?_, ?_, ?_⟩
  · unfold Z0 at hz0
    exact ⟨by simp; omega, by omega, by omega, by omega⟩
  · exact ((h.mono (fun b h1 h2 => ⟨h1, h2⟩)).below (below_new W _)).below (below_new _ _)
  · have := BK.new (W.alloc (.cells #[.int .i64 k, .int .i64 s, .slice none 0 0] 35))
    rw [hz] at this
    exact this.mono (fun b h1 h2 => by simp at h2; omega)
  · refine RB.below ⟨⟨none, 0⟩, [], heap_alloc_new W _, rfl, Own.nil _ _ _ _, fun b e => (by cases e), fun i v hi => (by simp at hi)⟩ (below_new _ _)

theorem few_of3 {k s : Int} {r : List V} (h1 : r.length ≤ 120) (h2 : ∀ v ∈ r, vOK k s v ∧ v.text.length ≤ 40) : Few r ∧ ∀ v ∈ r, vOK k s v :=
  ⟨⟨by omega, fun v hv => Nat.le_trans (h2 v hv).2 (by decide)⟩, fun v hv => (h2 v hv).1⟩
/-- The type of a column that is lent. -/
def TyP (W1 : World) (kb : Nat) (s12 : Value) (wx : World) : Prop := ∃ k2 s2, s12 = .pointer (some ⟨kb, 0, none⟩) ∧ okType k2 s2 = true ∧ Below W1.heap.size W1 wx ∧ wx.heap[kb]? = some (.cells #[.int .i64 k2, .int .i64 s2] 23 (0, 0))
/-- A column of values, in a box. -/
def ColL (W2 : World) (k2 s2 : Int) (s13 : Value) (wx : World) : Prop := ∃ bb r B D E X va, s13 = .pointer (some ⟨bb, 0, none⟩) ∧ (r.length ≤ 120 ∧ ∀ v ∈ r, vOK k2 s2 v ∧ v.text.length ≤ 40) ∧ Below W2.heap.size W2 wx ∧ W2.heap.size ≤ bb ∧ HasC wx W2.heap.size bb (colOf k2 s2 r) B D E X va
theorem colL_after {W2 W4 : World} {k2 s2 : Int} {r : List V} {c : Col} (ec : c = colOf k2 s2 r) {B D E X : SL} {va : List Value} {base : Nat} (hr : r.length ≤ 120 ∧ ∀ v ∈ r, vOK k2 s2 v ∧ v.text.length ≤ 40) (h : OwnC W4 base c B D E X va) (hb : Below W2.heap.size W2 W4) (hz : W2.heap.size ≤ base) :
    ColL W2 k2 s2 (.pointer (some ⟨W4.heap.size, 0, none⟩)) (W4.alloc (.cells #[.int .i64 c.k, .int .i64 c.s, .int .i64 c.n, .int .i64 c.m, .slice B.a c.bits.length B.c, .slice D.a c.data.length D.c, .slice E.a c.ends.length E.c, .slice X.a c.words.length X.c] 63)) := by
  subst ec
  exact ⟨_, r, B, D, E, X, va, rfl, hr, hb.alloc hb.size _, hb.size, heap_alloc_new W4 _, (h.mono hz).below (below_new W4 _)⟩
theorem colL_ahead {W2 W4 : World} {k2 s2 : Int} {r : List V} {c : Col} (ec : c = colOf k2 s2 r) {B D E X : SL} {va : List Value} {base bb : Nat} (hr : r.length ≤ 120 ∧ ∀ v ∈ r, vOK k2 s2 v ∧ v.text.length ≤ 40) (h : OwnC W4 base c B D E X va) (hb : Below W2.heap.size W2 W4) (hz : W2.heap.size ≤ bb) (hbb : bb < base)
    (h0 : W4.heap[bb]? = some (.cells #[.int .i64 0, .int .i64 0, .int .i64 0, .int .i64 0, .slice none 0 0, .slice none 0 0, .slice none 0 0, .slice none 0 0] 63 (0, 0))) :
    ColL W2 k2 s2 (.pointer (some ⟨bb, 0, none⟩)) ((((((((W4.setCell ⟨bb, 0, none⟩ (.int .i64 c.k)).setCell ⟨bb, 1, none⟩ (.int .i64 c.s)).setCell ⟨bb, 2, none⟩ (.int .i64 c.n)).setCell ⟨bb, 3, none⟩ (.int .i64 c.m)).setCell ⟨bb, 4, none⟩ (.slice B.a c.bits.length B.c)).setCell ⟨bb, 5, none⟩ (.slice D.a c.data.length D.c)).setCell ⟨bb, 6, none⟩ (.slice E.a c.ends.length E.c)).setCell ⟨bb, 7, none⟩ (.slice X.a c.words.length X.c)) := by
  subst ec
  have K8 := kept8 W4 bb (.int .i64 (colOf k2 s2 r).k) (.int .i64 (colOf k2 s2 r).s) (.int .i64 (colOf k2 s2 r).n) (.int .i64 (colOf k2 s2 r).m) (.slice B.a (colOf k2 s2 r).bits.length B.c) (.slice D.a (colOf k2 s2 r).data.length D.c) (.slice E.a (colOf k2 s2 r).ends.length E.c) (.slice X.a (colOf k2 s2 r).words.length X.c)
  exact ⟨bb, r, B, D, E, X, va, rfl, hr, hb.trans (K8.to_below hb.size (fun b e => by omega)), hz, set8 h0 _ _ _ _ _ _ _ _, (h.kept K8 (fun b e => by omega)).mono (by omega)⟩
theorem lent_own {Z : Nat → Prop} {W : World} {base : Nat} {c : Col} {B D E X : SL} {va : List Value} (h : OwnC W base c B D E X va) (hz : ∀ b, base ≤ b → b < W.heap.size → Z b) : Lent Z W c B D E X va :=
  ⟨own_addr h.data, fun W' hk => (h.keptL hk (fun b h1 h2 e => e (hz b h1 h2))).rd⟩
theorem Lent.step {Z : Nat → Prop} {W W' : World} {c : Col} {B D E X : SL} {va : List Value} (h : Lent Z W c B D E X va) (hk : Kept (fun b => ¬ Z b) W W') : Lent Z W' c B D E X va := ⟨h.1, fun W2 hk2 => h.2 W2 (hk.trans hk2 (fun _ e _ => e))⟩
theorem Lent.rd {Z : Nat → Prop} {W : World} {c : Col} {B D E X : SL} {va : List Value} (h : Lent Z W c B D E X va) : RdC W c B D E X va := h.2 W (Kept.refl _ _)
/-- Eight cells, where a block stays. -/
theorem box8k {w w' : World} {b : Nat} {x0 x1 x2 x3 x4 x5 x6 x7 : Value} {T : TypeId} {S : Nat → Prop} (h : w.heap[b]? = some (.cells #[x0, x1, x2, x3, x4, x5, x6, x7] T (0, 0))) (hk : Kept S w w') (hS : ¬ S b) : w'.heap[b]? = some (.cells #[x0, x1, x2, x3, x4, x5, x6, x7] T (0, 0)) := (hk.block b (lt_of_blk h) hS).trans h
end Go.Proofs.YtmhjjhaipcgbiaaGreat
