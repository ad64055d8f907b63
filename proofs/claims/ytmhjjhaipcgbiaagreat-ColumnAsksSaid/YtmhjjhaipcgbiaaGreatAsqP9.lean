/- Texts of this claim, one behind the other: Cut50, Twins, Lend, Twin18, Kind, One, Spoil0. -/
import Derived.Test.YtmhjjhaipcgbiaaGreatAsqP5
import Derived.Test.YtmhjjhaipcgbiaaGreatAsqP1
import Derived.Test.YtmhjjhaipcgbiaaGreatAsqP4
import Derived.Test.YtmhjjhaipcgbiaaGreatAsqP2
import Derived.OrdersHeld
import Derived.Deep.RegionHeld3
import Derived.Test.YtmhjjhaipcgbiaaGreatAsqP7

namespace Go.Proofs.YtmhjjhaipcgbiaaGreat
open Go.RowKit
set_option linter.unusedVariables false
set_option linter.unusedSimpArgs false
set_option maxRecDepth 100000
set_option maxHeartbeats 1000000
theorem cut50_bytes (xs : List Int) (A : SL) (hl : xs.length ≤ 9223372036854775807) (w : World) (h : Rd w 1 (.slice A.a xs.length A.c) xs.length (xs.map (.int .u8))) :
    Calls Tryz.prog 20 #[.slice A.a xs.length A.c, .int .i64 50] w fun e w' => ∃ a c, e = .returned (.slice a (xs.take 50).length c) ∧ Rd w 1 (.slice a (xs.take 50).length c) (xs.take 50).length ((xs.take 50).map (.int .u8)) ∧ w = w' := by
  by_cases h50 : 50 < xs.length
  · obtain ⟨g, off, cap, e, h1, h2, hc⟩ := h.some_ (by rw [List.length_map]; omega)
    obtain ⟨aa, ac⟩ := A
    simp only [Value.slice.injEq, true_and] at e
    obtain ⟨rfl, rfl⟩ := e
    have HT := Aside.mk (rd_cut (i := 0) (j := 50) h (by omega) (by omega))
    have hlen : (xs.take 50).length = 50 := by rw [List.length_take]; omega
    rw [hlen]
    clear h hc hlen
    generalize hn : xs.length = n at *
    have HN := Aside.mk hn
    clear hn
    go_enter Tryz.func20, Tryz.ntmps20
    go_wp2
    go_ret
    refine ⟨_, _, rfl, ?_, rfl⟩
    have := HT.out
    simpa [List.map_take] using this
  · have e : xs.take 50 = xs := List.take_of_length_le (by omega)
    have HR := Aside.mk h
    rw [e]
    clear h e
    generalize hn : xs.length = n at *
    clear hn
    go_enter Tryz.func20, Tryz.ntmps20
    go_wp2
    go_ret
    exact ⟨_, _, rfl, HR.out, rfl⟩
end Go.Proofs.YtmhjjhaipcgbiaaGreat


namespace Go.Proofs.YtmhjjhaipcgbiaaGreat
open Go.RowKit
set_option linter.unusedVariables false
set_option linter.unusedSimpArgs false
set_option maxRecDepth 100000
set_option maxHeartbeats 1000000
theorem bytesinfo7 : (Tryz.prog.info? 43).map (fun i => (i.zero, i.size, i.bytes)) = some (some (.slice none 0 0), 1, 24) := by kernel_rfl
structure TwI (w wr : World) (ws : List (List Int)) (i : Nat) (v : Value) (vals : List Value) : Prop where
  out : Own wr w.heap.size 43 1 v i vals
  own : WOwn wr w.heap.size i vals ws
  sep : WSep i vals
  below : Below w.heap.size w wr
theorem twins_step {w wr w3 w5 : World} {ws : List (List Int)} {i : Nat} {v v' : Value} {vals : List Value} {t : List Int} {ta : Option Addr} {tc : Nat} (h : TwI w wr ws i v vals) (hi : ws[i]? = some t) (ho : Own w3 wr.heap.size 5 1 (.slice ta t.length tc) t.length (t.map (.int .u8))) (hb : Below wr.heap.size wr w3)
    (hA : AppP (w3.alloc (.cells #[.slice ta t.length tc] 43)) w.heap.size 43 1 v i vals 1 [.slice ta t.length tc] v' w5) : TwI w w5 ws (i + 1) v' (vals ++ [.slice ta t.length tc]) := by
  have hl : vals.length = i := by have := h.out.1; omega
  have hs : w.heap.size ≤ wr.heap.size := h.below.size
  have hs3 : wr.heap.size ≤ w3.heap.size := hb.size
  have hov := h.out.below hb
  have K : Kept (fun b => v.ownBlock = some b) w3 w5 := (Kept.of_below (below_new w3 _)).trans ((Kept.of_grown hA.grown).mono (fun b e _ => e.symm)) (fun _ e _ => e)
  have keep : ∀ {a : Value} {n b0 : Nat} {xs : List Value}, Own w3 b0 5 1 a n xs → Own w5 b0 5 1 a n xs := fun h2 => h2.kept K (fun b e e2 => own_blk h2 e |>.elim (fun cur q => hov.blk_ne q (by decide) e2))
  refine ⟨hA.own, fun j u hj hu => ?_, fun j j' x x' h1 h2 hx hx' b e e2 => ?_, ?_⟩
  · by_cases e : j < i
    · obtain ⟨a, cap, q1, q2⟩ := h.own j u e hu
      exact ⟨a, cap, by rw [List.getElem?_append_left (by omega)]; exact q1, keep (q2.below hb)⟩
    · obtain rfl : j = i := by omega
      rw [hi] at hu; cases hu
      exact ⟨ta, tc, by rw [← hl, List.getElem?_append_right (Nat.le_refl _)]; simp, (keep ho).mono hs⟩
  · by_cases e3 : j' < i
    · rw [List.getElem?_append_left (by omega)] at hx hx'
      exact h.sep j j' x x' h1 e3 hx hx' b e e2
    · obtain rfl : j' = i := by omega
      rw [List.getElem?_append_left (by omega)] at hx
      rw [← hl, List.getElem?_append_right (Nat.le_refl _)] at hx'
      simp at hx'
      subst hx'
      have hjl : j < ws.length := by have := (List.getElem?_eq_some_iff.1 hi).1; omega
      obtain ⟨a, cap, q1, q2⟩ := h.own j _ h1 (List.getElem?_eq_getElem hjl)
      rw [q1] at hx; cases hx
      have := (q2.lt b e).2
      have := (ho.lt b e2).1
      omega
  · refine (h.below.trans (hb.mono hs)).trans (((below_new w3 _).mono (by omega)).trans (below_of_grown (B := w.heap.size) hA.grown (by simp; omega) (fun k e => (h.out.lt k e).1)))
theorem twins_any (ws : List (List Int)) (vals0 : List Value) (X : SL) (hl : ws.length ≤ 100000000) (hsm : ∀ t ∈ ws, t.length ≤ 100000000) (w : World) (h : Rd w 1 (.slice X.a ws.length X.c) ws.length vals0) (he : RdWs w vals0 ws) :
    Calls Tryz.prog 81 #[.slice X.a ws.length X.c] w (WordsP ws w) := by
  obtain ⟨xa, xc⟩ := X
  have HR := Aside.mk h
  have HE := Aside.mk he
  have hl0 : vals0.length = ws.length := he.1
  clear h he
  dsimp only at HR ⊢
  generalize hn : ws.length = n at *
  have HN := Aside.mk hn
  have HL0 := Aside.mk hl0
  clear hn hl0
  go_enter Tryz.func81, Tryz.ntmps81
  go_wp2_with fail
  go_loopw [3, 4] (fun ov i0 wr => ∃ (i : Nat) (oa : Option Addr) (oc : Nat), i ≤ n ∧ ov = .slice oa i oc ∧ i0 = .int .i64 (i : Int) ∧ Aside (∃ vals, TwI w wr ws i (.slice oa i oc) vals)) (fun _ i0 _ => n - (intOf i0).toNat)
  case atStart => exact ⟨0, none, 0, by omega, rfl, rfl, ⟨[], Own.nil _ _ _ _, fun j t h => by omega, fun j j' _ _ h h2 => by omega, Below.refl _ _⟩⟩
  case round =>
    obtain ⟨i, oa, oc, hi, rfl, rfl, hp⟩ := hrel
    obtain ⟨vals, HT⟩ := hp.out
    have HT := Aside.mk HT
    clear hp
    by_cases hlt : i < n
    · obtain ⟨t, ht⟩ : ∃ t, ws[i]? = some t := ⟨_, List.getElem?_eq_getElem (by have := HN.out; omega)⟩
      obtain ⟨g, o, cp, e1, hx1, hx2, hc⟩ := (HR.out.below HT.out.below).some_ (by have := HL0.out; omega)
      simp only [Value.slice.injEq, true_and] at e1
      obtain ⟨rfl, rfl⟩ := e1
      obtain ⟨a, cap, q1, q2⟩ := (HE.out.below HT.out.below).2 i t ht
      have d1 := hc i _ q1
      have hts := hsm t (List.mem_of_getElem? ht)
      have HTW := Aside.mk (twin_bytes t ⟨a, cap⟩ hts wr q2)
      have HTT := Aside.mk ht
      clear hc q1 q2 ht
      dsimp only at HTW
      go_wp2_with (first
        | (go_at_call 80; refine HTW.out.mono ?_; rintro e w3 ⟨ta, tc, rfl, ho, hb3⟩; have HO := Aside.mk ho; have HB3 := Aside.mk hb3; clear ho hb3)
        | (at_builtin; refine wpList_app2 _ rfl _ _ 37 37 rfl w.heap.size 43 (.slice none 0 0) 1 24 Tryz.underlying37 bytesinfo7 rfl _ i vals rfl ((HT.out.out.below HB3.out).alloc _) _ 1 [.slice ta t.length tc] rfl (src_one Tryz.underlying37 _ _ _ rfl rfl) (by unfold maxLen; omega) (by omega) (Nat.le_trans HT.out.below.size (Nat.le_trans HB3.out.size (by simp))) ?_))
      intro v5 w5 hA
      obtain ⟨a5, c5, rfl⟩ := hA.own.form
      have H5 := Aside.mk (twins_step HT.out HTT.out HO.out HB3.out hA)
      clear hA
      go_wp2_with fail
      exact ⟨⟨i + 1, a5, c5, by omega, rfl, by simp, ⟨_, H5.out⟩⟩, by simp [intOf]; omega⟩
    · obtain rfl : i = n := by omega
      go_wp2_with fail
      go_ret
      have h := HT.out
      have := HN.out
      subst this
      exact ⟨_, _, vals, rfl, h.out, by have := h.out.1; omega, h.own, h.below, h.sep⟩
end Go.Proofs.YtmhjjhaipcgbiaaGreat


namespace Go.Proofs.YtmhjjhaipcgbiaaGreat
open Go.RowKit
set_option linter.unusedVariables false
set_option linter.unusedSimpArgs false
set_option maxRecDepth 100000
set_option maxHeartbeats 1000000
theorem own_fresh (w : World) (cur : Array Value) (E : TypeId) (c : Nat) (h : c ≤ cur.size) (hm : c ≤ maxLen) : Own (w.alloc (.cells cur E)) w.heap.size E 1 (.slice (some ⟨w.heap.size, 0, none⟩) 0 c) 0 [] :=
  ⟨rfl, .inr ⟨w.heap.size, 0, c, cur, rfl, Nat.le_refl _, heap_alloc_new w _, Nat.zero_le _, hm, by omega, fun j hj => by omega⟩⟩
theorem src_two (w : World) (x0 x1 : Value) (h0 : x0.oneCell' = true) (h1 : x1.oneCell' = true) : Src Tryz.prog 1 43 (.slice (some ⟨w.heap.size, 0, none⟩) 2 2) 2 [x0, x1] (w.alloc (.cells #[x0, x1] 5)) := by
  refine Src.ofSlice _ Tryz.underlying43 _ 2 2 [x0, x1] rfl (fun j u hu => ?_) (by simp [h0, h1])
  rw [addr_add, cell_blk (heap_alloc_new w _)]
  match j, hu with
  | 0, hu => cases hu; rfl
  | 1, hu => cases hu; rfl
theorem byteinfo9 : (Tryz.prog.info? 5).map (fun i => (i.zero, i.size, i.bytes)) = some (some (.int .u8 0), 1, 1) := by kernel_rfl
def LendP (xs : List Int) (w : World) (e : Ending) (w' : World) : Prop := ∃ a c, e = .returned (.slice a xs.length c) ∧ xs.length + 2 ≤ c ∧ Own w' w.heap.size 5 1 (.slice a (xs.length + 2) c) (xs.length + 2) (xs.map (.int .u8) ++ [.int .u8 165, .int .u8 90]) ∧ Below w.heap.size w w'
theorem lend_bytes (xs : List Int) (A : SL) (hl : xs.length ≤ 100000000) (w : World) (h : Rd w 1 (.slice A.a xs.length A.c) xs.length (xs.map (.int .u8))) :
    Calls Tryz.prog 19 #[.slice A.a xs.length A.c] w (LendP xs w) := by
  obtain ⟨aa, ac⟩ := A
  have HR := Aside.mk h
  clear h
  dsimp only at HR ⊢
  unfold LendP
  generalize hn : xs.length = n at *
  have HN := Aside.mk hn
  clear hn
  obtain ⟨m, hm⟩ : ∃ m : Nat, m = n + 2 := ⟨_, rfl⟩
  have hcast : (n : Int) + 2 = (m : Int) := by omega
  have HM := Aside.mk hm
  have hm2 : m ≤ 100000002 := by omega
  clear hm
  obtain ⟨i0, hi, hz0, hz1, hz2⟩ := info_parts byteinfo9
  obtain ⟨M, hM⟩ : ∃ M, M = madeCells (Value.int .u8 0).cells ((m : Int).toNat * i0.size) := ⟨_, rfl⟩
  have hMs : M.size = m := by rw [hM, size_madeCells, hz1]; simp [Value.cells]
  have hmk : ∀ W : World, (Instr.makeSlice 43 (.int .i64 0) (.int .i64 (m : Int))).run Tryz.prog W = .ok (.slice (some ⟨W.heap.size, 0, none⟩) 0 m) (W.alloc (.cells M 5)) := fun W => by
    have h := run_make (P := Tryz.prog) W 43 5 i0 (.int .u8 0) Tryz.underlying43 hi hz0 .i64 .i64 0 (m : Int) (by omega) (by omega) (by rw [hz2]; omega) (by omega)
    rw [← hM] at h
    simpa using h
  clear hM hi hz0 hz1 hz2
  have HO := Aside.mk (own_fresh w M 5 m (by omega) (by unfold maxLen; omega))
  have HB := Aside.mk (below_new w (.cells M 5))
  go_enter Tryz.func19, Tryz.ntmps19
  go_wp2_with (at_builtin; refine wpList_app2 _ rfl _ _ 43 43 rfl w.heap.size 5 (.int .u8 0) 1 1 Tryz.underlying43 byteinfo9 rfl _ 0 [] rfl HO.out _ n (xs.map (.int .u8)) rfl ((HR.out.below HB.out).src (tx := 43) (P := Tryz.prog) Tryz.underlying43 (one_map (fun x : Int => Value.int .u8 x) (fun _ => rfl) xs)) (by unfold maxLen; omega) (by omega) (by simp) ?_)
  intro v2 w2 hA
  obtain ⟨a2, c2, e2⟩ := hA.own.form
  rw [Nat.zero_add] at e2
  subst e2
  have HA := Aside.mk (show Own w2 w.heap.size 5 1 (.slice a2 n c2) n (xs.map (.int .u8)) from by have h := hA.own; rw [Nat.zero_add] at h; simpa using h)
  have HB2 := Aside.mk (HB.out.trans (below_of_grown (B := w.heap.size) hA.grown (by simp) (fun k e => by cases e; exact Nat.le_refl _)))
  clear hA
  have HS2 := Aside.mk (src_two w2 (.int .u8 165) (.int .u8 90) rfl rfl)
  go_wp2_with (at_builtin; refine wpList_app2 _ rfl _ _ 43 43 rfl w.heap.size 5 (.int .u8 0) 1 1 Tryz.underlying43 byteinfo9 rfl _ n (xs.map (.int .u8)) rfl (HA.out.alloc _) _ 2 [.int .u8 165, .int .u8 90] rfl HS2.out (by unfold maxLen; omega) (by omega) (Nat.le_trans HB2.out.size (by simp)) ?_)
  intro v4 w4 hA
  obtain ⟨a4, c4, rfl⟩ := hA.own.form
  have HA4 := Aside.mk hA.own
  have HB4 := Aside.mk (HB2.out.trans ((below_new w2 _).mono HB2.out.size |>.trans (below_of_grown (B := w.heap.size) hA.grown (Nat.le_trans HB2.out.size (by simp)) (fun k e => (HA.out.lt k e).1))))
  obtain ⟨g, o, cp, e4, _, _, hx1, hx2, _⟩ := hA.own.some_ (by omega)
  simp only [Value.slice.injEq, true_and] at e4
  obtain ⟨rfl, rfl⟩ := e4
  clear hA
  go_wp2_with fail
  go_ret
  exact ⟨_, _, rfl, hx1, HA4.out, HB4.out⟩
end Go.Proofs.YtmhjjhaipcgbiaaGreat


namespace Go.Proofs.YtmhjjhaipcgbiaaGreat
open Go.RowKit
set_option linter.unusedVariables false
set_option linter.unusedSimpArgs false
set_option maxRecDepth 100000
set_option maxHeartbeats 1000000
structure TwB (w : World) (n : Nat) (c : Col) (B D E X : SL) (b' d' e' x' : Value) : Prop where
  k0 : w.heap[n]? = some (.cells #[.int .i64 c.k, .int .i64 c.s, .int .i64 c.n, .int .i64 c.m, .slice B.a c.bits.length B.c, .slice D.a c.data.length D.c, .slice E.a c.ends.length E.c, .slice X.a c.words.length X.c] 63 (0, 0))
  k1 : w.heap[n + 1]? = some (.cells #[.int .i64 0, .int .i64 0, .int .i64 0, .int .i64 0, .slice none 0 0, .slice none 0 0, .slice none 0 0, .slice none 0 0] 63 (0, 0))
  k2 : w.heap[n + 1 + 1]? = some (.cells #[.int .i64 c.k, .int .i64 c.s, .int .i64 c.n, .int .i64 c.m, b', d', e', x'] 63 (0, 0))
theorem TwB.below {w w' : World} {n : Nat} {c : Col} {B D E X : SL} {b' d' e' x' : Value} (h : TwB w n c B D E X b' d' e' x') (hb : Below w.heap.size w w') : TwB w' n c B D E X b' d' e' x' :=
  ⟨(hb.block _ (lt_of_blk h.k0)).trans h.k0, (hb.block _ (lt_of_blk h.k1)).trans h.k1, (hb.block _ (lt_of_blk h.k2)).trans h.k2⟩
theorem TwB.set {w : World} {n : Nat} {c : Col} {B D E X : SL} {b' d' e' x' : Value} (h : TwB w n c B D E X b' d' e' x') (k : Nat) (v : Value) : (w.setCell ⟨n + 1 + 1, k, none⟩ v).heap[n]? = some (.cells #[.int .i64 c.k, .int .i64 c.s, .int .i64 c.n, .int .i64 c.m, .slice B.a c.bits.length B.c, .slice D.a c.data.length D.c, .slice E.a c.ends.length E.c, .slice X.a c.words.length X.c] 63 (0, 0)) ∧ (w.setCell ⟨n + 1 + 1, k, none⟩ v).heap[n + 1]? = some (.cells #[.int .i64 0, .int .i64 0, .int .i64 0, .int .i64 0, .slice none 0 0, .slice none 0 0, .slice none 0 0, .slice none 0 0] 63 (0, 0)) :=
  ⟨((Kept.setCell w ⟨n + 1 + 1, k, none⟩ v).block _ (lt_of_blk h.k0) (by simp; omega)).trans h.k0, ((Kept.setCell w ⟨n + 1 + 1, k, none⟩ v).block _ (lt_of_blk h.k1) (by simp)).trans h.k1⟩
theorem intinfo9 : (Tryz.prog.info? 3).map (fun i => (i.zero, i.size, i.bytes)) = some (some (.int .i64 0), 1, 8) := by kernel_rfl
theorem twin18 (c : Col) (B D E X : SL) (vals : List Value) (hd : c.data.length ≤ 100000000) (hb : c.bits.length ≤ 100000000) (he : c.ends.length ≤ 100000000) (hw : c.words.length ≤ 100000000) (hwl : ∀ t ∈ c.words, t.length ≤ 100000000) (w : World) (h : RdC w c B D E X vals) :
    Calls Tryz.prog 27 #[colV c B D E X] w (ColBP c w) := by
  obtain ⟨w0, ew0⟩ : ∃ x, x = ((w.alloc (.cells #[.int .i64 c.k, .int .i64 c.s, .int .i64 c.n, .int .i64 c.m, .slice B.a c.bits.length B.c, .slice D.a c.data.length D.c, .slice E.a c.ends.length E.c, .slice X.a c.words.length X.c] 63)).alloc (.cells #[.int .i64 0, .int .i64 0, .int .i64 0, .int .i64 0, .slice none 0 0, .slice none 0 0, .slice none 0 0, .slice none 0 0] 63)).alloc (.cells #[.int .i64 c.k, .int .i64 c.s, .int .i64 c.n, .int .i64 c.m, .slice B.a c.bits.length B.c, .slice D.a c.data.length D.c, .slice E.a c.ends.length E.c, .slice X.a c.words.length X.c] 63) := ⟨_, rfl⟩
  have HB0 := Aside.mk (show Below w.heap.size w w0 from by rw [ew0]; exact ((below_new w _).trans ((below_new _ _).mono (by simp))).trans ((below_new _ _).mono (by simp; omega)))
  have HT0 := Aside.mk (show TwB w0 w.heap.size c B D E X (.slice B.a c.bits.length B.c) (.slice D.a c.data.length D.c) (.slice E.a c.ends.length E.c) (.slice X.a c.words.length X.c) from by
    rw [ew0]
    refine ⟨?_, ?_, ?_⟩
    · rw [Below.heap_alloc _ _ _ (by simp; omega), Below.heap_alloc _ _ _ (by simp)]; exact heap_alloc_new w _
    · rw [Below.heap_alloc _ _ _ (by simp)]; simpa using heap_alloc_new (w.alloc (.cells #[.int .i64 c.k, .int .i64 c.s, .int .i64 c.n, .int .i64 c.m, .slice B.a c.bits.length B.c, .slice D.a c.data.length D.c, .slice E.a c.ends.length E.c, .slice X.a c.words.length X.c] 63)) (.cells #[.int .i64 0, .int .i64 0, .int .i64 0, .int .i64 0, .slice none 0 0, .slice none 0 0, .slice none 0 0, .slice none 0 0] 63)
    · simpa using heap_alloc_new ((w.alloc (.cells #[.int .i64 c.k, .int .i64 c.s, .int .i64 c.n, .int .i64 c.m, .slice B.a c.bits.length B.c, .slice D.a c.data.length D.c, .slice E.a c.ends.length E.c, .slice X.a c.words.length X.c] 63)).alloc (.cells #[.int .i64 0, .int .i64 0, .int .i64 0, .int .i64 0, .slice none 0 0, .slice none 0 0, .slice none 0 0, .slice none 0 0] 63)) (.cells #[.int .i64 c.k, .int .i64 c.s, .int .i64 c.n, .int .i64 c.m, .slice B.a c.bits.length B.c, .slice D.a c.data.length D.c, .slice E.a c.ends.length E.c, .slice X.a c.words.length X.c] 63))
  have HW := Aside.mk h
  have HR := Aside.mk (h.below HB0.out)
  clear h
  dsimp only [colV]
  go_enter Tryz.func27, Tryz.ntmps27
  go_wp2_with fail
  rw [← ew0]
  refine (twin_bytes c.data D hd w0 HR.out.data).mono ?_
  rintro e w1 ⟨da, dc, rfl, ho, hb1⟩
  have HD1 := Aside.mk ho
  have HT1 := Aside.mk (HT0.out.below hb1)
  have HB1 := Aside.mk hb1
  clear ho hb1
  obtain ⟨d0, d1, d2, d3, d4, d5, d6, d7⟩ := box8 HT1.out.k2
  obtain ⟨g0, g1, g2, g3, g4, g5, g6, g7⟩ := box8 HT1.out.k0
  have hf0 := fun k => frozen_blk (k := k) HT1.out.k2
  have hl2 := lt_of_blk HT1.out.k2
  go_wp2_with fail
  have HT2 := Aside.mk (show TwB (w1.setCell ⟨w.heap.size + 1 + 1, 5, none⟩ (.slice da c.data.length dc)) w.heap.size c B D E X (.slice B.a c.bits.length B.c) (.slice da c.data.length dc) (.slice E.a c.ends.length E.c) (.slice X.a c.words.length X.c) from ⟨(HT1.out.set 5 _).1, (HT1.out.set 5 _).2, by have h := heap_setCell_at (k := 5) HT1.out.k2 (.slice da c.data.length dc); simpa using h⟩)
  have HB2 := Aside.mk (show Below w.heap.size w (w1.setCell ⟨w.heap.size + 1 + 1, 5, none⟩ (.slice da c.data.length dc)) from Below.setCell (HB0.out.trans (HB1.out.mono HB0.out.size)) (by simp; omega) _)
  have HD2 := Aside.mk (HD1.out.set_other (a := ⟨w.heap.size + 1 + 1, 5, none⟩) (HD1.out.blk_ne HT1.out.k2 (by decide)) (.slice da c.data.length dc))
  clear d0 d1 d2 d3 d4 d5 d6 d7 g0 g1 g2 g3 g4 g5 g6 g7 hf0 hl2
  generalize w1.setCell ⟨w.heap.size + 1 + 1, 5, none⟩ (.slice da c.data.length dc) = w2 at *
  refine (twin_bytes c.bits B hb w2 (HW.out.below HB2.out).bits).mono ?_
  rintro e w3 ⟨pa, pc, rfl, ho, hb3⟩
  have HP3 := Aside.mk ho
  have HT3 := Aside.mk (HT2.out.below hb3)
  have HB3 := Aside.mk hb3
  clear ho hb3
  obtain ⟨d0, d1, d2, d3, d4, d5, d6, d7⟩ := box8 HT3.out.k2
  obtain ⟨g0, g1, g2, g3, g4, g5, g6, g7⟩ := box8 HT3.out.k0
  have hf0 := fun k => frozen_blk (k := k) HT3.out.k2
  have hl2 := lt_of_blk HT3.out.k2
  have r0 := (HT3.out.set 4 (.slice pa c.bits.length pc))
  have HT4 := Aside.mk (show TwB ((w3.setCell ⟨w.heap.size + 1 + 1, 4, none⟩ (.slice pa c.bits.length pc)).alloc (.cells #[] 3)) w.heap.size c B D E X (.slice pa c.bits.length pc) (.slice da c.data.length dc) (.slice E.a c.ends.length E.c) (.slice X.a c.words.length X.c) from TwB.below ⟨r0.1, r0.2, by have h := heap_setCell_at (k := 4) HT3.out.k2 (.slice pa c.bits.length pc); simpa using h⟩ (below_new _ _))
  clear r0
  obtain ⟨s0, s1, s2, s3, s4, s5, s6, s7⟩ := box8 HT4.out.k0
  have HE4 := Aside.mk (show Own ((w3.setCell ⟨w.heap.size + 1 + 1, 4, none⟩ (.slice pa c.bits.length pc)).alloc (.cells #[] 3)) w3.heap.size 3 1 (.slice (some ⟨w3.heap.size, 0, none⟩) 0 0) 0 [] from by
    have h := own_fresh (w3.setCell ⟨w.heap.size + 1 + 1, 4, none⟩ (.slice pa c.bits.length pc)) #[] 3 0 (Nat.le_refl _) (Nat.zero_le _)
    rw [show (w3.setCell ⟨w.heap.size + 1 + 1, 4, none⟩ (.slice pa c.bits.length pc)).heap.size = w3.heap.size from by simp] at h
    exact h)
  have HB4 := Aside.mk (show Below w.heap.size w ((w3.setCell ⟨w.heap.size + 1 + 1, 4, none⟩ (.slice pa c.bits.length pc)).alloc (.cells #[] 3)) from (Below.setCell (HB2.out.trans (HB3.out.mono HB2.out.size)) (by simp; omega) _).trans ((below_new _ _).mono (by have h1 := HB2.out.size; have h2 := HB3.out.size; simp; omega)))
  go_wp2_with (at_builtin; refine wpList_app2 _ rfl _ _ 61 61 rfl w3.heap.size 3 (.int .i64 0) 1 8 Tryz.underlying61 intinfo9 rfl _ 0 [] rfl HE4.out _ c.ends.length (c.ends.map (.int .i64)) rfl ((HW.out.below HB4.out).ends.src (tx := 61) (P := Tryz.prog) Tryz.underlying61 (one_map (fun x : Int => Value.int .i64 x) (fun _ => rfl) c.ends)) (by unfold maxLen; omega) (by omega) (by simp) ?_)
  intro v5 w5 hA
  obtain ⟨ea, ec, rfl⟩ := hA.own.form
  have hz4 : ((w3.setCell ⟨w.heap.size + 1 + 1, 4, none⟩ (.slice pa c.bits.length pc)).alloc (.cells #[] 3)).heap.size = w3.heap.size + 1 := by simp
  have hz3 := lt_of_blk HT3.out.k2
  have HZ := Aside.mk (And.intro HB2.out.size HB3.out.size)
  have K5 := Aside.mk (show Kept (fun b => b = w3.heap.size) ((w3.setCell ⟨w.heap.size + 1 + 1, 4, none⟩ (.slice pa c.bits.length pc)).alloc (.cells #[] 3)) w5 from (Kept.of_grown hA.grown).mono (fun b e _ => by cases e; rfl))
  have hD3 : Own ((w3.setCell ⟨w.heap.size + 1 + 1, 4, none⟩ (.slice pa c.bits.length pc)).alloc (.cells #[] 3)) w0.heap.size 5 1 (.slice da c.data.length dc) c.data.length (c.data.map (.int .u8)) := ((HD2.out.below HB3.out).set_other (a := ⟨w.heap.size + 1 + 1, 4, none⟩) ((HD2.out.below HB3.out).blk_ne HT3.out.k2 (by decide)) _).alloc _
  have hP3 : Own ((w3.setCell ⟨w.heap.size + 1 + 1, 4, none⟩ (.slice pa c.bits.length pc)).alloc (.cells #[] 3)) w2.heap.size 5 1 (.slice pa c.bits.length pc) c.bits.length (c.bits.map (.int .u8)) := (HP3.out.set_other (a := ⟨w.heap.size + 1 + 1, 4, none⟩) (HP3.out.blk_ne HT3.out.k2 (by decide)) _).alloc _
  have HSEP := Aside.mk (show ∀ b, (Value.slice pa c.bits.length pc).ownBlock = some b → (Value.slice da c.data.length dc).ownBlock ≠ some b from fun b e e2 => by
    have h1 := (HP3.out.lt b e).1
    have h2 := (HD2.out.lt b e2).2
    omega)
  have HDLT := Aside.mk (show ∀ b, (Value.slice da c.data.length dc).ownBlock = some b ∨ (Value.slice pa c.bits.length pc).ownBlock = some b → b < w3.heap.size from fun b e => by
    rcases e with e | e
    · have := (HD2.out.lt b e).2; have := HZ.out.2; omega
    · exact (HP3.out.lt b e).2)
  have HD5 := Aside.mk (hD3.kept K5.out (fun b e h => by have := HDLT.out b (.inl e); omega))
  have HP5 := Aside.mk (hP3.kept K5.out (fun b e h => by have := HDLT.out b (.inr e); omega))
  have hE5 := hA.own
  rw [Nat.zero_add, List.nil_append] at hE5
  rw [Nat.zero_add]
  have HE5 := Aside.mk hE5
  have HT5 := Aside.mk (show TwB w5 w.heap.size c B D E X (.slice pa c.bits.length pc) (.slice da c.data.length dc) (.slice E.a c.ends.length E.c) (.slice X.a c.words.length X.c) from
    ⟨(K5.out.block _ (lt_of_blk HT4.out.k0) (by omega)).trans HT4.out.k0, (K5.out.block _ (lt_of_blk HT4.out.k1) (by omega)).trans HT4.out.k1, (K5.out.block _ (lt_of_blk HT4.out.k2) (by omega)).trans HT4.out.k2⟩)
  have HB5 := Aside.mk (HB4.out.trans (K5.out.to_below HB4.out.size (fun b e => by subst e; have := HZ.out.1; have := HZ.out.2; omega)))
  have hs5 := K5.out.size
  rw [hz4] at hs5
  have HS5 := Aside.mk hs5
  clear hA hE5 hD3 hP3 hz4 hz3 s0 s1 s2 s3 s4 s5 s6 s7 d0 d1 d2 d3 d4 d5 d6 d7 g0 g1 g2 g3 g4 g5 g6 g7 hf0 hl2 hs5
  obtain ⟨d0, d1, d2, d3, d4, d5, d6, d7⟩ := box8 HT5.out.k2
  obtain ⟨g0, g1, g2, g3, g4, g5, g6, g7⟩ := box8 HT5.out.k0
  have hf0 := fun k => frozen_blk (k := k) HT5.out.k2
  have hl2 := lt_of_blk HT5.out.k2
  go_wp2_with fail
  have HT6 := Aside.mk (show TwB (w5.setCell ⟨w.heap.size + 1 + 1, 6, none⟩ (.slice ea c.ends.length ec)) w.heap.size c B D E X (.slice pa c.bits.length pc) (.slice da c.data.length dc) (.slice ea c.ends.length ec) (.slice X.a c.words.length X.c) from ⟨(HT5.out.set 6 _).1, (HT5.out.set 6 _).2, by have h := heap_setCell_at (k := 6) HT5.out.k2 (.slice ea c.ends.length ec); simpa using h⟩)
  have HB6 := Aside.mk (show Below w.heap.size w (w5.setCell ⟨w.heap.size + 1 + 1, 6, none⟩ (.slice ea c.ends.length ec)) from Below.setCell HB5.out (by simp; omega) _)
  have HD6 := Aside.mk (HD5.out.set_other (a := ⟨w.heap.size + 1 + 1, 6, none⟩) (HD5.out.blk_ne HT5.out.k2 (by decide)) (.slice ea c.ends.length ec))
  have HP6 := Aside.mk (HP5.out.set_other (a := ⟨w.heap.size + 1 + 1, 6, none⟩) (HP5.out.blk_ne HT5.out.k2 (by decide)) (.slice ea c.ends.length ec))
  have HE6 := Aside.mk (HE5.out.set_other (a := ⟨w.heap.size + 1 + 1, 6, none⟩) (HE5.out.blk_ne HT5.out.k2 (by decide)) (.slice ea c.ends.length ec))
  have HS6 := Aside.mk (show w3.heap.size + 1 ≤ (w5.setCell ⟨w.heap.size + 1 + 1, 6, none⟩ (.slice ea c.ends.length ec)).heap.size from by simpa using HS5.out)
  clear d0 d1 d2 d3 d4 d5 d6 d7 g0 g1 g2 g3 g4 g5 g6 g7 hf0 hl2
  generalize w5.setCell ⟨w.heap.size + 1 + 1, 6, none⟩ (.slice ea c.ends.length ec) = w6 at *
  refine (twins_any c.words vals X hw hwl w6 (HW.out.below HB6.out).words (HW.out.below HB6.out).each).mono ?_
  rintro e w7 ⟨wa, wc, wvals, rfl, hwo, hwlen, hwe, hwb, hws⟩
  have HT7 := Aside.mk (HT6.out.below hwb)
  have HD7 := Aside.mk (HD6.out.below hwb)
  have HP7 := Aside.mk (HP6.out.below hwb)
  have HE7 := Aside.mk (HE6.out.below hwb)
  have HW7 := Aside.mk (And.intro hwo (And.intro hwlen (And.intro hwe hws)))
  have HB7 := Aside.mk (HB6.out.trans (hwb.mono HB6.out.size))
  clear hwo hwlen hwe hws hwb
  obtain ⟨d0, d1, d2, d3, d4, d5, d6, d7⟩ := box8 HT7.out.k2
  obtain ⟨g0, g1, g2, g3, g4, g5, g6, g7⟩ := box8 HT7.out.k1
  have hf0 := fun k => frozen_blk (k := k) HT7.out.k2
  have hf1 := fun k => frozen_blk (k := k) HT7.out.k1
  have hl2 := lt_of_blk HT7.out.k2
  go_wp2_with fail
  refine bodyPost_ret (v := colV c ⟨pa, pc⟩ ⟨da, dc⟩ ⟨ea, ec⟩ ⟨wa, wc⟩) (by simp [results, Tryz.results27, go_sem, colV, g0, g1, g2, g3, g4, g5, g6, g7]) rfl ?_
  clear d0 d1 d2 d3 d4 d5 d6 d7 g0 g1 g2 g3 g4 g5 g6 g7 hf0 hf1
  have K : Kept (fun b => b = w.heap.size + 1 + 1 ∨ b = w.heap.size + 1) w7 (((((((((w7.setCell ⟨w.heap.size + 1 + 1, 7, none⟩ (.slice wa c.words.length wc)).setCell ⟨w.heap.size + 1, 0, none⟩ (.int .i64 c.k)).setCell ⟨w.heap.size + 1, 1, none⟩ (.int .i64 c.s)).setCell ⟨w.heap.size + 1, 2, none⟩ (.int .i64 c.n)).setCell ⟨w.heap.size + 1, 3, none⟩ (.int .i64 c.m)).setCell ⟨w.heap.size + 1, 4, none⟩ (.slice pa c.bits.length pc)).setCell ⟨w.heap.size + 1, 5, none⟩ (.slice da c.data.length dc)).setCell ⟨w.heap.size + 1, 6, none⟩ (.slice ea c.ends.length ec)).setCell ⟨w.heap.size + 1, 7, none⟩ (.slice wa c.words.length wc)) :=
    Kept.trans ((Kept.setCell w7 _ _).mono (fun b e _ => .inl e)) (kept8 _ (w.heap.size + 1) _ _ _ _ _ _ _ _) (fun b e _ => .inr e)
  generalize (((((((((w7.setCell ⟨w.heap.size + 1 + 1, 7, none⟩ (.slice wa c.words.length wc)).setCell ⟨w.heap.size + 1, 0, none⟩ (.int .i64 c.k)).setCell ⟨w.heap.size + 1, 1, none⟩ (.int .i64 c.s)).setCell ⟨w.heap.size + 1, 2, none⟩ (.int .i64 c.n)).setCell ⟨w.heap.size + 1, 3, none⟩ (.int .i64 c.m)).setCell ⟨w.heap.size + 1, 4, none⟩ (.slice pa c.bits.length pc)).setCell ⟨w.heap.size + 1, 5, none⟩ (.slice da c.data.length dc)).setCell ⟨w.heap.size + 1, 6, none⟩ (.slice ea c.ends.length ec)).setCell ⟨w.heap.size + 1, 7, none⟩ (.slice wa c.words.length wc)) = W at *
  have ty : ∀ {F : TypeId}, F ≠ 63 → ∀ b, (b = w.heap.size + 1 + 1 ∨ b = w.heap.size + 1) → b < w7.heap.size → ∀ cs, w7.heap[b]? ≠ some (.cells cs F (0, 0)) := by
    rintro F hF b (rfl | rfl) hb cs hc
    · rw [HT7.out.k2] at hc; cases hc; exact hF rfl
    · rw [HT7.out.k1] at hc; cases hc; exact hF rfl
  have z0 := HB0.out.size
  have z1 := HZ.out.1
  have z2 := HZ.out.2
  have z6 := HS6.out
  have z7 := HB6.out.size
  have hwe := HW7.out.2.2.1
  have hwl := HW7.out.2.1
  refine ⟨⟨pa, pc⟩, ⟨da, dc⟩, ⟨ea, ec⟩, ⟨wa, wc⟩, wvals, rfl, ⟨(HP7.out.keptT K (ty (by decide))).mono (by omega), (HD7.out.keptT K (ty (by decide))).mono (by omega), (HE7.out.keptT K (ty (by decide))).mono (by omega), (HW7.out.1.keptT K (ty (by decide))).mono (by omega), hwl, fun j t hj ht => ?_, ⟨fun b e => ?_, fun v hv b e => ?_, ?_⟩⟩, HB7.out.trans (K.to_below HB7.out.size (fun b e => by omega))⟩
  · obtain ⟨a, cap, q1, q2⟩ := hwe j t hj ht
    exact ⟨a, cap, q1, (q2.keptT K (ty (by decide))).mono (by omega)⟩
  · rw [← own_len00 pa c.bits.length pc] at e
    rw [← own_len00 da c.data.length dc]
    exact HSEP.out b e
  · obtain ⟨j, hj, rfl⟩ := List.mem_iff_getElem.1 hv
    have hj2 : j < c.words.length := by omega
    obtain ⟨a, cap, q1, q2⟩ := hwe j _ hj2 (List.getElem?_eq_getElem hj2)
    rw [List.getElem?_eq_getElem hj] at q1
    rw [Option.some.inj q1] at e
    have hb := (q2.lt b e).1
    rw [← own_len00 pa c.bits.length pc, ← own_len00 da c.data.length dc]
    exact ⟨fun e2 => by have := HDLT.out b (.inr e2); omega, fun e2 => by have := HDLT.out b (.inl e2); omega⟩
  · rw [hwl]; exact HW7.out.2.2.2
end Go.Proofs.YtmhjjhaipcgbiaaGreat


namespace Go.Proofs.YtmhjjhaipcgbiaaGreat
open Go.RowKit
set_option linter.unusedVariables false
set_option linter.unusedSimpArgs false
set_option maxRecDepth 100000
set_option maxHeartbeats 1000000
theorem tm_neg (n m : Int) (hm : 0 < m) (h : n.tmod m < 0) : n % m = n.tmod m + m ∧ -m < n.tmod m := by
  rw [Int.tmod_eq_emod] at *
  have := Int.emod_nonneg n (show m ≠ 0 by omega)
  have := Int.emod_lt_of_pos n hm
  split at h
  · omega
  · rename_i h2
    rw [if_neg h2]
    have : ((m.natAbs : Nat) : Int) = m := Int.natAbs_of_nonneg (by omega)
    have h3 : n % m ≠ 0 := fun e => h2 (.inr (Int.dvd_of_emod_eq_zero e))
    omega
theorem tm_pos (n m : Int) (hm : 0 < m) (h : ¬ n.tmod m < 0) : n % m = n.tmod m ∧ n.tmod m < m := by
  rw [Int.tmod_eq_emod] at *
  have := Int.emod_nonneg n (show m ≠ 0 by omega)
  have := Int.emod_lt_of_pos n hm
  split at h
  · rename_i h2
    rw [if_pos h2]
    omega
  · rename_i h2
    have : ((m.natAbs : Nat) : Int) = m := Int.natAbs_of_nonneg (by omega)
    omega
def withinI (n lo hi : Int) : Int := lo + n % (hi - lo + 1)
theorem within_any (n lo hi : Int) (h0 : 0 ≤ lo) (h1 : lo ≤ hi) (h2 : hi ≤ 1000000) (w : World) : Calls Tryz.prog 15 #[.int .i64 n, .int .i64 lo, .int .i64 hi] w fun e w' => e = .returned (.int .i64 (withinI n lo hi)) ∧ w = w' := by
  have hm1' : 0 < hi - lo + 1 := by omega
  by_cases ht : n.tmod (hi - lo + 1) < 0
  · have hb := tm_neg n _ hm1' ht
    have hb1 : -1000001 < n.tmod (hi - lo + 1) := by omega
    have hb := Aside.mk hb
    go_enter Tryz.func15, Tryz.ntmps15
    go_wp2
    go_ret
    refine ⟨ret_int ?_, rfl⟩
    have := hb.out
    unfold withinI
    omega
  · have hb := tm_pos n _ hm1' ht
    have hb1 : n.tmod (hi - lo + 1) < 1000001 := by omega
    have hb := Aside.mk hb
    go_enter Tryz.func15, Tryz.ntmps15
    go_wp2
    go_ret
    refine ⟨ret_int ?_, rfl⟩
    have := hb.out
    unfold withinI
    omega
end Go.Proofs.YtmhjjhaipcgbiaaGreat


namespace Go.Proofs.YtmhjjhaipcgbiaaGreat
open Go.RowKit
set_option linter.unusedVariables false
section
variable {P : Program} {ops : Array Oper} {Q : Exit → Act → World → Prop} {md : Region.Mode} {S : World → Prop} {z : Nat}
def wpE (P : Program) (md : Region.Mode) (ops : Array Oper) (Q : Exit → Act → World → Prop) (S : World → Prop) (z : Nat) : Nat → Array Bool → Act → World → Prop
  | 0, l, a, w => Region.ready md ops l = [] ∧ Q .normal a w
  | n + 1, l, a, w => (Region.ready md ops l = [] → Q .normal a w) ∧ ∀ k ∈ Region.ready md ops l, wpOp P ops Q k (fun b u => (k ≠ z → S u) ∧ wpE P md ops Q S z n (l.setIfInBounds k true) b u) a w
theorem wpE.any : ∀ {n : Nat} {l : Array Bool} {a : Act} {w : World}, wpE P md ops Q S z n l a w → wpAny P md ops Q n l a w
  | 0, _, _, _, h => h
  | _ + 1, _, _, _, h => ⟨h.1, fun k hk => wpOp_mono (fun _ _ g => g.2.any) (h.2 k hk)⟩
def Closed (md : Region.Mode) (ops : Array Oper) (l : Array Bool) : Prop := ∀ (i : Nat) o, ops[i]? = some o → l.getD i false = true → ∀ e ∈ o.after, Region.binds md e = true → l.getD e.on false = true
def closedB (md : Region.Mode) (ops : Array Oper) (l : Array Bool) : Bool := (List.range ops.size).all fun i => !l.getD i false || ((ops[i]?).map (·.after.all fun e => !Region.binds md e || l.getD e.on false)).getD true
theorem closed_spec {l : Array Bool} (h : closedB md ops l = true) : Closed md ops l := fun i o ho hi e he hb => by
  have h1 := List.all_eq_true.1 h i (List.mem_range.2 (Array.getElem?_eq_some_iff.1 ho).1)
  rw [ho, hi] at h1
  simp only [Bool.not_true, Bool.false_or, Option.map_some, Option.getD_some] at h1
  have h2 := Array.all_eq_true'.1 h1 e he
  rw [hb] at h2
  simpa using h2
theorem getD_of {l : Array Bool} {j : Nat} : (l.setIfInBounds j true).getD j false = true ∨ l.size ≤ j := by
  rcases Nat.lt_or_ge j l.size with h | h
  · exact .inl (by simp [h])
  · exact .inr h
theorem Closed.more {l : Array Bool} {j : Nat} (h : Closed md ops l) (hj : j ∈ Region.ready md ops l) : Closed md ops (l.setIfInBounds j true) := fun i o ho hi e he hb => by
  obtain ⟨_, p, hp, hall⟩ := mem_ready.1 hj
  by_cases e1 : j = i
  · subst e1
    rw [ho] at hp; cases hp
    exact getD_set_true (hall e he hb)
  · rw [getD_set_ne false e1] at hi
    exact getD_set_true (h i o ho hi e he hb)
def marks (md : Region.Mode) (ops : Array Oper) : Nat → Array Bool → Array Bool
  | 0, m => m
  | i + 1, m => marks md ops i (if m.getD i false = true then ((ops[i]?).map fun o => o.after.toList.foldl (fun m e => if Region.binds md e = true then m.setIfInBounds e.on true else m) m).getD m else m)
def lastB (md : Region.Mode) (ops : Array Oper) (z : Nat) : Bool :=
  let m := marks md ops (z + 1) ((Array.replicate ops.size false).setIfInBounds z true)
  (List.range ops.size).all fun j => j == z || m.getD j false
theorem set_sub {l m : Array Bool} {z k : Nat} (h : ∀ j, j ≠ z → m.getD j false = true → l.getD j false = true) (hk : l.getD k false = true) : ∀ j, j ≠ z → (m.setIfInBounds k true).getD j false = true → l.getD j false = true := fun j hj hm => by
  by_cases e : k = j
  · subst e; exact hk
  · rw [getD_set_ne false e] at hm; exact h j hj hm
theorem fold_sub {l : Array Bool} {z : Nat} : ∀ (es : List Edge) (m : Array Bool), (∀ j, j ≠ z → m.getD j false = true → l.getD j false = true) → (∀ e ∈ es, Region.binds md e = true → l.getD e.on false = true) →
    ∀ j, j ≠ z → (es.foldl (fun m e => if Region.binds md e = true then m.setIfInBounds e.on true else m) m).getD j false = true → l.getD j false = true
  | [], m, h, _ => h
  | e :: es, m, h, he => by
    rw [List.foldl_cons]
    refine fold_sub es _ ?_ (fun x hx => he x (List.mem_cons_of_mem _ hx))
    split
    · rename_i hb; exact set_sub h (he e (List.mem_cons_self ..) hb)
    · exact h
theorem marks_sub {l : Array Bool} (hc : Closed md ops l) (hz : ∀ o, ops[z]? = some o → ∀ e ∈ o.after, Region.binds md e = true → l.getD e.on false = true) : ∀ (n : Nat) (m : Array Bool), (∀ j, j ≠ z → m.getD j false = true → l.getD j false = true) →
    ∀ j, j ≠ z → (marks md ops n m).getD j false = true → l.getD j false = true
  | 0, m, h => h
  | n + 1, m, h => by
    rw [marks]
    refine marks_sub hc hz n _ ?_
    split
    · rename_i hm
      cases ho : ops[n]? with
      | none => exact h
      | some o =>
        simp only [Option.map_some, Option.getD_some]
        refine fold_sub _ _ h (fun e he hb => ?_)
        have he' : e ∈ o.after := by simpa using he
        by_cases en : n = z
        · subst en; exact hz o ho e he' hb
        · exact hc n o ho (h n en hm) e he' hb
    · exact h
theorem last_spec (h : lastB md ops z = true) {l : Array Bool} (hc : Closed md ops l) (hz : z ∈ Region.ready md ops l) {j : Nat} (hj : j < ops.size) (hne : j ≠ z) : l.getD j false = true := by
  obtain ⟨_, o, ho, hall⟩ := mem_ready.1 hz
  have h1 := List.all_eq_true.1 h j (List.mem_range.2 hj)
  simp only [Bool.or_eq_true, beq_iff_eq, hne, false_or] at h1
  refine marks_sub hc (fun p hp => ?_) _ _ (fun i hi hm => ?_) j hne h1
  · rw [ho] at hp; cases hp; exact hall
  · rw [getD_set_ne false (Ne.symm hi)] at hm
    simp [Array.getElem?_replicate] at hm
    split at hm <;> simp at hm
theorem ahead {k : Nat} {o : Oper} {v : Value} (hk0 : ops[k]? = some o) (hsel : ∀ (j : Nat) (p : Oper) cs b, ops[j]? = some p → p.op ≠ .select cs b) (hpan : ∀ c a w, Q (.panic c) (a.put o.dst v) w → Q (.panic c) a w)
    (hz : lastB md ops z = true) (hkz : k ≠ z) : ∀ (n : Nat) {l : Array Bool} {a : Act} {w : World},
    (∀ j p, ops[j]? = some p → j ≠ k → l.getD j true = false → (∀ e ∈ p.after, Region.binds md e = true → e.on ≠ k) → o.apart ops p = true) → k ∈ Region.ready md ops l → YieldsIf P ops S o v a → S w →
    Closed md ops l → wpE P md ops Q S z n (l.setIfInBounds k true) (a.put o.dst v) w → wpE P md ops Q S z (n + 1) l a w := by
  intro n
  induction n with
  | zero =>
    intro l a w hp hk hy hS hcl h
    refine ⟨fun e => absurd hk (by rw [e]; simp), fun j hj => ?_⟩
    by_cases hne : j = k
    · subst hne; exact hy.wpOp hk0 hS ⟨fun _ => hS, h⟩
    · have := ready_mono hj hne
      rw [h.1] at this; cases this
  | succ n ih =>
    intro l a w hp hk hy hS hcl h
    refine ⟨fun e => absurd hk (by rw [e]; simp), fun j hj => ?_⟩
    by_cases hne : j = k
    · subst hne; exact hy.wpOp hk0 hS ⟨fun _ => hS, h⟩
    have hun := (mem_ready.1 hk).1
    have hkl : k < l.size := by
      rcases Nat.lt_or_ge k l.size with hl | hl
      · exact hl
      · simp [Array.getElem?_eq_none hl] at hun
    have hkf : l.getD k false = false := by simpa [hkl] using hun
    have hjz : j ≠ z := fun e => by
      subst e
      have := last_spec hz hcl hj (Array.getElem?_eq_some_iff.1 hk0).1 (Ne.symm hne)
      rw [hkf] at this; cases this
    obtain ⟨hjun, p, hpj, hall⟩ := mem_ready.1 hj
    have hno : ∀ e ∈ p.after, Region.binds md e = true → e.on ≠ k := fun e he hb hek => by
      have g := hall e he hb
      rw [hek, hkf] at g; cases g
    refine wpOp_mono (fun b u g => ?_) (wpOp_putIf hpj (hp j p hpj hne hjun hno) (fun cs b => hsel k o cs b hk0) (fun cs b => hsel j p cs b hpj) hpan hy (h.2 j (ready_mono hj hne)))
    obtain ⟨g1, g2, g3⟩ := g
    rw [← Array.setIfInBounds_comm _ _ hne] at g3
    refine ⟨fun _ => g2 hjz, ih (fun i q hq hik hiun hino => hp i q hq hik ?_ hino) (ready_mono hk (Ne.symm hne)) g1 (g2 hjz) (hcl.more hj) g3⟩
    by_cases e : j = i
    · subst e; exact hjun
    · rwa [getD_set_ne true e] at hiun
theorem wpE_take {k : Nat} {o : Oper} {v : Value} {n : Nat} {l : Array Bool} {a : Act} {w : World} (hk0 : ops[k]? = some o) (hs : Region.noSelect ops = true) (hf : Region.free md ops l k = true) (hr : (Region.ready md ops l).contains k = true) (hz : (lastB md ops z && k != z && closedB md ops l) = true)
    (hpan : ∀ c a w, Q (.panic c) (a.put o.dst v) w → Q (.panic c) a w) (hy : YieldsIf P ops S o v a) (hS : S w)
    (h : wpE P md ops Q S z n (l.setIfInBounds k true) (a.put o.dst v) w) : wpE P md ops Q S z (n + 1) l a w := by
  simp only [Bool.and_eq_true, bne_iff_ne] at hz
  exact ahead hk0 (Region.noSelect_spec hs) hpan hz.1.1 hz.1.2 n (Region.free_spec hk0 hf) (by simpa using hr) hy hS (closed_spec hz.2) h
theorem wpE_one {k : Nat} {o : Oper} {n : Nat} {l : Array Bool} {a : Act} {w : World} (hk0 : ops[k]? = some o) (hr : Region.ready md ops l = [k])
    (h : ∀ K : Act → World → Prop, Shut (∀ b u, S u → (S u → wpE P md ops Q S z n (l.setIfInBounds k true) b u) → K b u) → if Region.wanted o (yielded ops a.tmps) = true then Oper.wp P o a w K Q else K (a.put o.dst undef) w) : wpE P md ops Q S z (n + 1) l a w := by
  refine ⟨fun e => (by rw [hr] at e; cases e), fun j hj => ?_⟩
  rw [hr] at hj
  obtain rfl : j = k := by simpa using hj
  exact wpOp_step hk0 (fun K hK => h K (fun b u hS hW => hK b u ⟨fun _ => hS, hW hS⟩))
theorem wpE_last {k : Nat} {o : Oper} {n : Nat} {l : Array Bool} {a : Act} {w : World} (hk0 : ops[k]? = some o) (hr : Region.ready md ops l = [k]) (hr2 : Region.ready md ops (l.setIfInBounds k true) = []) (hkz : k = z)
    (h : ∀ K : Act → World → Prop, Shut (∀ b u, Q .normal b u → K b u) → if Region.wanted o (yielded ops a.tmps) = true then Oper.wp P o a w K Q else K (a.put o.dst undef) w) : wpE P md ops Q S z (n + 1) l a w := by
  refine ⟨fun e => (by rw [hr] at e; cases e), fun j hj => ?_⟩
  rw [hr] at hj
  obtain rfl : j = k := by simpa using hj
  refine wpOp_step hk0 (fun K hK => h K (fun b u hq => hK b u ⟨fun e => absurd hkz e, ?_⟩))
  cases n with
  | zero => exact ⟨hr2, hq⟩
  | succ n => exact ⟨fun _ => hq, fun i hi => by rw [hr2] at hi; cases hi⟩
theorem wp_regionE {id : Nat} {a : Act} {w : World} (S : World → Prop) (z n : Nat) (hm : P.follows .mixedOrders = true) (hn : ops.size = n) (h : wpE P .any ops Q S z n (Array.replicate n false) a w.drew) : (Code.region id ops true).wp P Q a w := by
  subst hn; exact wp_region_any hm h.any
end
end Go.Proofs.YtmhjjhaipcgbiaaGreat


namespace Go.Proofs.YtmhjjhaipcgbiaaGreat
open Go.RowKit
set_option linter.unusedVariables false
set_option linter.unusedSimpArgs false
set_option maxRecDepth 100000
set_option maxHeartbeats 1000000
structure SX (w W : World) (c : Col) (wh wat wby : Int) (B D E X : SL) (vals : List Value) : Prop where
  bel : Below w.heap.size w W
  box : W.heap[w.heap.size]? = some (colB c B D E X)
  sp : W.heap[w.heap.size + 1]? = some (.cells #[.int .i64 wh, .int .i64 wat, .int .i64 wby] 93 (0, 0))
  zc : W.heap[w.heap.size + 1 + 1]? = some (.cells #[.int .i64 0, .int .i64 0, .int .i64 0, .int .i64 0, .slice none 0 0, .slice none 0 0, .slice none 0 0, .slice none 0 0] 63 (0, 0))
  own : OwnC W (w.heap.size + 3) c B D E X vals
theorem sx_start {w w4 : World} {c c0 : Col} {wh wat wby : Int} {B0 D0 E0 X0 B' D' E' X' : SL} {vals : List Value} (hb : Below w.heap.size w w4) (t3 : w4.heap[w.heap.size]? = some (colB c0 B0 D0 E0 X0)) (t4 : w4.heap[w.heap.size + 1]? = some (.cells #[.int .i64 wh, .int .i64 wat, .int .i64 wby] 93 (0, 0))) (t5 : w4.heap[w.heap.size + 1 + 1]? = some (.cells #[.int .i64 0, .int .i64 0, .int .i64 0, .int .i64 0, .slice none 0 0, .slice none 0 0, .slice none 0 0, .slice none 0 0] 63 (0, 0))) (ho : OwnC w4 (w.heap.size + 3) c B' D' E' X' vals) :
    SX w ((((((((w4.setCell ⟨w.heap.size, 0, none⟩ (.int .i64 c.k)).setCell ⟨w.heap.size, 1, none⟩ (.int .i64 c.s)).setCell ⟨w.heap.size, 2, none⟩ (.int .i64 c.n)).setCell ⟨w.heap.size, 3, none⟩ (.int .i64 c.m)).setCell ⟨w.heap.size, 4, none⟩ (.slice B'.a c.bits.length B'.c)).setCell ⟨w.heap.size, 5, none⟩ (.slice D'.a c.data.length D'.c)).setCell ⟨w.heap.size, 6, none⟩ (.slice E'.a c.ends.length E'.c)).setCell ⟨w.heap.size, 7, none⟩ (.slice X'.a c.words.length X'.c)) c wh wat wby B' D' E' X' vals := by
  have K8 := kept8 w4 w.heap.size (.int .i64 c.k) (.int .i64 c.s) (.int .i64 c.n) (.int .i64 c.m) (.slice B'.a c.bits.length B'.c) (.slice D'.a c.data.length D'.c) (.slice E'.a c.ends.length E'.c) (.slice X'.a c.words.length X'.c)
  exact ⟨set8_below hb (Nat.le_refl _) _ _ _ _ _ _ _ _, set8 t3 _ _ _ _ _ _ _ _, (K8.block _ (lt_of_blk t4) (by omega)).trans t4, (K8.block _ (lt_of_blk t5) (by omega)).trans t5, ho.kept K8 (fun b h => by omega)⟩
def setL (l : List Int) (at_ : Int) (f : Int → Int) : List Int := if l.length = 0 then l else l.set (withinI at_ 0 ((l.length : Int) - 1)).toNat (f (l.getD (withinI at_ 0 ((l.length : Int) - 1)).toNat 0))
def byteI (x : Int) : Int := x % 256
def xorI (x y : Int) : Int := ((x.toNat ^^^ y.toNat : Nat) : Int)
def spoilC (c : Col) (wh wat wby : Int) : Col :=
  if withinI wh 0 9 = 1 then ⟨c.k, c.s, wrap64 (c.n + wby), c.m, c.bits, c.data, c.ends, c.words⟩
  else if withinI wh 0 9 = 2 then ⟨c.k, c.s, c.n, wrap64 (c.m + wby), c.bits, c.data, c.ends, c.words⟩
  else if withinI wh 0 9 = 3 then ⟨c.k, c.s, c.n, c.m, setL c.bits wat (fun x => xorI x (byteI wby)), c.data, c.ends, c.words⟩
  else if withinI wh 0 9 = 4 then ⟨c.k, c.s, c.n, c.m, c.bits, setL c.data wat (fun x => xorI x (byteI wby)), c.ends, c.words⟩
  else if withinI wh 0 9 = 5 then ⟨c.k, c.s, c.n, c.m, c.bits, c.data ++ [byteI wby], c.ends, c.words⟩
  else if withinI wh 0 9 = 6 then ⟨c.k, c.s, c.n, c.m, c.bits, c.data, setL c.ends wat (fun x => wrap64 (x + wby)), c.words⟩
  else if withinI wh 0 9 = 7 then ⟨c.k, c.s, c.n, c.m, c.bits, c.data, c.ends, c.words ++ [[byteI wby]]⟩
  else if withinI wh 0 9 = 8 then ⟨c.k, wby, c.n, c.m, c.bits, c.data, c.ends, c.words⟩
  else if withinI wh 0 9 = 9 then ⟨wby, c.s, c.n, c.m, c.bits, c.data, c.ends, c.words⟩
  else c
theorem sx_end {w W : World} {c' : Col} {B D E X : SL} {vals : List Value} (hb : Below w.heap.size w W) (ho : OwnC W (w.heap.size + 3) c' B D E X vals) :
    ColBP c' w (.returned (.agg #[.int .i64 c'.k, .int .i64 c'.s, .int .i64 c'.n, .int .i64 c'.m, .slice B.a c'.bits.length B.c, .slice D.a c'.data.length D.c, .slice E.a c'.ends.length E.c, .slice X.a c'.words.length X.c])) ((((((((W.setCell ⟨w.heap.size + 1 + 1, 0, none⟩ (.int .i64 c'.k)).setCell ⟨w.heap.size + 1 + 1, 1, none⟩ (.int .i64 c'.s)).setCell ⟨w.heap.size + 1 + 1, 2, none⟩ (.int .i64 c'.n)).setCell ⟨w.heap.size + 1 + 1, 3, none⟩ (.int .i64 c'.m)).setCell ⟨w.heap.size + 1 + 1, 4, none⟩ (.slice B.a c'.bits.length B.c)).setCell ⟨w.heap.size + 1 + 1, 5, none⟩ (.slice D.a c'.data.length D.c)).setCell ⟨w.heap.size + 1 + 1, 6, none⟩ (.slice E.a c'.ends.length E.c)).setCell ⟨w.heap.size + 1 + 1, 7, none⟩ (.slice X.a c'.words.length X.c)) := by
  have K8 := kept8 W (w.heap.size + 1 + 1) (.int .i64 c'.k) (.int .i64 c'.s) (.int .i64 c'.n) (.int .i64 c'.m) (.slice B.a c'.bits.length B.c) (.slice D.a c'.data.length D.c) (.slice E.a c'.ends.length E.c) (.slice X.a c'.words.length X.c)
  exact ⟨B, D, E, X, vals, rfl, (ho.kept K8 (fun b h => by omega)).mono (by omega), set8_below hb (Nat.le_add_right _ 2) _ _ _ _ _ _ _ _⟩
theorem sx_set {w W : World} {c : Col} {wh wat wby : Int} {B D E X : SL} {vals : List Value} (h : SX w W c wh wat wby B D E X vals) (j : Nat) (v : Value) : Below w.heap.size w (W.setCell ⟨w.heap.size, j, none⟩ v) ∧ OwnC (W.setCell ⟨w.heap.size, j, none⟩ v) (w.heap.size + 3) c B D E X vals :=
  ⟨Below.setCell h.bel (Nat.le_refl _) _, h.own.kept (Kept.setCell W ⟨w.heap.size, j, none⟩ v) (fun b hb (e : b = w.heap.size) => by omega)⟩
theorem OwnC.head {w : World} {base : Nat} {c : Col} {B D E X : SL} {vals : List Value} (h : OwnC w base c B D E X vals) (k s n m : Int) : OwnC w base ⟨k, s, n, m, c.bits, c.data, c.ends, c.words⟩ B D E X vals :=
  ⟨h.bits, h.data, h.ends, h.words, h.len, h.each, h.sep⟩
structure SXE (w W : World) (c' : Col) (B D E X : SL) (vals : List Value) : Prop where
  bel : Below w.heap.size w W
  own : OwnC W (w.heap.size + 3) c' B D E X vals
theorem sx_bits {w W : World} {c : Col} {wh wat wby : Int} {B D E X : SL} {vals : List Value} (h : SX w W c wh wat wby B D E X vals) {g off cap j : Nat} (es : Value.slice B.a c.bits.length B.c = .slice (some ⟨g, off, none⟩) c.bits.length cap) (hj : withinI wat 0 ((c.bits.length : Int) - 1) = (j : Int)) (hjl : j < c.bits.length) (hl : ¬ c.bits.length = 0) (ek : withinI wh 0 9 = 3) :
    spoilC c wh wat wby = ⟨c.k, c.s, c.n, c.m, c.bits.set j (xorI (c.bits.getD j 0) (byteI wby)), c.data, c.ends, c.words⟩ ∧ SXE w (W.setCell ⟨g, off + j, none⟩ (.int .u8 (xorI (c.bits.getD j 0) (byteI wby)))) ⟨c.k, c.s, c.n, c.m, c.bits.set j (xorI (c.bits.getD j 0) (byteI wby)), c.data, c.ends, c.words⟩ B D E X vals := by
  obtain ⟨qa, qc⟩ := B
  simp only [Value.slice.injEq, true_and] at es
  obtain ⟨rfl, rfl⟩ := es
  have HB := h.own.bits
  have hst := HB.stored j (.int .u8 (xorI (c.bits.getD j 0) (byteI wby)))
  refine ⟨?_, ⟨Below.setCell h.bel (by have := (HB.lt g rfl).1; show _ ≤ g; omega) _, ⟨?_, ?_, ?_, ?_, h.own.len, fun i t hi ht => ?_, h.own.sep⟩⟩⟩
  · unfold spoilC
    rw [ek]
    show (⟨_, _, _, _, _, _, _, _⟩ : Col) = _
    simp only [setL, if_neg hl, hj, Int.toNat_natCast]
  · rw [List.length_set, List.map_set]; exact hst
  · exact h.own.data.set_other (a := ⟨g, off + j, none⟩) (fun e2 => h.own.sep.bd g rfl ((own_len00 _ _ _).symm.trans e2)) _
  · exact h.own.ends.set_other (a := ⟨g, off + j, none⟩) (own_types HB h.own.ends (by decide) g rfl) _
  · exact h.own.words.set_other (a := ⟨g, off + j, none⟩) (own_types HB h.own.words (by decide) g rfl) _
  · obtain ⟨a, cp, q1, q2⟩ := h.own.each i t hi ht
    exact ⟨a, cp, q1, q2.set_other (a := ⟨g, off + j, none⟩) (fun e2 => (h.own.sep.bw _ (List.mem_of_getElem? q1) g e2).1 rfl) _⟩
theorem sx_data {w W : World} {c : Col} {wh wat wby : Int} {B D E X : SL} {vals : List Value} (h : SX w W c wh wat wby B D E X vals) {g off cap j : Nat} (es : Value.slice D.a c.data.length D.c = .slice (some ⟨g, off, none⟩) c.data.length cap) (hj : withinI wat 0 ((c.data.length : Int) - 1) = (j : Int)) (hjl : j < c.data.length) (hl : ¬ c.data.length = 0) (ek : withinI wh 0 9 = 4) :
    spoilC c wh wat wby = ⟨c.k, c.s, c.n, c.m, c.bits, c.data.set j (xorI (c.data.getD j 0) (byteI wby)), c.ends, c.words⟩ ∧ SXE w (W.setCell ⟨g, off + j, none⟩ (.int .u8 (xorI (c.data.getD j 0) (byteI wby)))) ⟨c.k, c.s, c.n, c.m, c.bits, c.data.set j (xorI (c.data.getD j 0) (byteI wby)), c.ends, c.words⟩ B D E X vals := by
  obtain ⟨qa, qc⟩ := D
  simp only [Value.slice.injEq, true_and] at es
  obtain ⟨rfl, rfl⟩ := es
  have HB := h.own.data
  have hst := HB.stored j (.int .u8 (xorI (c.data.getD j 0) (byteI wby)))
  refine ⟨?_, ⟨Below.setCell h.bel (by have := (HB.lt g rfl).1; show _ ≤ g; omega) _, ⟨?_, ?_, ?_, ?_, h.own.len, fun i t hi ht => ?_, h.own.sep⟩⟩⟩
  · unfold spoilC
    rw [ek]
    show (⟨_, _, _, _, _, _, _, _⟩ : Col) = _
    simp only [setL, if_neg hl, hj, Int.toNat_natCast]
  · exact h.own.bits.set_other (a := ⟨g, off + j, none⟩) (fun e2 => h.own.sep.bd g ((own_len00 _ _ _).symm.trans e2) rfl) _
  · rw [List.length_set, List.map_set]; exact hst
  · exact h.own.ends.set_other (a := ⟨g, off + j, none⟩) (own_types HB h.own.ends (by decide) g rfl) _
  · exact h.own.words.set_other (a := ⟨g, off + j, none⟩) (own_types HB h.own.words (by decide) g rfl) _
  · obtain ⟨a, cp, q1, q2⟩ := h.own.each i t hi ht
    exact ⟨a, cp, q1, q2.set_other (a := ⟨g, off + j, none⟩) (fun e2 => (h.own.sep.bw _ (List.mem_of_getElem? q1) g e2).2 rfl) _⟩
theorem sx_ends {w W : World} {c : Col} {wh wat wby : Int} {B D E X : SL} {vals : List Value} (h : SX w W c wh wat wby B D E X vals) {g off cap j : Nat} (es : Value.slice E.a c.ends.length E.c = .slice (some ⟨g, off, none⟩) c.ends.length cap) (hj : withinI wat 0 ((c.ends.length : Int) - 1) = (j : Int)) (hjl : j < c.ends.length) (hl : ¬ c.ends.length = 0) (ek : withinI wh 0 9 = 6) :
    spoilC c wh wat wby = ⟨c.k, c.s, c.n, c.m, c.bits, c.data, c.ends.set j (wrap64 (c.ends.getD j 0 + wby)), c.words⟩ ∧ SXE w (W.setCell ⟨g, off + j, none⟩ (.int .i64 (wrap64 (c.ends.getD j 0 + wby)))) ⟨c.k, c.s, c.n, c.m, c.bits, c.data, c.ends.set j (wrap64 (c.ends.getD j 0 + wby)), c.words⟩ B D E X vals := by
  obtain ⟨qa, qc⟩ := E
  simp only [Value.slice.injEq, true_and] at es
  obtain ⟨rfl, rfl⟩ := es
  have HB := h.own.ends
  have hst := HB.stored j (.int .i64 (wrap64 (c.ends.getD j 0 + wby)))
  refine ⟨?_, ⟨Below.setCell h.bel (by have := (HB.lt g rfl).1; show _ ≤ g; omega) _, ⟨?_, ?_, ?_, ?_, h.own.len, fun i t hi ht => ?_, h.own.sep⟩⟩⟩
  · unfold spoilC
    rw [ek]
    show (⟨_, _, _, _, _, _, _, _⟩ : Col) = _
    simp only [setL, if_neg hl, hj, Int.toNat_natCast]
  · exact h.own.bits.set_other (a := ⟨g, off + j, none⟩) (own_types HB h.own.bits (by decide) g rfl) _
  · exact h.own.data.set_other (a := ⟨g, off + j, none⟩) (own_types HB h.own.data (by decide) g rfl) _
  · rw [List.length_set, List.map_set]; exact hst
  · exact h.own.words.set_other (a := ⟨g, off + j, none⟩) (own_types HB h.own.words (by decide) g rfl) _
  · obtain ⟨a, cp, q1, q2⟩ := h.own.each i t hi ht
    exact ⟨a, cp, q1, q2.set_other (a := ⟨g, off + j, none⟩) (own_types HB q2 (by decide) g rfl) _⟩
theorem new_apart {v v' : Value} {N b : Nat} (h : v'.ownBlock = v.ownBlock ∨ ∃ b, v'.ownBlock = some b ∧ N ≤ b) (h1 : v.ownBlock ≠ some b) (h2 : b < N) : v'.ownBlock ≠ some b := by
  rcases h with h | ⟨k, h, hk⟩
  · rw [h]; exact h1
  · rw [h]; intro e; cases e; omega
theorem sx_app5 {w W W6 : World} {c : Col} {wh wat wby : Int} {B D E X : SL} {vals : List Value} (h : SX w W c wh wat wby B D E X vals) {x : Int} {v' : Value} (hA : AppP (W.alloc (.cells #[.int .u8 x] 5)) (w.heap.size + 3) 5 1 (.slice D.a c.data.length D.c) c.data.length (c.data.map (.int .u8)) 1 [.int .u8 x] v' W6) :
    ∃ da dc, v' = .slice da (c.data.length + 1) dc ∧ W6.heap[w.heap.size]? = some (colB c B D E X) ∧ W6.heap[w.heap.size + 1 + 1]? = some (.cells #[.int .i64 0, .int .i64 0, .int .i64 0, .int .i64 0, .slice none 0 0, .slice none 0 0, .slice none 0 0, .slice none 0 0] 63 (0, 0)) ∧
      ∀ u, SXE w (W6.setCell ⟨w.heap.size, 5, none⟩ u) ⟨c.k, c.s, c.n, c.m, c.bits, c.data ++ [x], c.ends, c.words⟩ B ⟨da, dc⟩ E X vals := by
  obtain ⟨da, dc, rfl⟩ := hA.own.form
  have hb0 := below_new W (.cells #[.int .u8 x] 5)
  have hz : (W.alloc (.cells #[.int .u8 x] 5)).heap.size = W.heap.size + 1 := by simp
  have K : Kept (fun k => some k = (Value.slice D.a c.data.length D.c).ownBlock) (W.alloc (.cells #[.int .u8 x] 5)) W6 := Kept.of_grown hA.grown
  have hlt := h.own.data.lt
  have OC := h.own.below hb0
  have hbk : ∀ {b : Nat} {o : Obj}, W.heap[b]? = some o → b < w.heap.size + 3 → W6.heap[b]? = some o := fun {b o} e e2 => by
    have e1 := (hb0.block _ (lt_of_blk e)).trans e
    exact (K.block _ (lt_of_blk e1) (fun q => by have := (hlt b q.symm).1; omega)).trans e1
  refine ⟨da, dc, rfl, hbk h.box (by omega), hbk h.zc (by omega), fun u => ?_⟩
  have K6 : Kept (fun k => k = w.heap.size) W6 (W6.setCell ⟨w.heap.size, 5, none⟩ u) := Kept.setCell W6 ⟨w.heap.size, 5, none⟩ u
  have mv : ∀ {F : TypeId} {n : Nat} {v : Value} {xs : List Value}, Own (W.alloc (.cells #[.int .u8 x] 5)) (w.heap.size + 3) F 1 v n xs → (∀ b, v.ownBlock = some b → (Value.slice D.a c.data.length D.c).ownBlock ≠ some b) → Own (W6.setCell ⟨w.heap.size, 5, none⟩ u) (w.heap.size + 3) F 1 v n xs := fun {F n v xs} ho hn =>
    (ho.kept K (fun b e q => hn b e q.symm)).kept K6 (fun b e q => by have := (ho.lt b e).1; omega)
  have hW := h.bel.size
  refine ⟨Below.setCell ((h.bel.trans (hb0.mono hW)).trans (K.to_below (by omega) (fun k e => by have := (hlt k e.symm).1; omega))) (Nat.le_refl _) _, ⟨mv OC.bits ?_, ?_, mv OC.ends ?_, mv OC.words ?_, h.own.len, fun i t hi ht => ?_, ⟨fun b e => ?_, fun v hv b e => ⟨(h.own.sep.bw v hv b e).1, ?_⟩, h.own.sep.ww⟩⟩⟩
  · exact fun b e => by rw [own_len00]; exact h.own.sep.bd b ((own_len00 _ _ _).symm.trans e)
  · show Own _ _ _ 1 (.slice da (c.data ++ [x]).length dc) (c.data ++ [x]).length ((c.data ++ [x]).map (.int .u8))
    rw [List.length_append, List.length_singleton, List.map_append]
    exact hA.own.kept K6 (fun b e q => by have := (hA.own.lt b e).1; omega)
  · exact fun b e => own_types OC.ends OC.data (by decide) b e
  · exact fun b e => own_types OC.words OC.data (by decide) b e
  · obtain ⟨a, cp, q1, q2⟩ := OC.each i t hi ht
    exact ⟨a, cp, q1, mv q2 (fun b e => by rw [own_len00]; exact (h.own.sep.bw _ (List.mem_of_getElem? q1) b e).2)⟩
  · rw [← own_len00 da (c.data.length + 1) dc]
    exact new_apart hA.blk (by rw [own_len00]; exact h.own.sep.bd b e) (OC.bits.lt b ((own_len00 _ _ _).trans e)).2
  · rw [← own_len00 da (c.data.length + 1) dc]
    refine new_apart hA.blk (by rw [own_len00]; exact (h.own.sep.bw v hv b e).2) ?_
    obtain ⟨i, hi, rfl⟩ := List.mem_iff_getElem.1 hv
    obtain ⟨a, cp, q1, q2⟩ := OC.each i _ (by have := h.own.len; omega) (List.getElem?_eq_getElem (by have := h.own.len; omega))
    rw [List.getElem?_eq_getElem hi] at q1
    rw [Option.some.inj q1] at e
    exact (q2.lt b e).2
theorem sx_app7 {w W W6 : World} {c : Col} {wh wat wby : Int} {B D E X : SL} {vals : List Value} (h : SX w W c wh wat wby B D E X vals) {x : Int} {v' : Value}
    (hA : AppP ((W.alloc (.cells #[.int .u8 x] 5)).alloc (.cells #[.slice (some ⟨W.heap.size, 0, none⟩) 1 1] 43)) (w.heap.size + 3) 43 1 (.slice X.a c.words.length X.c) c.words.length vals 1 [.slice (some ⟨W.heap.size, 0, none⟩) 1 1] v' W6) :
    ∃ da dc, v' = .slice da (c.words.length + 1) dc ∧ W6.heap[w.heap.size]? = some (colB c B D E X) ∧ W6.heap[w.heap.size + 1 + 1]? = some (.cells #[.int .i64 0, .int .i64 0, .int .i64 0, .int .i64 0, .slice none 0 0, .slice none 0 0, .slice none 0 0, .slice none 0 0] 63 (0, 0)) ∧
      ∀ u, SXE w (W6.setCell ⟨w.heap.size, 7, none⟩ u) ⟨c.k, c.s, c.n, c.m, c.bits, c.data, c.ends, c.words ++ [[x]]⟩ B D E ⟨da, dc⟩ (vals ++ [.slice (some ⟨W.heap.size, 0, none⟩) 1 1]) := by
  obtain ⟨da, dc, rfl⟩ := hA.own.form
  have hb1 := below_new W (.cells #[.int .u8 x] 5)
  have hb0 : Below W.heap.size W ((W.alloc (.cells #[.int .u8 x] 5)).alloc (.cells #[.slice (some ⟨W.heap.size, 0, none⟩) 1 1] 43)) := hb1.trans ((below_new _ _).mono (by simp))
  have hN : Own ((W.alloc (.cells #[.int .u8 x] 5)).alloc (.cells #[.slice (some ⟨W.heap.size, 0, none⟩) 1 1] 43)) W.heap.size 5 1 (.slice (some ⟨W.heap.size, 0, none⟩) 1 1) 1 [.int .u8 x] :=
    (show Own (W.alloc (.cells #[.int .u8 x] 5)) W.heap.size 5 1 (.slice (some ⟨W.heap.size, 0, none⟩) 1 1) 1 [.int .u8 x] from ⟨rfl, .inr ⟨W.heap.size, 0, 1, _, rfl, Nat.le_refl _, heap_alloc_new W _, Nat.le_refl _, by decide, by simp, fun j hj => by
      have hj0 : j = 0 := by simpa using hj
      subst hj0
      rfl⟩⟩).alloc _
  generalize hW0 : ((W.alloc (.cells #[.int .u8 x] 5)).alloc (.cells #[.slice (some ⟨W.heap.size, 0, none⟩) 1 1] 43)) = W0 at *
  have hz : W0.heap.size = W.heap.size + 2 := by rw [← hW0]; simp
  clear hW0
  have K : Kept (fun k => some k = (Value.slice X.a c.words.length X.c).ownBlock) W0 W6 := Kept.of_grown hA.grown
  have hlt := h.own.words.lt
  have OC := h.own.below hb0
  have hbk : ∀ {b : Nat} {o : Obj}, W.heap[b]? = some o → b < w.heap.size + 3 → W6.heap[b]? = some o := fun {b o} e e2 => by
    have e1 := (hb0.block _ (lt_of_blk e)).trans e
    exact (K.block _ (lt_of_blk e1) (fun q => by have := (hlt b q.symm).1; omega)).trans e1
  refine ⟨da, dc, rfl, hbk h.box (by omega), hbk h.zc (by omega), fun u => ?_⟩
  have K6 : Kept (fun k => k = w.heap.size) W6 (W6.setCell ⟨w.heap.size, 7, none⟩ u) := Kept.setCell W6 ⟨w.heap.size, 7, none⟩ u
  have hW := h.bel.size
  have hl3 := lt_of_blk h.zc
  have hW3 : w.heap.size + 3 ≤ W.heap.size := by omega
  have hX := OC.words
  have mv : ∀ {F : TypeId} {n : Nat} {v : Value} {xs : List Value}, Own W0 (w.heap.size + 3) F 1 v n xs → F ≠ 43 → Own (W6.setCell ⟨w.heap.size, 7, none⟩ u) (w.heap.size + 3) F 1 v n xs := fun {F n v xs} ho hn =>
    (ho.kept K (fun b e q => own_types ho hX hn b e q.symm)).kept K6 (fun b e q => by have := (ho.lt b e).1; omega)
  have hvl : vals.length = c.words.length := h.own.len
  have hvlt : ∀ v ∈ vals, ∀ b, v.ownBlock = some b → b < W.heap.size := fun v hv b e => by
    obtain ⟨i, hi, rfl⟩ := List.mem_iff_getElem.1 hv
    obtain ⟨a, cp, q1, q2⟩ := h.own.each i _ (by omega) (List.getElem?_eq_getElem (show i < c.words.length by omega))
    rw [List.getElem?_eq_getElem hi] at q1
    rw [Option.some.inj q1] at e
    exact (q2.lt b e).2
  refine ⟨Below.setCell ((h.bel.trans (hb0.mono hW)).trans (K.to_below (by omega) (fun k e => by have := (hlt k e.symm).1; omega))) (Nat.le_refl _) _, ⟨mv OC.bits (by decide), mv OC.data (by decide), mv OC.ends (by decide), ?_, ?_, fun i t hi ht => ?_, ⟨h.own.sep.bd, fun v hv b e => ?_, ?_⟩⟩⟩
  · show Own _ _ _ 1 (.slice da (c.words ++ [[x]]).length dc) (c.words ++ [[x]]).length _
    rw [List.length_append, List.length_singleton]
    exact hA.own.kept K6 (fun b e q => by have := (hA.own.lt b e).1; omega)
  · simp [hvl]
  · rcases Nat.lt_or_ge i c.words.length with hi2 | hi2
    · rw [List.getElem?_append_left hi2] at ht
      obtain ⟨a, cp, q1, q2⟩ := OC.each i t hi2 ht
      exact ⟨a, cp, by rw [List.getElem?_append_left (by omega)]; exact q1, mv q2 (by decide)⟩
    · have hi3 : i - c.words.length < 1 := by have := (List.getElem?_eq_some_iff.1 ht).1; rw [List.length_append, List.length_singleton] at this; omega
      rw [List.getElem?_append_right hi2, show i - c.words.length = 0 by omega] at ht
      obtain rfl : [x] = t := Option.some.inj ht
      refine ⟨some ⟨W.heap.size, 0, none⟩, 1, ?_, mv (hN.mono hW3) (by decide)⟩
      rw [List.getElem?_append_right (by omega), show i - vals.length = 0 by omega]
      rfl
  · rcases List.mem_append.1 hv with hv | hv
    · exact h.own.sep.bw v hv b e
    · simp at hv; subst hv
      cases e
      exact ⟨fun e2 => Nat.lt_irrefl _ (h.own.bits.lt _ ((own_len00 _ _ _).trans e2)).2, fun e2 => Nat.lt_irrefl _ (h.own.data.lt _ ((own_len00 _ _ _).trans e2)).2⟩
  · intro i i' v v' hi hi' h1 h2 b e
    rw [List.length_append, List.length_singleton] at hi'
    rw [List.getElem?_append_left (by omega)] at h1
    rcases Nat.lt_or_ge i' vals.length with hi2 | hi2
    · rw [List.getElem?_append_left hi2] at h2
      exact h.own.sep.ww i i' v v' hi hi2 h1 h2 b e
    · rw [List.getElem?_append_right hi2, show i' - vals.length = 0 by omega] at h2
      obtain rfl := Option.some.inj h2
      intro e2
      cases e2
      exact Nat.lt_irrefl _ (hvlt v (List.mem_of_getElem? h1) _ e)
end Go.Proofs.YtmhjjhaipcgbiaaGreat
