/- Texts of this claim, one behind the other: Twins, Lend. -/
import Derived.Test.YtmhjjhaipcgbiaaGreatZooP20
import Derived.Test.YtmhjjhaipcgbiaaGreatZooP24
import Derived.Test.YtmhjjhaipcgbiaaGreatZooP23
import Derived.Test.YtmhjjhaipcgbiaaGreatZooP29

namespace Go.Proofs.YtmhjjhaipcgbiaaGreat
open Go.RowKit
set_option linter.unusedVariables false
set_option linter.unusedSimpArgs false
set_option maxRecDepth 100000
set_option maxHeartbeats 1000000
theorem bytesinfo7 : (Tryz.prog.info? 43).map (fun i => (i.zero, i.size, i.bytes)) = some (some (.slice none 0 0), 1, 24) := by kernel_rfl
structure TwI (w wr : World) (ws : List (List Int)) (i : Nat) (v : Value) (vals : List Value) : Prop where
  out : Own wr w.heap.size 43 1 v i vals
  own : WOwn wr w.heap.size i vals ws
  sep : WSep i vals
  below : Below w.heap.size w wr
theorem twins_step {w wr w3 w5 : World} {ws : List (List Int)} {i : Nat} {v v' : Value} {vals : List Value} {t : List Int} {ta : Option Addr} {tc : Nat} (h : TwI w wr ws i v vals) (hi : ws[i]? = some t) (ho : Own w3 wr.heap.size 5 1 (.slice ta t.length tc) t.length (t.map (.int .u8))) (hb : Below wr.heap.size wr w3)
    (hA : AppP (w3.alloc (.cells #[.slice ta t.length tc] 43)) w.heap.size 43 1 v i vals 1 [.slice ta t.length tc] v' w5) : TwI w w5 ws (i + 1) v' (vals ++ [.slice ta t.length tc]) := by
  have hl : vals.length = i := by have := h.out.1; omega
  have hs : w.heap.size ≤ wr.heap.size := h.below.size
  have hs3 : wr.heap.size ≤ w3.heap.size := hb.size
  have hov := h.out.below hb
  have K : Kept (fun b => v.ownBlock = some b) w3 w5 := (Kept.of_below (below_new w3 _)).trans ((Kept.of_grown hA.grown).mono (fun b e _ => e.symm)) (fun _ e _ => e)
  have keep : ∀ {a : Value} {n b0 : Nat} {xs : List Value}, Own w3 b0 5 1 a n xs → Own w5 b0 5 1 a n xs := fun h2 => h2.kept K (fun b e e2 => own_blk h2 e |>.elim (fun cur q => hov.blk_ne q (by decide) e2))
  refine ⟨hA.own, fun j u hj hu => ?_, fun j j' x x' h1 h2 hx hx' b e e2 => ?_, ?_⟩
  · by_cases e : j < i
    · obtain ⟨a, cap, q1, q2⟩ := h.own j u e hu
      exact ⟨a, cap, by rw [List.getElem?_append_left (by omega)]; exact q1, keep (q2.below hb)⟩
    · obtain rfl : j = i := by omega
      rw [hi] at hu; cases hu
      exact ⟨ta, tc, by rw [← hl, List.getElem?_append_right (Nat.le_refl _)]; simp, (keep ho).mono hs⟩
  · by_cases e3 : j' < i
    · rw [List.getElem?_append_left (by omega)] at hx hx'
      exact h.sep j j' x x' h1 e3 hx hx' b e e2
    · obtain rfl : j' = i := by omega
      rw [List.getElem?_append_left (by omega)] at hx
      rw [← hl, List.getElem?_append_right (Nat.le_refl _)] at hx'
      simp at hx'
      subst hx'
      have hjl : j < ws.length := by have := (List.getElem?_eq_some_iff.1 hi).1; omega
      obtain ⟨a, cap, q1, q2⟩ := h.own j _ h1 (List.getElem?_eq_getElem hjl)
      rw [q1] at hx; cases hx
      have := (q2.lt b e).2
      have := (ho.lt b e2).1
      omega
  · refine (h.below.trans (hb.mono hs)).trans (((below_new w3 _).mono (by omega)).trans (below_of_grown (B := w.heap.size) hA.grown (by simp; omega) (fun k e => (h.out.lt k e).1)))
theorem twins_any (ws : List (List Int)) (vals0 : List Value) (X : SL) (hl : ws.length ≤ 100000000) (hsm : ∀ t ∈ ws, t.length ≤ 100000000) (w : World) (h : Rd w 1 (.slice X.a ws.length X.c) ws.length vals0) (he : RdWs w vals0 ws) :
    Calls Tryz.prog 81 #[.slice X.a ws.length X.c] w (WordsP ws w) := by
  obtain ⟨xa, xc⟩ := X
  have HR := Aside.mk h
  have HE := Aside.mk he
  have hl0 : vals0.length = ws.length := he.1
  clear h he
  dsimp only at HR ⊢
  generalize hn : ws.length = n at *
  have HN := Aside.mk hn
  have HL0 := Aside.mk hl0
  clear hn hl0
  go_enter Tryz.func81, Tryz.ntmps81
  go_wp2_with fail
  go_loopw [3, 4] (fun ov i0 wr => ∃ (i : Nat) (oa : Option Addr) (oc : Nat), i ≤ n ∧ ov = .slice oa i oc ∧ i0 = .int .i64 (i : Int) ∧ Aside (∃ vals, TwI w wr ws i (.slice oa i oc) vals)) (fun _ i0 _ => n - (intOf i0).toNat)
  case atStart => exact ⟨0, none, 0, by omega, rfl, rfl, ⟨[], Own.nil _ _ _ _, fun j t h => by omega, fun j j' _ _ h h2 => by omega, Below.refl _ _⟩⟩
  case round =>
    obtain ⟨i, oa, oc, hi, rfl, rfl, hp⟩ := hrel
    obtain ⟨vals, HT⟩ := hp.out
    have HT := Aside.mk HT
    clear hp
    by_cases hlt : i < n
    · obtain ⟨t, ht⟩ : ∃ t, ws[i]? = some t := ⟨_, List.getElem?_eq_getElem (by have := HN.out; omega)⟩
      obtain ⟨g, o, cp, e1, hx1, hx2, hc⟩ := (HR.out.below HT.out.below).some_ (by have := HL0.out; omega)
      simp only [Value.slice.injEq, true_and] at e1
      obtain ⟨rfl, rfl⟩ := e1
      obtain ⟨a, cap, q1, q2⟩ := (HE.out.below HT.out.below).2 i t ht
      have d1 := hc i _ q1
      have hts := hsm t (List.mem_of_getElem? ht)
      have HTW := Aside.mk (twin_bytes t ⟨a, cap⟩ hts wr q2)
      have HTT := Aside.mk ht
      clear hc q1 q2 ht
      dsimp only at HTW
      go_wp2_with (first
        | (go_at_call 80; refine HTW.out.mono ?_; rintro e w3 ⟨ta, tc, rfl, ho, hb3⟩; have HO := Aside.mk ho; have HB3 := Aside.mk hb3; clear ho hb3)
        | (at_builtin; refine wpList_app2 _ rfl _ _ 37 37 rfl w.heap.size 43 (.slice none 0 0) 1 24 Tryz.underlying37 bytesinfo7 rfl _ i vals rfl ((HT.out.out.below HB3.out).alloc _) _ 1 [.slice ta t.length tc] rfl (src_one Tryz.underlying37 _ _ _ rfl rfl) (by unfold maxLen; omega) (by omega) (Nat.le_trans HT.out.below.size (Nat.le_trans HB3.out.size (by simp))) ?_))
      intro v5 w5 hA
      obtain ⟨a5, c5, rfl⟩ := hA.own.form
      have H5 := Aside.mk (twins_step HT.out HTT.out HO.out HB3.out hA)
      clear hA
      go_wp2_with fail
      exact ⟨⟨i + 1, a5, c5, by omega, rfl, by simp, ⟨_, H5.out⟩⟩, by simp [intOf]; omega⟩
    · obtain rfl : i = n := by omega
      go_wp2_with fail
      go_ret
      have h := HT.out
      have := HN.out
      subst this
      exact ⟨_, _, vals, rfl, h.out, by have := h.out.1; omega, h.own, h.below, h.sep⟩
end Go.Proofs.YtmhjjhaipcgbiaaGreat


namespace Go.Proofs.YtmhjjhaipcgbiaaGreat
open Go.RowKit
set_option linter.unusedVariables false
set_option linter.unusedSimpArgs false
set_option maxRecDepth 100000
set_option maxHeartbeats 1000000
theorem own_fresh (w : World) (cur : Array Value) (E : TypeId) (c : Nat) (h : c ≤ cur.size) (hm : c ≤ maxLen) : Own (w.alloc (.cells cur E)) w.heap.size E 1 (.slice (some ⟨w.heap.size, 0, none⟩) 0 c) 0 [] :=
  ⟨rfl, .inr ⟨w.heap.size, 0, c, cur, rfl, Nat.le_refl _, heap_alloc_new w _, Nat.zero_le _, hm, by omega, fun j hj => by omega⟩⟩
end Go.Proofs.YtmhjjhaipcgbiaaGreat
