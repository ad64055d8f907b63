/- Texts of this claim, one behind the other: EqC, Lay2. -/
import Derived.Test.YtmhjjhaipcgbiaaSpoP20
import Derived.Test.YtmhjjhaipcgbiaaSpoP15
import Derived.Test.YtmhjjhaipcgbiaaSpoP28
import Derived.Test.YtmhjjhaipcgbiaaSpoP2
import Derived.Test.YtmhjjhaipcgbiaaSpoP11
import Derived.BigQuiet
import Derived.Deep.QuietTactic

namespace Go.Proofs.Ytmhjjhaipcgbiaa
open Go.RowKit
set_option linter.unusedVariables false
set_option linter.unusedSimpArgs false
set_option maxRecDepth 100000
set_option maxHeartbeats 4000000
theorem str_eq {xs ys : List Int} (hx : IsBytes xs) (hy : IsBytes ys) : ((strOfNums xs).toList == (strOfNums ys).toList) = decide (xs = ys) := by
  rw [Bool.eq_iff_iff, beq_iff_eq, decide_eq_true_eq, ByteArray.toList_eq, ByteArray.toList_eq, strOfNums_data, strOfNums_data]
  exact ⟨map_byte_inj xs ys hx hy, fun h => by rw [h]⟩
end Go.Proofs.Ytmhjjhaipcgbiaa


namespace Go.Proofs.Ytmhjjhaipcgbiaa
open Go.RowKit
set_option linter.unusedVariables false
set_option linter.unusedSimpArgs false
set_option maxRecDepth 100000
set_option maxHeartbeats 1000000
structure W17 (w : World) (base wb : Nat) (ws : List (List Int)) (wv : Value) (vals : List Value) : Prop where
  blk : w.heap[wb]? = some (.cells #[wv] 185 (0, 0))
  bb : base ≤ wb
  row : Own w base 37 1 wv ws.length vals
  len : vals.length = ws.length
  each : WOwn w base ws.length vals ws
  sep : WSep ws.length vals
  bytes : ∀ t ∈ ws, IsBytes t
theorem W17.keptT {w w' : World} {base wb : Nat} {ws : List (List Int)} {wv : Value} {vals : List Value} {S : Nat → Prop} (h : W17 w base wb ws wv vals) (hk : Kept S w w') (h1 : ∀ E : TypeId, E = 185 ∨ E = 37 → ∀ b, S b → b < w.heap.size → ∀ cs, w.heap[b]? ≠ some (.cells cs E (0, 0))) (h2 : ∀ (j : Nat) v, vals[j]? = some v → ∀ b, v.ownBlock = some b → ¬ S b) : W17 w' base wb ws wv vals := by
  refine ⟨(hk.block _ (lt_of_blk h.blk) (fun e => h1 _ (.inl rfl) wb e (lt_of_blk h.blk) _ h.blk)).trans h.blk, h.bb, h.row.keptT hk (h1 _ (.inr rfl)), h.len, fun j t hj ht => ?_, h.sep, h.bytes⟩
  obtain ⟨a, cap, q1, q2⟩ := h.each j t hj ht
  exact ⟨a, cap, q1, q2.kept hk (h2 j _ q1)⟩
theorem W17.below {w w' : World} {base wb : Nat} {ws : List (List Int)} {wv : Value} {vals : List Value} (h : W17 w base wb ws wv vals) (hb : Below w.heap.size w w') : W17 w' base wb ws wv vals :=
  h.keptT (Kept.of_below (S := fun _ => False) hb) (fun _ _ _ e => e.elim) (fun _ _ _ _ _ e => e)
def FindP (ws : List (List Int)) (t : List Int) (w : World) (e : Ending) (w' : World) : Prop :=
  e = .returned (.tuple #[.int .i64 (if ws.contains t then (codeOf ws t : Int) else 0), .bool (ws.contains t)]) ∧ Below w.heap.size w w'
theorem take_not {ws : List (List Int)} {t : List Int} {i : Nat} (hi : i < ws.length) (h : (ws.take i).contains t = false) (e : ws[i] ≠ t) : (ws.take (i + 1)).contains t = false := by
  rw [List.take_succ_eq_append_getElem hi]
  simp only [List.contains_eq_mem, decide_eq_false_iff_not, List.mem_append, List.mem_singleton] at h ⊢
  rintro (h1 | h1)
  · exact h h1
  · exact e h1.symm
theorem code_at {ws : List (List Int)} {t : List Int} {i : Nat} (hi : i < ws.length) (h : (ws.take i).contains t = false) (e : ws[i] = t) : ws.contains t = true ∧ codeOf ws t = i := by
  have hm : t ∈ ws := e ▸ List.getElem_mem hi
  refine ⟨by simpa using hm, ?_⟩
  have hn : t ∉ ws.take i := by simpa using h
  unfold codeOf
  rw [← List.take_append_drop i ws, List.idxOf_append, if_neg hn, List.drop_eq_getElem_cons hi, e]
  simp [List.length_take]
  omega
theorem find17 (base wb : Nat) (ws : List (List Int)) (wv : Value) (vals : List Value) (t : List Int) (ht : IsBytes t) (hw : ws.length ≤ 100000000) (ta : Option Addr) (tc : Nat) (w : World) (h : W17 w base wb ws wv vals) (hr : Rd w 1 (.slice ta t.length tc) t.length (t.map (.int .u8))) :
    Calls Try.prog 118 #[.pointer (some ⟨wb, 0, none⟩), .slice ta t.length tc] w (FindP ws t w) := by
  obtain ⟨wa, wc, rfl⟩ := h.row.form
  have H := Aside.mk h
  have HT := Aside.mk ht
  have HR := Aside.mk hr
  clear h ht hr
  generalize htl : t.length = tl at *
  have HTL := Aside.mk htl
  clear htl
  go_enter Try.func118, Try.ntmps118
  go_wp2
  go_loopw [6] (fun iv wr => ∃ i : Nat, i ≤ ws.length ∧ iv = .int .i64 (i : Int) ∧ Aside (Below w.heap.size w wr ∧ (ws.take i).contains t = false)) (fun iv _ => ws.length - (intOf iv).toNat)
  case atStart => exact ⟨0, by omega, rfl, ⟨Below.refl _ _, by simp⟩⟩
  case round =>
    obtain ⟨i, hi, rfl, hp⟩ := hrel
    have H2 := Aside.mk (H.out.below hp.out.1)
    have c0 := cell_blk (k := 0) H2.out.blk
    simp at c0
    by_cases hlt : i < ws.length
    · obtain ⟨ua, uc, q1, q2⟩ := H2.out.each i _ hlt (List.getElem?_eq_getElem hlt)
      have hvl := H2.out.len
      obtain ⟨g, off, cp, e, h1, h2, hcc⟩ := H2.out.row.rd.some_ (by omega)
      simp only [Value.slice.injEq, true_and] at e
      obtain ⟨e1, e2⟩ := e
      rw [e1, e2] at c0
      have hcu := hcc i _ q1
      have hcA := fun n => conv_any ua _ uc ws[i] rfl (wr.drewN n) (q2.rd.below (below_drewN _ _ n))
      have hcB := fun n => conv_any ta _ tc t HTL.out (wr.drewN n) ((HR.out.below hp.out.1).below (below_drewN _ _ n))
      have HDD := Aside.mk (str_eq (H.out.bytes _ (List.getElem_mem hlt)) HT.out)
      have HN := Aside.mk (fun e => take_not hlt hp.out.2 e)
      have HC := Aside.mk (fun e => code_at hlt hp.out.2 e)
      clear hcc q1 q2 hvl e1 e2
      generalize ws[i] = x at *
      generalize strOfNums x = sx at *
      generalize strOfNums t = sy at *
      by_cases hq : x = t
      · have d1 := HDD.out
        rw [decide_eq_true hq] at d1
        obtain ⟨k1, k2⟩ := HC.out hq
        have HK := Aside.mk (And.intro k1 k2)
        clear hq k1 k2
        go_wp2_with fail
        go_quiet (fail)
        go_wp2_with fail
        go_ret2
        refine ⟨by rw [HK.out.1, HK.out.2]; simp, hp.out.1.trans (below_drewN _ _ _)⟩
      · have d1 := HDD.out
        rw [decide_eq_false hq] at d1
        have HN2 := Aside.mk (HN.out hq)
        clear hq
        go_wp2_with fail
        go_quiet (fail)
        go_wp2_with fail
        exact ⟨⟨i + 1, by omega, by simp, ⟨hp.out.1.trans (below_drewN _ _ _), HN2.out⟩⟩, by simp [intOf]; omega⟩
    · obtain rfl : i = ws.length := by omega
      have hno := hp.out.2
      rw [List.take_length] at hno
      have HNO := Aside.mk hno
      clear hno
      go_wp2_with fail
      go_ret2
      refine ⟨by rw [HNO.out]; simp, hp.out.1⟩
end Go.Proofs.Ytmhjjhaipcgbiaa
