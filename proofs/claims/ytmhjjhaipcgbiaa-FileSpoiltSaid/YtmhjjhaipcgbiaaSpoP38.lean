/- Texts of this claim, one behind the other: Fa, FyRow. -/
import Derived.Test.YtmhjjhaipcgbiaaSpoP37
import Derived.Test.YtmhjjhaipcgbiaaSpoP24
import Derived.Test.YtmhjjhaipcgbiaaSpoP33

namespace Go.Proofs.Ytmhjjhaipcgbiaa
open Go.RowKit
set_option linter.unusedVariables false
set_option linter.unusedSimpArgs false
set_option maxRecDepth 100000
set_option maxHeartbeats 1000000
abbrev shNm : Sh := .st (.cons (.sl (.int .u8)) (.cons (.int .i64) (.cons .bool .nil)))
def toN (m : Sh.M shNm) : Nm := ⟨m.1, m.2.1, m.2.2.1⟩
theorem rdns_of_sl {w : World} {cs : List Value} {l : List (Sh.M shNm)} (h : Sh.Reads w (.sl shNm) cs l) : ∃ A : SL, cs = [.slice A.a (l.map toN).length A.c] ∧ RdNs w A (l.map toN) ∧ ∀ v ∈ l.map toN, IsBytes v.name ∧ v.name.length ≤ 9223372036854775807 := by
  obtain ⟨a, cap, rfl, h1, h2, h3, h4⟩ := h
  have key : ∀ i, ∃ p : Option Addr × Nat, ∀ (hi : i < l.length), ∃ b off, a = some ⟨b, off, none⟩ ∧ w.cell? ⟨b, off + i * 3 + 0, none⟩ = some (.slice p.1 (toN (l.get ⟨i, hi⟩)).name.length p.2) ∧ w.cell? ⟨b, off + i * 3 + 1, none⟩ = some (.int .i64 (toN (l.get ⟨i, hi⟩)).ty) ∧
      w.cell? ⟨b, off + i * 3 + 2, none⟩ = some (.bool (toN (l.get ⟨i, hi⟩)).null) ∧ Rd w 1 (.slice p.1 (toN (l.get ⟨i, hi⟩)).name.length p.2) (toN (l.get ⟨i, hi⟩)).name.length ((toN (l.get ⟨i, hi⟩)).name.map (.int .u8)) ∧
      IsBytes (toN (l.get ⟨i, hi⟩)).name ∧ (toN (l.get ⟨i, hi⟩)).name.length ≤ 9223372036854775807 := by
    intro i
    by_cases hi : i < l.length
    · obtain ⟨b, off, cs', e, hl, hc, hr⟩ := h4 i hi
      obtain ⟨c1, c2, e1, _, r1, c3, c4, e2, _, ⟨r2, wf⟩, c5, c6, e3, _, r3, r4⟩ := hr
      obtain ⟨ta, tc, e4, hrd, hby, hlm⟩ := rd_of_sl r1
      have hcs : cs' = [.slice ta (l.get ⟨i, hi⟩).1.length tc, .int .i64 (l.get ⟨i, hi⟩).2.1, .bool (l.get ⟨i, hi⟩).2.2.1] := by
        rw [e1, e4, e2, r2, e3, show c5 = [.bool (l.get ⟨i, hi⟩).2.2.1] from r3, show c6 = [] from r4]; rfl
      refine ⟨(ta, tc), fun _ => ⟨b, off, e, ?_, ?_, ?_, hrd, hby, hlm⟩⟩
      · exact hc 0 _ (by rw [hcs]; rfl)
      · exact hc 1 _ (by rw [hcs]; rfl)
      · exact hc 2 _ (by rw [hcs]; rfl)
    · exact ⟨(none, 0), fun h => absurd h hi⟩
  obtain ⟨f, hf⟩ := Classical.axiomOfChoice key
  have hlen : (l.map toN).length = l.length := List.length_map ..
  refine ⟨⟨a, cap⟩, by rw [hlen], ?_, ?_⟩
  · let row : Nat → List Value := fun i => if hi : i < l.length then [.slice (f i).1 (toN (l.get ⟨i, hi⟩)).name.length (f i).2, .int .i64 (toN (l.get ⟨i, hi⟩)).ty, .bool (toN (l.get ⟨i, hi⟩)).null] else [.bool false, .bool false, .bool false]
    have hrow : ∀ i, (row i).length = 3 := fun i => by show (dite _ _ _ : List Value).length = 3; split <;> rfl
    have hget : ∀ i (hi : i < l.length) j, j < 3 → ((List.range l.length).flatMap row)[i * 3 + j]? = [Value.slice (f i).1 (toN (l.get ⟨i, hi⟩)).name.length (f i).2, .int .i64 (toN (l.get ⟨i, hi⟩)).ty, .bool (toN (l.get ⟨i, hi⟩)).null][j]? := fun i hi j hj => by
      rw [flatMap_get row 3 hrow (List.range l.length) i j (by simpa using hi) hj, List.getElem_range]
      show (dite _ _ _ : List Value)[j]? = _
      rw [dif_pos hi]
    have hxl : ((List.range l.length).flatMap row).length = l.length * 3 := by rw [flatMap_len row 3 hrow, List.length_range]
    refine ⟨(List.range l.length).flatMap row, ?_, fun i v hv => ?_⟩
    · rw [hlen]
      refine ⟨hxl, a, cap, rfl, h1, h2, h3, fun m u hu => ?_⟩
      have hm := (List.getElem?_eq_some_iff.1 hu).1
      have hi : m / 3 < l.length := by omega
      obtain ⟨b, off, e, q0, q1, q2, _⟩ := hf (m / 3) hi
      refine ⟨b, off, e, ?_⟩
      have hm3 : m = m / 3 * 3 + m % 3 := by omega
      have hr : m % 3 < 3 := Nat.mod_lt _ (by decide)
      rw [hm3, hget _ hi _ hr] at hu
      rcases get3 _ _ _ _ _ hu with ⟨e3, rfl⟩ | ⟨e3, rfl⟩ | ⟨e3, rfl⟩
      · rw [show off + m = off + m / 3 * 3 + 0 by omega]; exact q0
      · rw [show off + m = off + m / 3 * 3 + 1 by omega]; exact q1
      · rw [show off + m = off + m / 3 * 3 + 2 by omega]; exact q2
    · rw [List.getElem?_map] at hv
      obtain ⟨x, hx, rfl⟩ := Option.map_eq_some_iff.1 hv
      obtain ⟨hi, rfl⟩ := List.getElem?_eq_some_iff.1 hx
      obtain ⟨b, off, e, q0, q1, q2, q3, _⟩ := hf i hi
      exact ⟨(f i).1, (f i).2, hget i hi 0 (by decide), hget i hi 1 (by decide), hget i hi 2 (by decide), q3⟩
  · intro v hv
    obtain ⟨x, hx, rfl⟩ := List.mem_map.1 hv
    obtain ⟨i, hi, rfl⟩ := List.mem_iff_getElem.1 hx
    obtain ⟨_, _, _, _, _, _, _, q4, q5⟩ := hf i hi
    exact ⟨q4, q5⟩
theorem rdrs_of_sl {w : World} {cs : List Value} {l : List (List (Sh.M shVal))} (h : Sh.Reads w (.sl (.sl shVal)) cs l) : ∃ A : SL, cs = [.slice A.a (l.map (List.map toV)).length A.c] ∧ RdRs w A (l.map (List.map toV)) ∧ ∀ r ∈ l.map (List.map toV), ∀ v ∈ r, IsBytes v.text ∧ v.bits < 18446744073709551616 ∧ v.text.length ≤ 9223372036854775807 := by
  obtain ⟨a, cap, rfl, h1, h2, h3, h4⟩ := h
  have key : ∀ i, ∃ p : SL, ∀ (hi : i < l.length), ∃ b off, a = some ⟨b, off, none⟩ ∧ w.cell? ⟨b, off + i, none⟩ = some (.slice p.a (List.map toV (l.get ⟨i, hi⟩)).length p.c) ∧ RdVs w p (List.map toV (l.get ⟨i, hi⟩)) ∧
      ∀ v ∈ List.map toV (l.get ⟨i, hi⟩), IsBytes v.text ∧ v.bits < 18446744073709551616 ∧ v.text.length ≤ 9223372036854775807 := by
    intro i
    by_cases hi : i < l.length
    · obtain ⟨b, off, cs', e, hl, hc, hr⟩ := h4 i hi
      obtain ⟨A, e1, r1, _, r2⟩ := rdvs_of_sl hr
      refine ⟨A, fun _ => ⟨b, off, e, ?_, r1, r2⟩⟩
      have := hc 0 (.slice A.a (List.map toV (l.get ⟨i, hi⟩)).length A.c) (by rw [e1]; rfl)
      rw [show off + i * Sh.size (.sl shVal) + 0 = off + i by show off + i * 1 + 0 = _; omega] at this
      exact this
    · exact ⟨⟨none, 0⟩, fun h => absurd h hi⟩
  obtain ⟨f, hf⟩ := Classical.axiomOfChoice key
  have hlen : (l.map (List.map toV)).length = l.length := List.length_map ..
  refine ⟨⟨a, cap⟩, congrArg (fun n => [Value.slice a n cap]) hlen.symm, ?_, ?_⟩
  · refine ⟨(List.range l.length).map (fun i => if hi : i < l.length then .slice (f i).a (List.map toV (l.get ⟨i, hi⟩)).length (f i).c else .bool false), ?_, fun i v hv => ?_⟩
    · rw [hlen]
      refine ⟨by simp, a, cap, rfl, h1, h2, h3, fun m u hu => ?_⟩
      have hm := (List.getElem?_eq_some_iff.1 hu).1
      have hi : m < l.length := by simpa using hm
      obtain ⟨b, off, e, q0, _⟩ := hf m hi
      refine ⟨b, off, e, ?_⟩
      rw [List.getElem?_map, List.getElem?_range hi, Option.map_some, dif_pos hi] at hu
      cases hu
      exact q0
    · rw [List.getElem?_map] at hv
      obtain ⟨x, hx, rfl⟩ := Option.map_eq_some_iff.1 hv
      obtain ⟨hi, rfl⟩ := List.getElem?_eq_some_iff.1 hx
      obtain ⟨b, off, e, q0, q1, _⟩ := hf i hi
      refine ⟨(f i).a, (f i).c, ?_, q1⟩
      rw [List.getElem?_map, List.getElem?_range hi, Option.map_some, dif_pos hi]
      rfl
  · intro r hr v hv
    obtain ⟨x, hx, rfl⟩ := List.mem_map.1 hr
    obtain ⟨i, hi, rfl⟩ := List.mem_iff_getElem.1 hx
    obtain ⟨_, _, _, _, _, q⟩ := hf i hi
    exact q v hv
theorem agg_cells {v : Value} {x y : Value} {cs : List Value} (h : v.cells.toList = x :: y :: cs) : v = .agg (x :: y :: cs).toArray := by
  cases v <;> first
    | (simp only [Value.cells] at h; simp at h; done)
    | (rename_i cs; simp only [Value.cells] at h; obtain ⟨l⟩ := cs; simp only at h; rw [h])
abbrev shSheet : Sh := .st (.cons (.sl shNm) (.cons (.sl (.sl shVal)) (.cons .bool (.cons (.int .i64) .nil))))
theorem sheet_of {w : World} {v : Value} {m : Sh.M shSheet} (h : Sh.Reads w shSheet v.cells.toList m) : ∃ (l : List Nm) (rows : List (List V)) (wild : Bool) (bend : Int) (A R : SL), v = .agg #[.slice A.a l.length A.c, .slice R.a rows.length R.c, .bool wild, .int .i64 bend] ∧ (Lit.int .i64 bend).wf = true ∧ RdNs w A l ∧ RdRs w R rows ∧ (∀ v ∈ l, IsBytes v.name ∧ v.name.length ≤ 9223372036854775807) ∧ ∀ r ∈ rows, ∀ v ∈ r, IsBytes v.text ∧ v.bits < 18446744073709551616 ∧ v.text.length ≤ 9223372036854775807 := by
  obtain ⟨c1, c2, e1, _, r1, c3, c4, e2, _, r2, c5, c6, e3, _, r3, c7, c8, e4, _, ⟨r4, wf⟩, r5⟩ := h
  obtain ⟨A, g1, q1, b1⟩ := rdns_of_sl r1
  obtain ⟨R, g2, q2, b2⟩ := rdrs_of_sl r2
  have hv : v.cells.toList = [.slice A.a (List.map toN m.1).length A.c, .slice R.a (List.map (List.map toV) m.2.1).length R.c, .bool m.2.2.1, .int .i64 m.2.2.2.1] := by
    rw [e1, g1, e2, g2, e3, show c5 = [.bool m.2.2.1] from r3, e4, r4, show c8 = [] from r5]
    rfl
  exact ⟨_, _, _, _, A, R, agg_cells hv, wf, q1, q2, b1, b2⟩
end Go.Proofs.Ytmhjjhaipcgbiaa


namespace Go.Proofs.Ytmhjjhaipcgbiaa
open Go.RowKit
set_option linter.unusedVariables false
set_option linter.unusedSimpArgs false
theorem spoilt_row (w : World) (v : Value) (m : Sh.M shSheet) (h : Sh.Reads w shSheet v.cells.toList m) (at_ : Int) (wa : (Lit.int .i64 at_).wf = true) (by_ : Int) (wb : (Lit.int .u8 by_).wf = true) :
    Calls Try.prog 6 #[v, .int .i64 at_, .int .u8 by_] w fun e w' => e = .returned (.bool true) ∧ Below w.heap.size w w' := by
  obtain ⟨l, rows, wild, bend, A, R, rfl, _, h1, h2, h3, h4⟩ := sheet_of h
  have := u8_wf wb
  exact spoilt_walk l h3 rows h4 wild bend at_ by_ this.1 this.2 A R w h1 h2
end Go.Proofs.Ytmhjjhaipcgbiaa
