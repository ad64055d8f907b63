/- Texts of this claim, one behind the other: BuildsRow. -/
import Derived.Test.YtmhjjhaipcgbiaaGreatBuiP10
import Derived.Test.YtmhjjhaipcgbiaaGreatBuiP9

/- ColumnBuilds at the arguments as they come. -/
namespace Go.Proofs.YtmhjjhaipcgbiaaGreat
open Go.RowKit
set_option linter.unusedVariables false
set_option linter.unusedSimpArgs false

theorem agg2_of_cells {v : Value} {x y : Value} (h : v.cells.toList = [x, y]) : v = .agg #[x, y] := by
  cases v <;> first
    | (simp only [Value.cells] at h; simp at h; done)
    | (rename_i cs; simp only [Value.cells] at h; obtain ⟨l⟩ := cs; simp only at h; rw [h])
theorem i64_wf {b : Int} (h : (Lit.int .i64 b).wf = true) : IsI64 b := by
  simp [Lit.wf] at h
  have h1 : IntKind.i64.min = -9223372036854775808 := by decide
  have h2 : IntKind.i64.max = 9223372036854775807 := by decide
  unfold IsI64; omega

/-- The shape of a step. -/
abbrev shSt : Sh := .st (.cons (.int .i64) (.cons (.int .i64) (.cons (.int .i64) (.cons (.st (.cons .bool (.cons (.int .u64) (.cons (.sl (.int .u8)) .nil)))) (.cons (.sl (.st (.cons .bool (.cons (.int .u64) (.cons (.sl (.int .u8)) .nil))))) .nil)))))
def toSt (m : Sh.M shSt) : StM := ⟨m.1, m.2.1, m.2.2.1, toV m.2.2.2.1, List.map toV m.2.2.2.2.1⟩

theorem rdsts_of_sl {w : World} {cs : List Value} {l : List (Sh.M shSt)} (h : Sh.Reads w (.sl shSt) cs l) : ∃ A : SL, cs = [.slice A.a (l.map toSt).length A.c] ∧ RdSts w A (l.map toSt) ∧ (l.map toSt).length ≤ 9223372036854775807 := by
  obtain ⟨a, cap, rfl, h1, h2, h3, h4⟩ := h
  have hlen : (l.map toSt).length = l.length := List.length_map ..
  have hcap : cap ≤ 9223372036854775807 := by unfold maxLen at h2; exact h2
  refine ⟨⟨a, cap⟩, by rw [hlen], fun i st hst => ?_, by rw [hlen]; exact Nat.le_trans h1 hcap⟩
  rw [List.getElem?_map] at hst
  obtain ⟨x, hx, rfl⟩ := Option.map_eq_some_iff.1 hst
  obtain ⟨hi, rfl⟩ := List.getElem?_eq_some_iff.1 hx
  obtain ⟨b, off, cs', e, hl, hc, hr⟩ := h4 i hi
  obtain ⟨c1, c2, e1, _, ⟨r1, w1⟩, c3, c4, e2, _, ⟨r2, w2⟩, c5, c6, e3, _, ⟨r3, w3⟩, c7, c8, e4, _, r4, c9, c10, e5, _, r5, r6⟩ := hr
  obtain ⟨d1, d2, f1, _, s1, d3, d4, f2, _, ⟨s2, w4⟩, d5, d6, f3, _, s3, s4⟩ := r4
  obtain ⟨ta, tc, g1, hrd, hby, hlm⟩ := rd_of_sl s3
  obtain ⟨L, g2, hvs, hvl, hvb⟩ := rdvs_of_sl r5
  have hb := u64_wf w4
  rw [show l.get ⟨i, hi⟩ = l[i] from rfl] at *
  have hnat : (((toSt l[i]).v.bits : Nat) : Int) = (l[i]).2.2.2.1.2.1 := Int.toNat_of_nonneg hb.1
  have hcs : cs' = [.int .i64 (toSt l[i]).kind, .int .i64 (toSt l[i]).n, .int .i64 (toSt l[i]).ty, .bool (toSt l[i]).v.null, .int .u64 ((toSt l[i]).v.bits : Int), .slice ta (toSt l[i]).v.text.length tc, .slice L.a (toSt l[i]).l.length L.c] := by
    rw [e1, r1, e2, r2, e3, r3, e4, f1, show d1 = [.bool (l[i]).2.2.2.1.1] from s1, f2, s2, f3, g1, show d6 = [] from s4, e5, g2, show c10 = [] from r6, hnat]
    rfl
  refine ⟨⟨⟨i64_wf w1, i64_wf w2, i64_wf w3⟩, ⟨hby, by show (l[i]).2.2.2.1.2.1.toNat < _; omega, hlm⟩, hvl, hvb⟩, b, off, ta, tc, L, ⟨e, by rw [hlen]; exact h1, hcap, ?_, ?_, ?_, ?_, ?_, ?_, ?_, hrd, hvs⟩⟩
  · exact hc 0 _ (by rw [hcs]; rfl)
  · exact hc 1 _ (by rw [hcs]; rfl)
  · exact hc 2 _ (by rw [hcs]; rfl)
  · exact hc 3 _ (by rw [hcs]; rfl)
  · exact hc 4 _ (by rw [hcs]; rfl)
  · exact hc 5 _ (by rw [hcs]; rfl)
  · exact hc 6 _ (by rw [hcs]; rfl)

theorem builds_row (w : World) (v : Value) (m : Sh.M (.st (.cons (.int .i64) (.cons (.int .i64) .nil)))) (h : Sh.Reads w ((.st (.cons (.int .i64) (.cons (.int .i64) .nil))) : Sh) v.cells.toList m)
    (a : Option Addr) (k c : Nat) (ms : List (Sh.M shSt)) (hs : Sh.Reads w (.sl shSt) (Value.slice a k c).cells.toList ms) :
    Calls Tryz.prog 3 #[v, .slice a k c] w fun e w' => e = .returned (.bool true) ∧ Below w.heap.size w w' := by
  obtain ⟨c1, c2, e, _, ⟨r1, _⟩, c3, c4, e2, _, ⟨r2, _⟩, r3⟩ := h
  have hv : v.cells.toList = [.int .i64 m.1, .int .i64 m.2.1] := by
    rw [e, r1, e2, r2, show c4 = [] from r3]; rfl
  obtain ⟨A, e3, hr, hl⟩ := rdsts_of_sl hs
  have e4 : Value.slice a k c = .slice A.a (ms.map toSt).length A.c := by simpa [Value.cells] using e3
  rw [agg2_of_cells hv, e4]
  exact builds_walk m.1 m.2.1 (ms.map toSt) A w hr hl
end Go.Proofs.YtmhjjhaipcgbiaaGreat
