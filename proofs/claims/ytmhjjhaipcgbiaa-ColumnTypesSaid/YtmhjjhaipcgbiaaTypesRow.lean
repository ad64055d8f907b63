/- ColumnTypes at the arguments as they come. -/
import Derived.Test.YtmhjjhaipcgbiaaTypesWalk
namespace Go.Proofs.Ytmhjjhaipcgbiaa
open Go.RowKit
set_option linter.unusedVariables false
set_option linter.unusedSimpArgs false

theorem agg_of_cells {v : Value} {x y : Value} (h : v.cells.toList = [x, y]) : v = .agg #[x, y] := by
  cases v <;> first
    | (simp only [Value.cells] at h; simp at h; done)
    | (rename_i cs; simp only [Value.cells] at h; obtain ⟨l⟩ := cs; simp only at h; rw [h])

theorem u64_wf {b : Int} (h : (Lit.int .u64 b).wf = true) : 0 ≤ b ∧ b ≤ 18446744073709551615 := by
  simp [Lit.wf] at h
  have h1 : IntKind.u64.min = 0 := by decide
  have h2 : IntKind.u64.max = 18446744073709551615 := by decide
  omega

theorem types_row (w : World) (v : Value) (m : Sh.M (.st (.cons (.int .i64) (.cons (.int .i64) .nil)))) (h : Sh.Reads w ((.st (.cons (.int .i64) (.cons (.int .i64) .nil))) : Sh) v.cells.toList m) (b : Int) (wb : (Lit.int .u64 b).wf = true) (n : Int) (wn : (Lit.int .i64 n).wf = true) :
    Calls Try.prog 3 #[v, .int .u64 b, .int .i64 n] w fun e w' => e = .returned (.bool true) ∧ Below w.heap.size w w' := by
  obtain ⟨c1, c2, e, _, ⟨r1, _⟩, c3, c4, e2, _, ⟨r2, _⟩, r3⟩ := h
  have hv : v.cells.toList = [.int .i64 m.1, .int .i64 m.2.1] := by
    rw [e, r1, e2, r2, show c4 = [] from r3]; rfl
  rw [agg_of_cells hv]
  exact types_walk w _ _ b n (u64_wf wb).1 (u64_wf wb).2
end Go.Proofs.Ytmhjjhaipcgbiaa
