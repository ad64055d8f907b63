/- Texts of this claim, one behind the other: GwRow. -/
import Derived.Test.YtmhjjhaipcgbiaaBakP40
import Derived.Test.YtmhjjhaipcgbiaaBakP41

namespace Go.Proofs.Ytmhjjhaipcgbiaa
open Go.RowKit
set_option linter.unusedVariables false
set_option linter.unusedSimpArgs false
theorem back_row (w : World) (v : Value) (m : Sh.M shSheet) (h : Sh.Reads w shSheet v.cells.toList m) :
    Calls Try.prog 7 #[v] w fun e w' => e = .returned (.bool true) ∧ Below w.heap.size w w' := by
  obtain ⟨l, rows, wild, bend, A, R, rfl, _, h1, h2, h3, h4⟩ := sheet_of h
  exact back_walk l h3 rows h4 wild bend A R w h1 h2
end Go.Proofs.Ytmhjjhaipcgbiaa
