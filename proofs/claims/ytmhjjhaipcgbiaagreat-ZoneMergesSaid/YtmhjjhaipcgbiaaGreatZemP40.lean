/- Texts of this claim, one behind the other: Ask2. -/
import Derived.Test.YtmhjjhaipcgbiaaGreatZemP35
import Derived.Test.YtmhjjhaipcgbiaaGreatZemP34
import Derived.Test.YtmhjjhaipcgbiaaGreatZemP31

namespace Go.Proofs.YtmhjjhaipcgbiaaGreat
open Go.RowKit
set_option linter.unusedVariables false
set_option linter.unusedSimpArgs false
set_option maxRecDepth 100000
set_option maxHeartbeats 4000000
theorem RdO.one {Q : World → Prop} {w : World} {base : Nat} {A : SL} {l : List V} {xs : List Value} (h : RdO Q w base A l xs) : ∀ u ∈ xs, u.oneCell' = true := by
  intro u hu
  obtain ⟨j, hj, rfl⟩ := List.mem_iff_getElem.1 hu
  have hl : xs.length = l.length * 3 := h.row.1
  have hi : j / 3 < l.length := by omega
  obtain ⟨ta, tc, q0, q1, q2, q3⟩ := h.each (j / 3) _ (List.getElem?_eq_getElem hi)
  have e := List.getElem?_eq_getElem hj
  obtain h3 | h3 | h3 : j = j / 3 * 3 ∨ j = j / 3 * 3 + 1 ∨ j = j / 3 * 3 + 2 := by omega
  · rw [← h3, e] at q0; rw [Option.some.inj q0]; rfl
  · rw [← h3, e] at q1; rw [Option.some.inj q1]; rfl
  · rw [← h3, e] at q2; rw [Option.some.inj q2]; rfl
end Go.Proofs.YtmhjjhaipcgbiaaGreat
