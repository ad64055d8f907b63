/- Texts of this claim, one behind the other: Refuse. -/
import Derived.Test.YtmhjjhaipcgbiaaGreatZooP22
import Derived.Test.YtmhjjhaipcgbiaaGreatZooP9
import Derived.Test.YtmhjjhaipcgbiaaGreatZooP32
import Derived.Test.YtmhjjhaipcgbiaaGreatZooP23
import Derived.Test.YtmhjjhaipcgbiaaGreatZooP40
import Derived.Test.YtmhjjhaipcgbiaaGreatZooP24
import Derived.Test.YtmhjjhaipcgbiaaGreatZooP18
import Derived.IntWalk
import Derived.Test.YtmhjjhaipcgbiaaGreatZooP7
import Derived.Test.YtmhjjhaipcgbiaaGreatZooP33
import Derived.Deep.QuietTactic
import Derived.BigQuiet

namespace Go.Proofs.YtmhjjhaipcgbiaaGreat
open Go.RowKit
set_option linter.unusedVariables false
set_option linter.unusedSimpArgs false
set_option maxRecDepth 100000
set_option maxHeartbeats 1000000
theorem BS.cells {w : World} {S : Nat → Prop} {bl : Nat} {k s : Int} {c : CS} (h : BS w S bl k s c) : w.cell? ⟨bl, 0, none⟩ = some (.int .i64 k) ∧ w.cell? ⟨bl, 1, none⟩ = some (.int .i64 s) ∧ ∃ na nc, w.cell? ⟨bl, 2, none⟩ = some (.slice na c.nulls.length nc) := by
  obtain ⟨lw, nv, dv, ev, T, h⟩ := h
  obtain ⟨na, nc, e⟩ := h.b.nulls.form
  refine ⟨?_, ?_, na, nc, ?_⟩
  · rw [cell_blk h.b.blk]; rfl
  · rw [cell_blk h.b.blk]; rfl
  · rw [cell_blk h.b.blk, e]; rfl
end Go.Proofs.YtmhjjhaipcgbiaaGreat
