/- Texts of this claim, one behind the other: AskW. -/
import Derived.Test.YtmhjjhaipcgbiaaGreatZemP44
import Derived.Test.YtmhjjhaipcgbiaaGreatZemP29
import Derived.Test.YtmhjjhaipcgbiaaGreatZemP1
import Derived.Test.YtmhjjhaipcgbiaaGreatZemP20
import Derived.Test.YtmhjjhaipcgbiaaGreatZemP24
import Derived.Test.YtmhjjhaipcgbiaaGreatZemP23

namespace Go.Proofs.YtmhjjhaipcgbiaaGreat
open Go.RowKit
set_option linter.unusedVariables false
set_option linter.unusedSimpArgs false
set_option maxRecDepth 100000
set_option maxHeartbeats 4000000
def AskP (w0 : World) (bk : Nat) (e : Ending) (w' : World) : Prop := e = .returned (.bool true) ∧ Below w0.heap.size w0 w' ∧ BK w' (fun b => w0.heap.size ≤ b) bk
theorem AskS.done {w0 W : World} {bk M : Nat} {L : List Nat} (h : AskS w0 bk L M W) : AskP w0 bk (.returned (.bool true)) W := ⟨rfl, h.bel, h.book.mono (fun b e _ => e.1)⟩
end Go.Proofs.YtmhjjhaipcgbiaaGreat
