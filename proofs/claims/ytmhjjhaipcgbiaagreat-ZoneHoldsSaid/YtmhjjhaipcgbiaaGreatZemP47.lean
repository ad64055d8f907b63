/- Texts of this claim, one behind the other: Spoil0. -/
import Derived.Test.YtmhjjhaipcgbiaaGreatZemP42
import Derived.Test.YtmhjjhaipcgbiaaGreatZemP46
import Derived.Test.YtmhjjhaipcgbiaaGreatZemP35
import Derived.Test.YtmhjjhaipcgbiaaGreatZemP34

namespace Go.Proofs.YtmhjjhaipcgbiaaGreat
open Go.RowKit
set_option linter.unusedVariables false
set_option linter.unusedSimpArgs false
set_option maxRecDepth 100000
set_option maxHeartbeats 1000000
def setL (l : List Int) (at_ : Int) (f : Int → Int) : List Int := if l.length = 0 then l else l.set (withinI at_ 0 ((l.length : Int) - 1)).toNat (f (l.getD (withinI at_ 0 ((l.length : Int) - 1)).toNat 0))
def byteI (x : Int) : Int := x % 256
def xorI (x y : Int) : Int := ((x.toNat ^^^ y.toNat : Nat) : Int)
def spoilC (c : Col) (wh wat wby : Int) : Col :=
  if withinI wh 0 9 = 1 then ⟨c.k, c.s, wrap64 (c.n + wby), c.m, c.bits, c.data, c.ends, c.words⟩
  else if withinI wh 0 9 = 2 then ⟨c.k, c.s, c.n, wrap64 (c.m + wby), c.bits, c.data, c.ends, c.words⟩
  else if withinI wh 0 9 = 3 then ⟨c.k, c.s, c.n, c.m, setL c.bits wat (fun x => xorI x (byteI wby)), c.data, c.ends, c.words⟩
  else if withinI wh 0 9 = 4 then ⟨c.k, c.s, c.n, c.m, c.bits, setL c.data wat (fun x => xorI x (byteI wby)), c.ends, c.words⟩
  else if withinI wh 0 9 = 5 then ⟨c.k, c.s, c.n, c.m, c.bits, c.data ++ [byteI wby], c.ends, c.words⟩
  else if withinI wh 0 9 = 6 then ⟨c.k, c.s, c.n, c.m, c.bits, c.data, setL c.ends wat (fun x => wrap64 (x + wby)), c.words⟩
  else if withinI wh 0 9 = 7 then ⟨c.k, c.s, c.n, c.m, c.bits, c.data, c.ends, c.words ++ [[byteI wby]]⟩
  else if withinI wh 0 9 = 8 then ⟨c.k, wby, c.n, c.m, c.bits, c.data, c.ends, c.words⟩
  else if withinI wh 0 9 = 9 then ⟨wby, c.s, c.n, c.m, c.bits, c.data, c.ends, c.words⟩
  else c
end Go.Proofs.YtmhjjhaipcgbiaaGreat
