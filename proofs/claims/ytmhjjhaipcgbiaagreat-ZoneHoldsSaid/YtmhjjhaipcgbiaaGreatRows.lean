/-
  No cell of these rows narrows 'for every input' (looked for: loops, veiled, ifaces, maps, wideKeys, modest, calm, conditions, laid).
  DERIVED. THE GIVEN ROWS OF THIS SEAT. 8 by the template 'for every input the law returns true; each argument reads behind the call as it read before'; 0 by the template 'total and deterministic' (their statements: YtmhjjhaipcgbiaaGreatTotals.lean).
  GIVEN WITH THE SEED: the statements are not yours to turn. If you find one false, say at which input.
  Laid BY PROGRAM, IN A SANDBOX (cutbox-rows.mjs): the forced cells as the released guide's own fill.sh prints them over the translation 7bb30c0e191cd32c… (all of the seat's roots in one cut). By AI agents, Wed Nov 11 2026. No macro, syntax, notation, axiom, sorry.
-/
import Derived.Test.YtmhjjhaipcgbiaaGreatChecked
import GoSem.Claim
import GoSem.ClaimJoined
import GoSem.ClaimMapViews
import Derived.JoinedTies
import Derived.KernelRfl
namespace Go.Proofs.YtmhjjhaipcgbiaaGreat
/- THE CELL 'sum', in the pinned program and in every row, IS THE sha256 OF THE DUMP (.gsa) THAT YtmhjjhaipcgbiaaGreatProg.lean LOADS. Nothing in Lean hashes anything: it is a label: what it is worth is what the hold of that sum in a sandbox is worth. -/
noncomputable def Tryz.pinned : Pinned := { name := "ytmhjjhaipcgbiaagreat", sum := "7bb30c0e191cd32c463251a7700d1eb5982b6157dd1426a6d308d93edeb095ea", checked := Tryz.checked }
namespace Rows
def none {H : Type} : Left H := { results := [], args := [] }

/-- 'mintagelaw18.ColumnBuilds': WHATEVER THE INPUT: true; the input reads as it did. -/
def columnBuildsSpec : ChangeSpec := { name := "columnBuilds", fn := fun _ => fun
  | [d1, d2] => { results := [.lit (.bool true)], args := [d1, d2] }
  | _ => none }
def columnBuildsRow : OpenClaim := { program := "ytmhjjhaipcgbiaagreat", sum := "7bb30c0e191cd32c463251a7700d1eb5982b6157dd1426a6d308d93edeb095ea", func := "mintage/mintagelaw18.ColumnBuilds", spec := "columnBuilds", unfollowed := true, recurses := true, apart := false }
def ColumnBuildsSaid : Prop := columnBuildsRow.holds Tryz.pinned (OpenSpec.ofChange columnBuildsSpec)

/-- ITS FALSE NEIGHBOUR: 'it returns false'. Refute it at one input. -/
def columnBuildsWrong : ChangeSpec := { name := "columnBuilds", fn := fun _ => fun
  | [d1, d2] => { results := [.lit (.bool false)], args := [d1, d2] }
  | _ => none }
def ColumnBuildsWrongFalsely : Prop := columnBuildsRow.holds Tryz.pinned (OpenSpec.ofChange columnBuildsWrong)

/-- 'mintagelaw19.ZoneOf': WHATEVER THE INPUT: true; the input reads as it did. -/
def zoneOfSpec : ChangeSpec := { name := "zoneOf", fn := fun _ => fun
  | [d1, d2, d3] => { results := [.lit (.bool true)], args := [d1, d2, d3] }
  | _ => none }
def zoneOfRow : OpenClaim := { program := "ytmhjjhaipcgbiaagreat", sum := "7bb30c0e191cd32c463251a7700d1eb5982b6157dd1426a6d308d93edeb095ea", func := "mintage/mintagelaw19.ZoneOf", spec := "zoneOf", inPlace := ["internal/bytealg.Compare"], unfollowed := true, recurses := true, apart := false }
def ZoneOfSaid : Prop := zoneOfRow.holds Tryz.pinned (OpenSpec.ofChange zoneOfSpec)

/-- ITS FALSE NEIGHBOUR: 'it returns false'. Refute it at one input. -/
def zoneOfWrong : ChangeSpec := { name := "zoneOf", fn := fun _ => fun
  | [d1, d2, d3] => { results := [.lit (.bool false)], args := [d1, d2, d3] }
  | _ => none }
def ZoneOfWrongFalsely : Prop := zoneOfRow.holds Tryz.pinned (OpenSpec.ofChange zoneOfWrong)

/-- 'mintagelaw19.ZoneEdges': WHATEVER THE INPUT: true; the input reads as it did. -/
def zoneEdgesSpec : ChangeSpec := { name := "zoneEdges", fn := fun _ => fun
  | [d1, d2] => { results := [.lit (.bool true)], args := [d1, d2] }
  | _ => none }
def zoneEdgesRow : OpenClaim := { program := "ytmhjjhaipcgbiaagreat", sum := "7bb30c0e191cd32c463251a7700d1eb5982b6157dd1426a6d308d93edeb095ea", func := "mintage/mintagelaw19.ZoneEdges", spec := "zoneEdges", inPlace := ["internal/bytealg.Compare"], unfollowed := true, recurses := true, apart := false }
def ZoneEdgesSaid : Prop := zoneEdgesRow.holds Tryz.pinned (OpenSpec.ofChange zoneEdgesSpec)

/-- ITS FALSE NEIGHBOUR: 'it returns false'. Refute it at one input. -/
def zoneEdgesWrong : ChangeSpec := { name := "zoneEdges", fn := fun _ => fun
  | [d1, d2] => { results := [.lit (.bool false)], args := [d1, d2] }
  | _ => none }
def ZoneEdgesWrongFalsely : Prop := zoneEdgesRow.holds Tryz.pinned (OpenSpec.ofChange zoneEdgesWrong)

/-- 'mintagelaw18.ColumnAsks': WHATEVER THE INPUT: true; the input reads as it did. -/
def columnAsksSpec : ChangeSpec := { name := "columnAsks", fn := fun _ => fun
  | [d] => { results := [.lit (.bool true)], args := [d] }
  | _ => none }
def columnAsksRow : OpenClaim := { program := "ytmhjjhaipcgbiaagreat", sum := "7bb30c0e191cd32c463251a7700d1eb5982b6157dd1426a6d308d93edeb095ea", func := "mintage/mintagelaw18.ColumnAsks", spec := "columnAsks", unfollowed := true, recurses := true, apart := false }
def ColumnAsksSaid : Prop := columnAsksRow.holds Tryz.pinned (OpenSpec.ofChange columnAsksSpec)

/-- ITS FALSE NEIGHBOUR: 'it returns false'. Refute it at one input. -/
def columnAsksWrong : ChangeSpec := { name := "columnAsks", fn := fun _ => fun
  | [d] => { results := [.lit (.bool false)], args := [d] }
  | _ => none }
def ColumnAsksWrongFalsely : Prop := columnAsksRow.holds Tryz.pinned (OpenSpec.ofChange columnAsksWrong)

/-- 'mintagelaw25.FileReads': WHATEVER THE INPUT: true; the input reads as it did. -/
def fileReadsSpec : ChangeSpec := { name := "fileReads", fn := fun _ => fun
  | [d1, d2, d3] => { results := [.lit (.bool true)], args := [d1, d2, d3] }
  | _ => none }
def fileReadsRow : OpenClaim := { program := "ytmhjjhaipcgbiaagreat", sum := "7bb30c0e191cd32c463251a7700d1eb5982b6157dd1426a6d308d93edeb095ea", func := "mintage/mintagelaw25.FileReads", spec := "fileReads", unfollowed := true, recurses := true, apart := false }
def FileReadsSaid : Prop := fileReadsRow.holds Tryz.pinned (OpenSpec.ofChange fileReadsSpec)

/-- ITS FALSE NEIGHBOUR: 'it returns false'. Refute it at one input. -/
def fileReadsWrong : ChangeSpec := { name := "fileReads", fn := fun _ => fun
  | [d1, d2, d3] => { results := [.lit (.bool false)], args := [d1, d2, d3] }
  | _ => none }
def FileReadsWrongFalsely : Prop := fileReadsRow.holds Tryz.pinned (OpenSpec.ofChange fileReadsWrong)

/-- 'mintagelaw19.ZoneHolds': WHATEVER THE INPUT: true; the input reads as it did. -/
def zoneHoldsSpec : ChangeSpec := { name := "zoneHolds", fn := fun _ => fun
  | [d1, d2, d3] => { results := [.lit (.bool true)], args := [d1, d2, d3] }
  | _ => none }
def zoneHoldsRow : OpenClaim := { program := "ytmhjjhaipcgbiaagreat", sum := "7bb30c0e191cd32c463251a7700d1eb5982b6157dd1426a6d308d93edeb095ea", func := "mintage/mintagelaw19.ZoneHolds", spec := "zoneHolds", inPlace := ["internal/bytealg.Compare"], unfollowed := true, recurses := true, apart := false }
def ZoneHoldsSaid : Prop := zoneHoldsRow.holds Tryz.pinned (OpenSpec.ofChange zoneHoldsSpec)

/-- ITS FALSE NEIGHBOUR: 'it returns false'. Refute it at one input. -/
def zoneHoldsWrong : ChangeSpec := { name := "zoneHolds", fn := fun _ => fun
  | [d1, d2, d3] => { results := [.lit (.bool false)], args := [d1, d2, d3] }
  | _ => none }
def ZoneHoldsWrongFalsely : Prop := zoneHoldsRow.holds Tryz.pinned (OpenSpec.ofChange zoneHoldsWrong)

/-- 'mintagelaw25.FileWrites': WHATEVER THE INPUT: true; the input reads as it did. -/
def fileWritesSpec : ChangeSpec := { name := "fileWrites", fn := fun _ => fun
  | [d1, d2, d3] => { results := [.lit (.bool true)], args := [d1, d2, d3] }
  | _ => none }
def fileWritesRow : OpenClaim := { program := "ytmhjjhaipcgbiaagreat", sum := "7bb30c0e191cd32c463251a7700d1eb5982b6157dd1426a6d308d93edeb095ea", func := "mintage/mintagelaw25.FileWrites", spec := "fileWrites", unfollowed := true, recurses := true, apart := false }
def FileWritesSaid : Prop := fileWritesRow.holds Tryz.pinned (OpenSpec.ofChange fileWritesSpec)

/-- ITS FALSE NEIGHBOUR: 'it returns false'. Refute it at one input. -/
def fileWritesWrong : ChangeSpec := { name := "fileWrites", fn := fun _ => fun
  | [d1, d2, d3] => { results := [.lit (.bool false)], args := [d1, d2, d3] }
  | _ => none }
def FileWritesWrongFalsely : Prop := fileWritesRow.holds Tryz.pinned (OpenSpec.ofChange fileWritesWrong)

/-- 'mintagelaw19.ZoneMerges': WHATEVER THE INPUT: true; the input reads as it did. -/
def zoneMergesSpec : ChangeSpec := { name := "zoneMerges", fn := fun _ => fun
  | [d1, d2, d3, d4, d5] => { results := [.lit (.bool true)], args := [d1, d2, d3, d4, d5] }
  | _ => none }
def zoneMergesRow : OpenClaim := { program := "ytmhjjhaipcgbiaagreat", sum := "7bb30c0e191cd32c463251a7700d1eb5982b6157dd1426a6d308d93edeb095ea", func := "mintage/mintagelaw19.ZoneMerges", spec := "zoneMerges", inPlace := ["internal/bytealg.Compare"], unfollowed := true, recurses := true, apart := false }
def ZoneMergesSaid : Prop := zoneMergesRow.holds Tryz.pinned (OpenSpec.ofChange zoneMergesSpec)

/-- ITS FALSE NEIGHBOUR: 'it returns false'. Refute it at one input. -/
def zoneMergesWrong : ChangeSpec := { name := "zoneMerges", fn := fun _ => fun
  | [d1, d2, d3, d4, d5] => { results := [.lit (.bool false)], args := [d1, d2, d3, d4, d5] }
  | _ => none }
def ZoneMergesWrongFalsely : Prop := zoneMergesRow.holds Tryz.pinned (OpenSpec.ofChange zoneMergesWrong)

/- THE SECOND FORM. 'bulk': how many values and letters a reading holds, each counted each time it is reached (what is shared counts as often as it is met; a slice's spare places count too). A statement '..UptoSaid' is the law's where the arguments, and the package variables that the reading takes, are together of bulk at most 1048576: NARROWER than '..Said'. Prove '..Said' where nothing that the law and all that it calls make is longer than what came in: it says more and counts as full. Else prove '..UptoSaid'. A law counts once. -/
mutual
def uptoBulk {H : Type} : DataW H → Nat
  | .lit (.string bytes) => bytes.length + 1
  | .lit _ => 1
  | .nil => 1
  | .ptr d => uptoBulk d + 1
  | .slice elems spare => uptoBulkAll elems + uptoBulkAll spare + 1
  | .agg parts => uptoBulkAll parts + 1
  | .iface _ d => uptoBulk d + 1
  | .map entries => uptoBulkEntries entries + 1
  | .held _ => 1
def uptoBulkAll {H : Type} : List (DataW H) → Nat
  | [] => 0
  | d :: r => uptoBulk d + uptoBulkAll r
def uptoBulkEntries {H : Type} : List (Lit × DataW H) → Nat
  | [] => 0
  | x :: r => uptoBulkEntry x + uptoBulkEntries r
def uptoBulkEntry {H : Type} : Lit × DataW H → Nat
  | (.string bytes, d) => bytes.length + uptoBulk d + 1
  | (_, d) => uptoBulk d + 1
 end
def uptoSmall : (H : Type) → List (DataW H) → Bool := fun _ ds => decide (uptoBulkAll ds ≤ 1048576)
def OpenSpec.upto (s : _root_.Go.ChangeSpec) : _root_.Go.OpenSpec := { _root_.Go.OpenSpec.ofChange s with cond := some uptoSmall }

/-- 'mintagelaw18.ColumnBuilds', WHERE WHAT IT READS IS OF BULK AT MOST 1048576: true; the input reads as it did. -/
def columnBuildsUptoRow : OpenClaim := { program := "ytmhjjhaipcgbiaagreat", sum := "7bb30c0e191cd32c463251a7700d1eb5982b6157dd1426a6d308d93edeb095ea", func := "mintage/mintagelaw18.ColumnBuilds", spec := "columnBuilds", unfollowed := true, recurses := true, apart := false, narrowed := true }
def ColumnBuildsUptoSaid : Prop := columnBuildsUptoRow.holds Tryz.pinned (OpenSpec.upto columnBuildsSpec)

/-- 'mintagelaw19.ZoneOf', WHERE WHAT IT READS IS OF BULK AT MOST 1048576: true; the input reads as it did. -/
def zoneOfUptoRow : OpenClaim := { program := "ytmhjjhaipcgbiaagreat", sum := "7bb30c0e191cd32c463251a7700d1eb5982b6157dd1426a6d308d93edeb095ea", func := "mintage/mintagelaw19.ZoneOf", spec := "zoneOf", inPlace := ["internal/bytealg.Compare"], unfollowed := true, recurses := true, apart := false, narrowed := true }
def ZoneOfUptoSaid : Prop := zoneOfUptoRow.holds Tryz.pinned (OpenSpec.upto zoneOfSpec)

/-- 'mintagelaw19.ZoneEdges', WHERE WHAT IT READS IS OF BULK AT MOST 1048576: true; the input reads as it did. -/
def zoneEdgesUptoRow : OpenClaim := { program := "ytmhjjhaipcgbiaagreat", sum := "7bb30c0e191cd32c463251a7700d1eb5982b6157dd1426a6d308d93edeb095ea", func := "mintage/mintagelaw19.ZoneEdges", spec := "zoneEdges", inPlace := ["internal/bytealg.Compare"], unfollowed := true, recurses := true, apart := false, narrowed := true }
def ZoneEdgesUptoSaid : Prop := zoneEdgesUptoRow.holds Tryz.pinned (OpenSpec.upto zoneEdgesSpec)

/-- 'mintagelaw18.ColumnAsks', WHERE WHAT IT READS IS OF BULK AT MOST 1048576: true; the input reads as it did. -/
def columnAsksUptoRow : OpenClaim := { program := "ytmhjjhaipcgbiaagreat", sum := "7bb30c0e191cd32c463251a7700d1eb5982b6157dd1426a6d308d93edeb095ea", func := "mintage/mintagelaw18.ColumnAsks", spec := "columnAsks", unfollowed := true, recurses := true, apart := false, narrowed := true }
def ColumnAsksUptoSaid : Prop := columnAsksUptoRow.holds Tryz.pinned (OpenSpec.upto columnAsksSpec)

/-- 'mintagelaw25.FileReads', WHERE WHAT IT READS IS OF BULK AT MOST 1048576: true; the input reads as it did. -/
def fileReadsUptoRow : OpenClaim := { program := "ytmhjjhaipcgbiaagreat", sum := "7bb30c0e191cd32c463251a7700d1eb5982b6157dd1426a6d308d93edeb095ea", func := "mintage/mintagelaw25.FileReads", spec := "fileReads", unfollowed := true, recurses := true, apart := false, narrowed := true }
def FileReadsUptoSaid : Prop := fileReadsUptoRow.holds Tryz.pinned (OpenSpec.upto fileReadsSpec)

/-- 'mintagelaw19.ZoneHolds', WHERE WHAT IT READS IS OF BULK AT MOST 1048576: true; the input reads as it did. -/
def zoneHoldsUptoRow : OpenClaim := { program := "ytmhjjhaipcgbiaagreat", sum := "7bb30c0e191cd32c463251a7700d1eb5982b6157dd1426a6d308d93edeb095ea", func := "mintage/mintagelaw19.ZoneHolds", spec := "zoneHolds", inPlace := ["internal/bytealg.Compare"], unfollowed := true, recurses := true, apart := false, narrowed := true }
def ZoneHoldsUptoSaid : Prop := zoneHoldsUptoRow.holds Tryz.pinned (OpenSpec.upto zoneHoldsSpec)

/-- 'mintagelaw25.FileWrites', WHERE WHAT IT READS IS OF BULK AT MOST 1048576: true; the input reads as it did. -/
def fileWritesUptoRow : OpenClaim := { program := "ytmhjjhaipcgbiaagreat", sum := "7bb30c0e191cd32c463251a7700d1eb5982b6157dd1426a6d308d93edeb095ea", func := "mintage/mintagelaw25.FileWrites", spec := "fileWrites", unfollowed := true, recurses := true, apart := false, narrowed := true }
def FileWritesUptoSaid : Prop := fileWritesUptoRow.holds Tryz.pinned (OpenSpec.upto fileWritesSpec)

/-- 'mintagelaw19.ZoneMerges', WHERE WHAT IT READS IS OF BULK AT MOST 1048576: true; the input reads as it did. -/
def zoneMergesUptoRow : OpenClaim := { program := "ytmhjjhaipcgbiaagreat", sum := "7bb30c0e191cd32c463251a7700d1eb5982b6157dd1426a6d308d93edeb095ea", func := "mintage/mintagelaw19.ZoneMerges", spec := "zoneMerges", inPlace := ["internal/bytealg.Compare"], unfollowed := true, recurses := true, apart := false, narrowed := true }
def ZoneMergesUptoSaid : Prop := zoneMergesUptoRow.holds Tryz.pinned (OpenSpec.upto zoneMergesSpec)

end Rows
end Go.Proofs.YtmhjjhaipcgbiaaGreat
