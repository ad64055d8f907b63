/-
  No cell of these rows narrows 'for every input' (looked for: loops, veiled, ifaces, maps, wideKeys, modest, calm, conditions, laid).
  DERIVED. THE GIVEN ROWS OF THIS SEAT. 5 by the template 'for every input the law returns true; each argument reads behind the call as it read before'; 0 by the template 'total and deterministic' (their statements: YtmhjjhaipcgbiaaTotals.lean).
  GIVEN WITH THE SEED: the statements are not yours to turn. If you find one false, say at which input.
  Laid BY PROGRAM, IN A SANDBOX (cutbox-rows.mjs): the forced cells as the released guide's own fill.sh prints them over the translation c381c9a192cb6bd6… (all of the seat's roots in one cut). By AI agents, Wed Nov 11 2026. No macro, syntax, notation, axiom, sorry.
-/
import Derived.Test.YtmhjjhaipcgbiaaChecked
import GoSem.Claim
import GoSem.ClaimJoined
import GoSem.ClaimMapViews
import Derived.JoinedTies
import Derived.KernelRfl
namespace Go.Proofs.Ytmhjjhaipcgbiaa
/- THE CELL 'sum', in the pinned program and in every row, IS THE sha256 OF THE DUMP (.gsa) THAT YtmhjjhaipcgbiaaProg.lean LOADS. Nothing in Lean hashes anything: it is a label: what it is worth is what the hold of that sum in a sandbox is worth. -/
noncomputable def Try.pinned : Pinned := { name := "ytmhjjhaipcgbiaa", sum := "c381c9a192cb6bd6c1feffe28c5a79048279abab5296f31b2d20eb007e1f1f0d", checked := Try.checked }
namespace Rows
def none {H : Type} : Left H := { results := [], args := [] }

/-- 'mintagelaw18.ColumnTypes': WHATEVER THE INPUT: true; the input reads as it did. -/
def columnTypesSpec : ChangeSpec := { name := "columnTypes", fn := fun _ => fun
  | [d1, d2, d3] => { results := [.lit (.bool true)], args := [d1, d2, d3] }
  | _ => none }
def columnTypesRow : OpenClaim := { program := "ytmhjjhaipcgbiaa", sum := "c381c9a192cb6bd6c1feffe28c5a79048279abab5296f31b2d20eb007e1f1f0d", func := "mintage/mintagelaw18.ColumnTypes", spec := "columnTypes", apart := false }
def ColumnTypesSaid : Prop := columnTypesRow.holds Try.pinned (OpenSpec.ofChange columnTypesSpec)

/-- ITS FALSE NEIGHBOUR: 'it returns false'. Refute it at one input. -/
def columnTypesWrong : ChangeSpec := { name := "columnTypes", fn := fun _ => fun
  | [d1, d2, d3] => { results := [.lit (.bool false)], args := [d1, d2, d3] }
  | _ => none }
def ColumnTypesWrongFalsely : Prop := columnTypesRow.holds Try.pinned (OpenSpec.ofChange columnTypesWrong)

/-- 'mintagelaw18.ColumnSays': WHATEVER THE INPUT: true; the input reads as it did. -/
def columnSaysSpec : ChangeSpec := { name := "columnSays", fn := fun _ => fun
  | [d1, d2, d3] => { results := [.lit (.bool true)], args := [d1, d2, d3] }
  | _ => none }
def columnSaysRow : OpenClaim := { program := "ytmhjjhaipcgbiaa", sum := "c381c9a192cb6bd6c1feffe28c5a79048279abab5296f31b2d20eb007e1f1f0d", func := "mintage/mintagelaw18.ColumnSays", spec := "columnSays", unfollowed := true, recurses := true, apart := false }
def ColumnSaysSaid : Prop := columnSaysRow.holds Try.pinned (OpenSpec.ofChange columnSaysSpec)

/-- ITS FALSE NEIGHBOUR: 'it returns false'. Refute it at one input. -/
def columnSaysWrong : ChangeSpec := { name := "columnSays", fn := fun _ => fun
  | [d1, d2, d3] => { results := [.lit (.bool false)], args := [d1, d2, d3] }
  | _ => none }
def ColumnSaysWrongFalsely : Prop := columnSaysRow.holds Try.pinned (OpenSpec.ofChange columnSaysWrong)

/-- 'mintagelaw18.ColumnJoins': WHATEVER THE INPUT: true; the input reads as it did. -/
def columnJoinsSpec : ChangeSpec := { name := "columnJoins", fn := fun _ => fun
  | [d1, d2, d3, d4] => { results := [.lit (.bool true)], args := [d1, d2, d3, d4] }
  | _ => none }
def columnJoinsRow : OpenClaim := { program := "ytmhjjhaipcgbiaa", sum := "c381c9a192cb6bd6c1feffe28c5a79048279abab5296f31b2d20eb007e1f1f0d", func := "mintage/mintagelaw18.ColumnJoins", spec := "columnJoins", unfollowed := true, recurses := true, apart := false }
def ColumnJoinsSaid : Prop := columnJoinsRow.holds Try.pinned (OpenSpec.ofChange columnJoinsSpec)

/-- ITS FALSE NEIGHBOUR: 'it returns false'. Refute it at one input. -/
def columnJoinsWrong : ChangeSpec := { name := "columnJoins", fn := fun _ => fun
  | [d1, d2, d3, d4] => { results := [.lit (.bool false)], args := [d1, d2, d3, d4] }
  | _ => none }
def ColumnJoinsWrongFalsely : Prop := columnJoinsRow.holds Try.pinned (OpenSpec.ofChange columnJoinsWrong)

/-- 'mintagelaw25.FileSpoilt': WHATEVER THE INPUT: true; the input reads as it did. -/
def fileSpoiltSpec : ChangeSpec := { name := "fileSpoilt", fn := fun _ => fun
  | [d1, d2, d3] => { results := [.lit (.bool true)], args := [d1, d2, d3] }
  | _ => none }
def fileSpoiltRow : OpenClaim := { program := "ytmhjjhaipcgbiaa", sum := "c381c9a192cb6bd6c1feffe28c5a79048279abab5296f31b2d20eb007e1f1f0d", func := "mintage/mintagelaw25.FileSpoilt", spec := "fileSpoilt", unfollowed := true, recurses := true, apart := false }
def FileSpoiltSaid : Prop := fileSpoiltRow.holds Try.pinned (OpenSpec.ofChange fileSpoiltSpec)

/-- ITS FALSE NEIGHBOUR: 'it returns false'. Refute it at one input. -/
def fileSpoiltWrong : ChangeSpec := { name := "fileSpoilt", fn := fun _ => fun
  | [d1, d2, d3] => { results := [.lit (.bool false)], args := [d1, d2, d3] }
  | _ => none }
def FileSpoiltWrongFalsely : Prop := fileSpoiltRow.holds Try.pinned (OpenSpec.ofChange fileSpoiltWrong)

/-- 'mintagelaw25.FileBack': WHATEVER THE INPUT: true; the input reads as it did. -/
def fileBackSpec : ChangeSpec := { name := "fileBack", fn := fun _ => fun
  | [d] => { results := [.lit (.bool true)], args := [d] }
  | _ => none }
def fileBackRow : OpenClaim := { program := "ytmhjjhaipcgbiaa", sum := "c381c9a192cb6bd6c1feffe28c5a79048279abab5296f31b2d20eb007e1f1f0d", func := "mintage/mintagelaw25.FileBack", spec := "fileBack", unfollowed := true, recurses := true, apart := false }
def FileBackSaid : Prop := fileBackRow.holds Try.pinned (OpenSpec.ofChange fileBackSpec)

/-- ITS FALSE NEIGHBOUR: 'it returns false'. Refute it at one input. -/
def fileBackWrong : ChangeSpec := { name := "fileBack", fn := fun _ => fun
  | [d] => { results := [.lit (.bool false)], args := [d] }
  | _ => none }
def FileBackWrongFalsely : Prop := fileBackRow.holds Try.pinned (OpenSpec.ofChange fileBackWrong)

/- THE SECOND FORM. 'bulk': how many values and letters a reading holds, each counted each time it is reached (what is shared counts as often as it is met; a slice's spare places count too). A statement '..UptoSaid' is the law's where the arguments, and the package variables that the reading takes, are together of bulk at most 1048576: NARROWER than '..Said'. Prove '..Said' where nothing that the law and all that it calls make is longer than what came in: it says more and counts as full. Else prove '..UptoSaid'. A law counts once. -/
mutual
def uptoBulk {H : Type} : DataW H → Nat
  | .lit (.string bytes) => bytes.length + 1
  | .lit _ => 1
  | .nil => 1
  | .ptr d => uptoBulk d + 1
  | .slice elems spare => uptoBulkAll elems + uptoBulkAll spare + 1
  | .agg parts => uptoBulkAll parts + 1
  | .iface _ d => uptoBulk d + 1
  | .map entries => uptoBulkEntries entries + 1
  | .held _ => 1
def uptoBulkAll {H : Type} : List (DataW H) → Nat
  | [] => 0
  | d :: r => uptoBulk d + uptoBulkAll r
def uptoBulkEntries {H : Type} : List (Lit × DataW H) → Nat
  | [] => 0
  | x :: r => uptoBulkEntry x + uptoBulkEntries r
def uptoBulkEntry {H : Type} : Lit × DataW H → Nat
  | (.string bytes, d) => bytes.length + uptoBulk d + 1
  | (_, d) => uptoBulk d + 1
 end
def uptoSmall : (H : Type) → List (DataW H) → Bool := fun _ ds => decide (uptoBulkAll ds ≤ 1048576)
def OpenSpec.upto (s : _root_.Go.ChangeSpec) : _root_.Go.OpenSpec := { _root_.Go.OpenSpec.ofChange s with cond := some uptoSmall }

/-- 'mintagelaw18.ColumnTypes', WHERE WHAT IT READS IS OF BULK AT MOST 1048576: true; the input reads as it did. -/
def columnTypesUptoRow : OpenClaim := { program := "ytmhjjhaipcgbiaa", sum := "c381c9a192cb6bd6c1feffe28c5a79048279abab5296f31b2d20eb007e1f1f0d", func := "mintage/mintagelaw18.ColumnTypes", spec := "columnTypes", apart := false, narrowed := true }
def ColumnTypesUptoSaid : Prop := columnTypesUptoRow.holds Try.pinned (OpenSpec.upto columnTypesSpec)

/-- 'mintagelaw18.ColumnSays', WHERE WHAT IT READS IS OF BULK AT MOST 1048576: true; the input reads as it did. -/
def columnSaysUptoRow : OpenClaim := { program := "ytmhjjhaipcgbiaa", sum := "c381c9a192cb6bd6c1feffe28c5a79048279abab5296f31b2d20eb007e1f1f0d", func := "mintage/mintagelaw18.ColumnSays", spec := "columnSays", unfollowed := true, recurses := true, apart := false, narrowed := true }
def ColumnSaysUptoSaid : Prop := columnSaysUptoRow.holds Try.pinned (OpenSpec.upto columnSaysSpec)

/-- 'mintagelaw18.ColumnJoins', WHERE WHAT IT READS IS OF BULK AT MOST 1048576: true; the input reads as it did. -/
def columnJoinsUptoRow : OpenClaim := { program := "ytmhjjhaipcgbiaa", sum := "c381c9a192cb6bd6c1feffe28c5a79048279abab5296f31b2d20eb007e1f1f0d", func := "mintage/mintagelaw18.ColumnJoins", spec := "columnJoins", unfollowed := true, recurses := true, apart := false, narrowed := true }
def ColumnJoinsUptoSaid : Prop := columnJoinsUptoRow.holds Try.pinned (OpenSpec.upto columnJoinsSpec)

/-- 'mintagelaw25.FileSpoilt', WHERE WHAT IT READS IS OF BULK AT MOST 1048576: true; the input reads as it did. -/
def fileSpoiltUptoRow : OpenClaim := { program := "ytmhjjhaipcgbiaa", sum := "c381c9a192cb6bd6c1feffe28c5a79048279abab5296f31b2d20eb007e1f1f0d", func := "mintage/mintagelaw25.FileSpoilt", spec := "fileSpoilt", unfollowed := true, recurses := true, apart := false, narrowed := true }
def FileSpoiltUptoSaid : Prop := fileSpoiltUptoRow.holds Try.pinned (OpenSpec.upto fileSpoiltSpec)

/-- 'mintagelaw25.FileBack', WHERE WHAT IT READS IS OF BULK AT MOST 1048576: true; the input reads as it did. -/
def fileBackUptoRow : OpenClaim := { program := "ytmhjjhaipcgbiaa", sum := "c381c9a192cb6bd6c1feffe28c5a79048279abab5296f31b2d20eb007e1f1f0d", func := "mintage/mintagelaw25.FileBack", spec := "fileBack", unfollowed := true, recurses := true, apart := false, narrowed := true }
def FileBackUptoSaid : Prop := fileBackUptoRow.holds Try.pinned (OpenSpec.upto fileBackSpec)

end Rows
end Go.Proofs.Ytmhjjhaipcgbiaa
