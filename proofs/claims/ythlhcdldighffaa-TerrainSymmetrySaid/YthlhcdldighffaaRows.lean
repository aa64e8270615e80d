/-
  No cell of these rows narrows 'for every input' (looked for: loops, veiled, ifaces, maps, wideKeys, modest, calm, conditions, laid).
  DERIVED. THE GIVEN ROWS OF THIS SEAT. 8 by the template 'for every input the law returns true; each argument reads behind the call as it read before'; 0 by the template 'total and deterministic' (their statements: YthlhcdldighffaaTotals.lean).
  GIVEN WITH THE SEED: the statements are not yours to turn. If you find one false, say at which input.
  Laid BY PROGRAM, IN A SANDBOX (cutbox-rows.mjs): the forced cells as the released guide's own fill.sh prints them over the translation c1a56b98c1366780… (all of the seat's roots in one cut). By AI agents, Wed Nov 11 2026. No macro, syntax, notation, axiom, sorry.
-/
import Derived.Test.YthlhcdldighffaaChecked
import GoSem.Claim
import GoSem.ClaimJoined
import GoSem.ClaimMapViews
import Derived.JoinedTies
import Derived.KernelRfl
namespace Go.Proofs.Ythlhcdldighffaa
/- THE CELL 'sum', in the pinned program and in every row, IS THE sha256 OF THE DUMP (.gsa) THAT YthlhcdldighffaaProg.lean LOADS. Nothing in Lean hashes anything: it is a label: what it is worth is what the hold of that sum in a sandbox is worth. -/
noncomputable def Try.pinned : Pinned := { name := "ythlhcdldighffaa", sum := "c1a56b98c13667808253fa9df0a35204295afe925470c0550c11109da1285996", checked := Try.checked }
namespace Rows
def none {H : Type} : Left H := { results := [], args := [] }

/-- 'bandplanlaw10.TerrainFlat': WHATEVER THE INPUT: true; the input reads as it did. -/
def terrainFlatSpec : ChangeSpec := { name := "terrainFlat", fn := fun _ => fun
  | [d1, d2, d3, d4] => { results := [.lit (.bool true)], args := [d1, d2, d3, d4] }
  | _ => none }
def terrainFlatRow : OpenClaim := { program := "ythlhcdldighffaa", sum := "c1a56b98c13667808253fa9df0a35204295afe925470c0550c11109da1285996", func := "bandplan/bandplanlaw10.TerrainFlat", spec := "terrainFlat", unfollowed := true, recurses := true, apart := false }
def TerrainFlatSaid : Prop := terrainFlatRow.holds Try.pinned (OpenSpec.ofChange terrainFlatSpec)

/-- ITS FALSE NEIGHBOUR: 'it returns false'. Refute it at one input. -/
def terrainFlatWrong : ChangeSpec := { name := "terrainFlat", fn := fun _ => fun
  | [d1, d2, d3, d4] => { results := [.lit (.bool false)], args := [d1, d2, d3, d4] }
  | _ => none }
def TerrainFlatWrongFalsely : Prop := terrainFlatRow.holds Try.pinned (OpenSpec.ofChange terrainFlatWrong)

/-- 'bandplanlaw10.TerrainSets': WHATEVER THE INPUT: true; the input reads as it did. -/
def terrainSetsSpec : ChangeSpec := { name := "terrainSets", fn := fun _ => fun
  | [d1, d2, d3, d4] => { results := [.lit (.bool true)], args := [d1, d2, d3, d4] }
  | _ => none }
def terrainSetsRow : OpenClaim := { program := "ythlhcdldighffaa", sum := "c1a56b98c13667808253fa9df0a35204295afe925470c0550c11109da1285996", func := "bandplan/bandplanlaw10.TerrainSets", spec := "terrainSets", unfollowed := true, recurses := true, apart := false }
def TerrainSetsSaid : Prop := terrainSetsRow.holds Try.pinned (OpenSpec.ofChange terrainSetsSpec)

/-- ITS FALSE NEIGHBOUR: 'it returns false'. Refute it at one input. -/
def terrainSetsWrong : ChangeSpec := { name := "terrainSets", fn := fun _ => fun
  | [d1, d2, d3, d4] => { results := [.lit (.bool false)], args := [d1, d2, d3, d4] }
  | _ => none }
def TerrainSetsWrongFalsely : Prop := terrainSetsRow.holds Try.pinned (OpenSpec.ofChange terrainSetsWrong)

/-- 'bandplanlaw10.TerrainLines': WHATEVER THE INPUT: true; the input reads as it did. -/
def terrainLinesSpec : ChangeSpec := { name := "terrainLines", fn := fun _ => fun
  | [d1, d2] => { results := [.lit (.bool true)], args := [d1, d2] }
  | _ => none }
def terrainLinesRow : OpenClaim := { program := "ythlhcdldighffaa", sum := "c1a56b98c13667808253fa9df0a35204295afe925470c0550c11109da1285996", func := "bandplan/bandplanlaw10.TerrainLines", spec := "terrainLines", unfollowed := true, recurses := true, apart := false }
def TerrainLinesSaid : Prop := terrainLinesRow.holds Try.pinned (OpenSpec.ofChange terrainLinesSpec)

/-- ITS FALSE NEIGHBOUR: 'it returns false'. Refute it at one input. -/
def terrainLinesWrong : ChangeSpec := { name := "terrainLines", fn := fun _ => fun
  | [d1, d2] => { results := [.lit (.bool false)], args := [d1, d2] }
  | _ => none }
def TerrainLinesWrongFalsely : Prop := terrainLinesRow.holds Try.pinned (OpenSpec.ofChange terrainLinesWrong)

/-- 'bandplanlaw10.TerrainProfiles': WHATEVER THE INPUT: true; the input reads as it did. -/
def terrainProfilesSpec : ChangeSpec := { name := "terrainProfiles", fn := fun _ => fun
  | [d1, d2, d3] => { results := [.lit (.bool true)], args := [d1, d2, d3] }
  | _ => none }
def terrainProfilesRow : OpenClaim := { program := "ythlhcdldighffaa", sum := "c1a56b98c13667808253fa9df0a35204295afe925470c0550c11109da1285996", func := "bandplan/bandplanlaw10.TerrainProfiles", spec := "terrainProfiles", unfollowed := true, recurses := true, apart := false }
def TerrainProfilesSaid : Prop := terrainProfilesRow.holds Try.pinned (OpenSpec.ofChange terrainProfilesSpec)

/-- ITS FALSE NEIGHBOUR: 'it returns false'. Refute it at one input. -/
def terrainProfilesWrong : ChangeSpec := { name := "terrainProfiles", fn := fun _ => fun
  | [d1, d2, d3] => { results := [.lit (.bool false)], args := [d1, d2, d3] }
  | _ => none }
def TerrainProfilesWrongFalsely : Prop := terrainProfilesRow.holds Try.pinned (OpenSpec.ofChange terrainProfilesWrong)

/-- 'bandplanlaw10.TerrainTotals': WHATEVER THE INPUT: true; the input reads as it did. -/
def terrainTotalsSpec : ChangeSpec := { name := "terrainTotals", fn := fun _ => fun
  | [d1, d2] => { results := [.lit (.bool true)], args := [d1, d2] }
  | _ => none }
def terrainTotalsRow : OpenClaim := { program := "ythlhcdldighffaa", sum := "c1a56b98c13667808253fa9df0a35204295afe925470c0550c11109da1285996", func := "bandplan/bandplanlaw10.TerrainTotals", spec := "terrainTotals", unfollowed := true, recurses := true, apart := false }
def TerrainTotalsSaid : Prop := terrainTotalsRow.holds Try.pinned (OpenSpec.ofChange terrainTotalsSpec)

/-- ITS FALSE NEIGHBOUR: 'it returns false'. Refute it at one input. -/
def terrainTotalsWrong : ChangeSpec := { name := "terrainTotals", fn := fun _ => fun
  | [d1, d2] => { results := [.lit (.bool false)], args := [d1, d2] }
  | _ => none }
def TerrainTotalsWrongFalsely : Prop := terrainTotalsRow.holds Try.pinned (OpenSpec.ofChange terrainTotalsWrong)

/-- 'bandplanlaw10.TerrainSymmetry': WHATEVER THE INPUT: true; the input reads as it did. -/
def terrainSymmetrySpec : ChangeSpec := { name := "terrainSymmetry", fn := fun _ => fun
  | [d1, d2, d3, d4] => { results := [.lit (.bool true)], args := [d1, d2, d3, d4] }
  | _ => none }
def terrainSymmetryRow : OpenClaim := { program := "ythlhcdldighffaa", sum := "c1a56b98c13667808253fa9df0a35204295afe925470c0550c11109da1285996", func := "bandplan/bandplanlaw10.TerrainSymmetry", spec := "terrainSymmetry", unfollowed := true, recurses := true, apart := false }
def TerrainSymmetrySaid : Prop := terrainSymmetryRow.holds Try.pinned (OpenSpec.ofChange terrainSymmetrySpec)

/-- ITS FALSE NEIGHBOUR: 'it returns false'. Refute it at one input. -/
def terrainSymmetryWrong : ChangeSpec := { name := "terrainSymmetry", fn := fun _ => fun
  | [d1, d2, d3, d4] => { results := [.lit (.bool false)], args := [d1, d2, d3, d4] }
  | _ => none }
def TerrainSymmetryWrongFalsely : Prop := terrainSymmetryRow.holds Try.pinned (OpenSpec.ofChange terrainSymmetryWrong)

/-- 'bandplanlaw10.TerrainCells': WHATEVER THE INPUT: true; the input reads as it did. -/
def terrainCellsSpec : ChangeSpec := { name := "terrainCells", fn := fun _ => fun
  | [d1, d2, d3] => { results := [.lit (.bool true)], args := [d1, d2, d3] }
  | _ => none }
def terrainCellsRow : OpenClaim := { program := "ythlhcdldighffaa", sum := "c1a56b98c13667808253fa9df0a35204295afe925470c0550c11109da1285996", func := "bandplan/bandplanlaw10.TerrainCells", spec := "terrainCells", unfollowed := true, recurses := true, apart := false }
def TerrainCellsSaid : Prop := terrainCellsRow.holds Try.pinned (OpenSpec.ofChange terrainCellsSpec)

/-- ITS FALSE NEIGHBOUR: 'it returns false'. Refute it at one input. -/
def terrainCellsWrong : ChangeSpec := { name := "terrainCells", fn := fun _ => fun
  | [d1, d2, d3] => { results := [.lit (.bool false)], args := [d1, d2, d3] }
  | _ => none }
def TerrainCellsWrongFalsely : Prop := terrainCellsRow.holds Try.pinned (OpenSpec.ofChange terrainCellsWrong)

/-- 'bandplanlaw10.TerrainCopies': WHATEVER THE INPUT: true; the input reads as it did. -/
def terrainCopiesSpec : ChangeSpec := { name := "terrainCopies", fn := fun _ => fun
  | [d1, d2] => { results := [.lit (.bool true)], args := [d1, d2] }
  | _ => none }
def terrainCopiesRow : OpenClaim := { program := "ythlhcdldighffaa", sum := "c1a56b98c13667808253fa9df0a35204295afe925470c0550c11109da1285996", func := "bandplan/bandplanlaw10.TerrainCopies", spec := "terrainCopies", unfollowed := true, recurses := true, apart := false }
def TerrainCopiesSaid : Prop := terrainCopiesRow.holds Try.pinned (OpenSpec.ofChange terrainCopiesSpec)

/-- ITS FALSE NEIGHBOUR: 'it returns false'. Refute it at one input. -/
def terrainCopiesWrong : ChangeSpec := { name := "terrainCopies", fn := fun _ => fun
  | [d1, d2] => { results := [.lit (.bool false)], args := [d1, d2] }
  | _ => none }
def TerrainCopiesWrongFalsely : Prop := terrainCopiesRow.holds Try.pinned (OpenSpec.ofChange terrainCopiesWrong)

/- THE SECOND FORM. 'bulk': how many values and letters a reading holds, each counted each time it is reached (what is shared counts as often as it is met; a slice's spare places count too). A statement '..UptoSaid' is the law's where the arguments, and the package variables that the reading takes, are together of bulk at most 1048576: NARROWER than '..Said'. Prove '..Said' where nothing that the law and all that it calls make is longer than what came in: it says more and counts as full. Else prove '..UptoSaid'. A law counts once. -/
mutual
def uptoBulk {H : Type} : DataW H → Nat
  | .lit (.string bytes) => bytes.length + 1
  | .lit _ => 1
  | .nil => 1
  | .ptr d => uptoBulk d + 1
  | .slice elems spare => uptoBulkAll elems + uptoBulkAll spare + 1
  | .agg parts => uptoBulkAll parts + 1
  | .iface _ d => uptoBulk d + 1
  | .map entries => uptoBulkEntries entries + 1
  | .held _ => 1
def uptoBulkAll {H : Type} : List (DataW H) → Nat
  | [] => 0
  | d :: r => uptoBulk d + uptoBulkAll r
def uptoBulkEntries {H : Type} : List (Lit × DataW H) → Nat
  | [] => 0
  | x :: r => uptoBulkEntry x + uptoBulkEntries r
def uptoBulkEntry {H : Type} : Lit × DataW H → Nat
  | (.string bytes, d) => bytes.length + uptoBulk d + 1
  | (_, d) => uptoBulk d + 1
 end
def uptoSmall : (H : Type) → List (DataW H) → Bool := fun _ ds => decide (uptoBulkAll ds ≤ 1048576)
def OpenSpec.upto (s : _root_.Go.ChangeSpec) : _root_.Go.OpenSpec := { _root_.Go.OpenSpec.ofChange s with cond := some uptoSmall }

/-- 'bandplanlaw10.TerrainFlat', WHERE WHAT IT READS IS OF BULK AT MOST 1048576: true; the input reads as it did. -/
def terrainFlatUptoRow : OpenClaim := { program := "ythlhcdldighffaa", sum := "c1a56b98c13667808253fa9df0a35204295afe925470c0550c11109da1285996", func := "bandplan/bandplanlaw10.TerrainFlat", spec := "terrainFlat", unfollowed := true, recurses := true, apart := false, narrowed := true }
def TerrainFlatUptoSaid : Prop := terrainFlatUptoRow.holds Try.pinned (OpenSpec.upto terrainFlatSpec)

/-- 'bandplanlaw10.TerrainSets', WHERE WHAT IT READS IS OF BULK AT MOST 1048576: true; the input reads as it did. -/
def terrainSetsUptoRow : OpenClaim := { program := "ythlhcdldighffaa", sum := "c1a56b98c13667808253fa9df0a35204295afe925470c0550c11109da1285996", func := "bandplan/bandplanlaw10.TerrainSets", spec := "terrainSets", unfollowed := true, recurses := true, apart := false, narrowed := true }
def TerrainSetsUptoSaid : Prop := terrainSetsUptoRow.holds Try.pinned (OpenSpec.upto terrainSetsSpec)

/-- 'bandplanlaw10.TerrainLines', WHERE WHAT IT READS IS OF BULK AT MOST 1048576: true; the input reads as it did. -/
def terrainLinesUptoRow : OpenClaim := { program := "ythlhcdldighffaa", sum := "c1a56b98c13667808253fa9df0a35204295afe925470c0550c11109da1285996", func := "bandplan/bandplanlaw10.TerrainLines", spec := "terrainLines", unfollowed := true, recurses := true, apart := false, narrowed := true }
def TerrainLinesUptoSaid : Prop := terrainLinesUptoRow.holds Try.pinned (OpenSpec.upto terrainLinesSpec)

/-- 'bandplanlaw10.TerrainProfiles', WHERE WHAT IT READS IS OF BULK AT MOST 1048576: true; the input reads as it did. -/
def terrainProfilesUptoRow : OpenClaim := { program := "ythlhcdldighffaa", sum := "c1a56b98c13667808253fa9df0a35204295afe925470c0550c11109da1285996", func := "bandplan/bandplanlaw10.TerrainProfiles", spec := "terrainProfiles", unfollowed := true, recurses := true, apart := false, narrowed := true }
def TerrainProfilesUptoSaid : Prop := terrainProfilesUptoRow.holds Try.pinned (OpenSpec.upto terrainProfilesSpec)

/-- 'bandplanlaw10.TerrainTotals', WHERE WHAT IT READS IS OF BULK AT MOST 1048576: true; the input reads as it did. -/
def terrainTotalsUptoRow : OpenClaim := { program := "ythlhcdldighffaa", sum := "c1a56b98c13667808253fa9df0a35204295afe925470c0550c11109da1285996", func := "bandplan/bandplanlaw10.TerrainTotals", spec := "terrainTotals", unfollowed := true, recurses := true, apart := false, narrowed := true }
def TerrainTotalsUptoSaid : Prop := terrainTotalsUptoRow.holds Try.pinned (OpenSpec.upto terrainTotalsSpec)

/-- 'bandplanlaw10.TerrainSymmetry', WHERE WHAT IT READS IS OF BULK AT MOST 1048576: true; the input reads as it did. -/
def terrainSymmetryUptoRow : OpenClaim := { program := "ythlhcdldighffaa", sum := "c1a56b98c13667808253fa9df0a35204295afe925470c0550c11109da1285996", func := "bandplan/bandplanlaw10.TerrainSymmetry", spec := "terrainSymmetry", unfollowed := true, recurses := true, apart := false, narrowed := true }
def TerrainSymmetryUptoSaid : Prop := terrainSymmetryUptoRow.holds Try.pinned (OpenSpec.upto terrainSymmetrySpec)

/-- 'bandplanlaw10.TerrainCells', WHERE WHAT IT READS IS OF BULK AT MOST 1048576: true; the input reads as it did. -/
def terrainCellsUptoRow : OpenClaim := { program := "ythlhcdldighffaa", sum := "c1a56b98c13667808253fa9df0a35204295afe925470c0550c11109da1285996", func := "bandplan/bandplanlaw10.TerrainCells", spec := "terrainCells", unfollowed := true, recurses := true, apart := false, narrowed := true }
def TerrainCellsUptoSaid : Prop := terrainCellsUptoRow.holds Try.pinned (OpenSpec.upto terrainCellsSpec)

/-- 'bandplanlaw10.TerrainCopies', WHERE WHAT IT READS IS OF BULK AT MOST 1048576: true; the input reads as it did. -/
def terrainCopiesUptoRow : OpenClaim := { program := "ythlhcdldighffaa", sum := "c1a56b98c13667808253fa9df0a35204295afe925470c0550c11109da1285996", func := "bandplan/bandplanlaw10.TerrainCopies", spec := "terrainCopies", unfollowed := true, recurses := true, apart := false, narrowed := true }
def TerrainCopiesUptoSaid : Prop := terrainCopiesUptoRow.holds Try.pinned (OpenSpec.upto terrainCopiesSpec)

end Rows
end Go.Proofs.Ythlhcdldighffaa
