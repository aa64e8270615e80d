/-
  No cell of these rows narrows 'for every input' (looked for: loops, veiled, ifaces, maps, wideKeys, modest, calm, conditions, laid).
  DERIVED. THE GIVEN ROWS OF THIS SEAT. 3 by the template 'for every input the law returns true; each argument reads behind the call as it read before'; 0 by the template 'total and deterministic' (their statements: YtmjmnjfopgabjaaTotals.lean).
  GIVEN WITH THE SEED: the statements are not yours to turn. If you find one false, say at which input.
  Laid BY PROGRAM, IN A SANDBOX (cutbox-rows.mjs): the forced cells as the released guide's own fill.sh prints them over the translation 9cdbd97e14706bfd… (all of the seat's roots in one cut). By AI agents, Wed Nov 11 2026. No macro, syntax, notation, axiom, sorry.
-/
import Derived.Test.YtmjmnjfopgabjaaChecked
import GoSem.Claim
import GoSem.ClaimJoined
import GoSem.ClaimMapViews
import Derived.JoinedTies
import Derived.KernelRfl
namespace Go.Proofs.Ytmjmnjfopgabjaa
/- THE CELL 'sum', in the pinned program and in every row, IS THE sha256 OF THE DUMP (.gsa) THAT YtmjmnjfopgabjaaProg.lean LOADS. Nothing in Lean hashes anything: it is a label: what it is worth is what the hold of that sum in a sandbox is worth. -/
noncomputable def Try.pinned : Pinned := { name := "ytmjmnjfopgabjaa", sum := "9cdbd97e14706bfd8163f2c220710aadec6271dd2362b39d289adba9f59e4707", checked := Try.checked }
namespace Rows
def none {H : Type} : Left H := { results := [], args := [] }

/-- 'bandplanlaw35.ActivityRequired': WHATEVER THE INPUT: true; the input reads as it did. -/
def activityRequiredSpec : ChangeSpec := { name := "activityRequired", fn := fun _ => fun
  | [d1, d2] => { results := [.lit (.bool true)], args := [d1, d2] }
  | _ => none }
def activityRequiredRow : OpenClaim := { program := "ytmjmnjfopgabjaa", sum := "9cdbd97e14706bfd8163f2c220710aadec6271dd2362b39d289adba9f59e4707", func := "bandplan/bandplanlaw35.ActivityRequired", spec := "activityRequired", unfollowed := true, recurses := true, apart := false }
def ActivityRequiredSaid : Prop := activityRequiredRow.holds Try.pinned (OpenSpec.ofChange activityRequiredSpec)

/-- ITS FALSE NEIGHBOUR: 'it returns false'. Refute it at one input. -/
def activityRequiredWrong : ChangeSpec := { name := "activityRequired", fn := fun _ => fun
  | [d1, d2] => { results := [.lit (.bool false)], args := [d1, d2] }
  | _ => none }
def ActivityRequiredWrongFalsely : Prop := activityRequiredRow.holds Try.pinned (OpenSpec.ofChange activityRequiredWrong)

/-- 'bandplanlaw35.ActivityKeep': WHATEVER THE INPUT: true; the input reads as it did. -/
def activityKeepSpec : ChangeSpec := { name := "activityKeep", fn := fun _ => fun
  | [d1, d2, d3, d4] => { results := [.lit (.bool true)], args := [d1, d2, d3, d4] }
  | _ => none }
def activityKeepRow : OpenClaim := { program := "ytmjmnjfopgabjaa", sum := "9cdbd97e14706bfd8163f2c220710aadec6271dd2362b39d289adba9f59e4707", func := "bandplan/bandplanlaw35.ActivityKeep", spec := "activityKeep", unfollowed := true, recurses := true, apart := false }
def ActivityKeepSaid : Prop := activityKeepRow.holds Try.pinned (OpenSpec.ofChange activityKeepSpec)

/-- ITS FALSE NEIGHBOUR: 'it returns false'. Refute it at one input. -/
def activityKeepWrong : ChangeSpec := { name := "activityKeep", fn := fun _ => fun
  | [d1, d2, d3, d4] => { results := [.lit (.bool false)], args := [d1, d2, d3, d4] }
  | _ => none }
def ActivityKeepWrongFalsely : Prop := activityKeepRow.holds Try.pinned (OpenSpec.ofChange activityKeepWrong)

/-- 'bandplanlaw35.ActivitySettle': WHATEVER THE INPUT: true; the input reads as it did. -/
def activitySettleSpec : ChangeSpec := { name := "activitySettle", fn := fun _ => fun
  | [d1, d2, d3] => { results := [.lit (.bool true)], args := [d1, d2, d3] }
  | _ => none }
def activitySettleRow : OpenClaim := { program := "ytmjmnjfopgabjaa", sum := "9cdbd97e14706bfd8163f2c220710aadec6271dd2362b39d289adba9f59e4707", func := "bandplan/bandplanlaw35.ActivitySettle", spec := "activitySettle", unfollowed := true, recurses := true, apart := false }
def ActivitySettleSaid : Prop := activitySettleRow.holds Try.pinned (OpenSpec.ofChange activitySettleSpec)

/-- ITS FALSE NEIGHBOUR: 'it returns false'. Refute it at one input. -/
def activitySettleWrong : ChangeSpec := { name := "activitySettle", fn := fun _ => fun
  | [d1, d2, d3] => { results := [.lit (.bool false)], args := [d1, d2, d3] }
  | _ => none }
def ActivitySettleWrongFalsely : Prop := activitySettleRow.holds Try.pinned (OpenSpec.ofChange activitySettleWrong)

/- THE SECOND FORM. 'bulk': how many values and letters a reading holds, each counted each time it is reached (what is shared counts as often as it is met; a slice's spare places count too). A statement '..UptoSaid' is the law's where the arguments, and the package variables that the reading takes, are together of bulk at most 1048576: NARROWER than '..Said'. Prove '..Said' where nothing that the law and all that it calls make is longer than what came in: it says more and counts as full. Else prove '..UptoSaid'. A law counts once. -/
mutual
def uptoBulk {H : Type} : DataW H → Nat
  | .lit (.string bytes) => bytes.length + 1
  | .lit _ => 1
  | .nil => 1
  | .ptr d => uptoBulk d + 1
  | .slice elems spare => uptoBulkAll elems + uptoBulkAll spare + 1
  | .agg parts => uptoBulkAll parts + 1
  | .iface _ d => uptoBulk d + 1
  | .map entries => uptoBulkEntries entries + 1
  | .held _ => 1
def uptoBulkAll {H : Type} : List (DataW H) → Nat
  | [] => 0
  | d :: r => uptoBulk d + uptoBulkAll r
def uptoBulkEntries {H : Type} : List (Lit × DataW H) → Nat
  | [] => 0
  | x :: r => uptoBulkEntry x + uptoBulkEntries r
def uptoBulkEntry {H : Type} : Lit × DataW H → Nat
  | (.string bytes, d) => bytes.length + uptoBulk d + 1
  | (_, d) => uptoBulk d + 1
 end
def uptoSmall : (H : Type) → List (DataW H) → Bool := fun _ ds => decide (uptoBulkAll ds ≤ 1048576)
def OpenSpec.upto (s : _root_.Go.ChangeSpec) : _root_.Go.OpenSpec := { _root_.Go.OpenSpec.ofChange s with cond := some uptoSmall }

/-- 'bandplanlaw35.ActivityRequired', WHERE WHAT IT READS IS OF BULK AT MOST 1048576: true; the input reads as it did. -/
def activityRequiredUptoRow : OpenClaim := { program := "ytmjmnjfopgabjaa", sum := "9cdbd97e14706bfd8163f2c220710aadec6271dd2362b39d289adba9f59e4707", func := "bandplan/bandplanlaw35.ActivityRequired", spec := "activityRequired", unfollowed := true, recurses := true, apart := false, narrowed := true }
def ActivityRequiredUptoSaid : Prop := activityRequiredUptoRow.holds Try.pinned (OpenSpec.upto activityRequiredSpec)

/-- 'bandplanlaw35.ActivityKeep', WHERE WHAT IT READS IS OF BULK AT MOST 1048576: true; the input reads as it did. -/
def activityKeepUptoRow : OpenClaim := { program := "ytmjmnjfopgabjaa", sum := "9cdbd97e14706bfd8163f2c220710aadec6271dd2362b39d289adba9f59e4707", func := "bandplan/bandplanlaw35.ActivityKeep", spec := "activityKeep", unfollowed := true, recurses := true, apart := false, narrowed := true }
def ActivityKeepUptoSaid : Prop := activityKeepUptoRow.holds Try.pinned (OpenSpec.upto activityKeepSpec)

/-- 'bandplanlaw35.ActivitySettle', WHERE WHAT IT READS IS OF BULK AT MOST 1048576: true; the input reads as it did. -/
def activitySettleUptoRow : OpenClaim := { program := "ytmjmnjfopgabjaa", sum := "9cdbd97e14706bfd8163f2c220710aadec6271dd2362b39d289adba9f59e4707", func := "bandplan/bandplanlaw35.ActivitySettle", spec := "activitySettle", unfollowed := true, recurses := true, apart := false, narrowed := true }
def ActivitySettleUptoSaid : Prop := activitySettleUptoRow.holds Try.pinned (OpenSpec.upto activitySettleSpec)

end Rows
end Go.Proofs.Ytmjmnjfopgabjaa
