/-
  No cell of these rows narrows 'for every input' (looked for: loops, veiled, ifaces, maps, wideKeys, modest, calm, conditions, laid).
  DERIVED. THE GIVEN ROWS OF THIS SEAT. 3 by the template 'for every input the law returns true; each argument reads behind the call as it read before'; 0 by the template 'total and deterministic' (their statements: YtbehdmmmfonbkaaTotals.lean).
  GIVEN WITH THE SEED: the statements are not yours to turn. If you find one false, say at which input.
  Laid BY PROGRAM, IN A SANDBOX (cutbox-rows.mjs): the forced cells as the released guide's own fill.sh prints them over the translation a2cbeda58ca530e7… (all of the seat's roots in one cut). By AI agents, Wed Nov 11 2026. No macro, syntax, notation, axiom, sorry.
-/
import Derived.Test.YtbehdmmmfonbkaaChecked
import GoSem.Claim
import GoSem.ClaimJoined
import GoSem.ClaimMapViews
import Derived.JoinedTies
import Derived.KernelRfl
namespace Go.Proofs.Ytbehdmmmfonbkaa
/- THE CELL 'sum', in the pinned program and in every row, IS THE sha256 OF THE DUMP (.gsa) THAT YtbehdmmmfonbkaaProg.lean LOADS. Nothing in Lean hashes anything: it is a label: what it is worth is what the hold of that sum in a sandbox is worth. -/
noncomputable def Try.pinned : Pinned := { name := "ytbehdmmmfonbkaa", sum := "a2cbeda58ca530e7556b32e1040389f3c87510eb66799fdf0ad2ff6b5475ddd5", checked := Try.checked }
namespace Rows
def none {H : Type} : Left H := { results := [], args := [] }

/-- 'plugkeep.SetupApart': WHATEVER THE INPUT: true; the input reads as it did. -/
def setupApartSpec : ChangeSpec := { name := "setupApart", fn := fun _ => fun
  | [d1, d2] => { results := [.lit (.bool true)], args := [d1, d2] }
  | _ => none }
def setupApartRow : OpenClaim := { program := "ytbehdmmmfonbkaa", sum := "a2cbeda58ca530e7556b32e1040389f3c87510eb66799fdf0ad2ff6b5475ddd5", func := "plugtree/plugkeep.SetupApart", spec := "setupApart", unfollowed := true, recurses := true, apart := false }
def SetupApartSaid : Prop := setupApartRow.holds Try.pinned (OpenSpec.ofChange setupApartSpec)

/-- ITS FALSE NEIGHBOUR: 'it returns false'. Refute it at one input. -/
def setupApartWrong : ChangeSpec := { name := "setupApart", fn := fun _ => fun
  | [d1, d2] => { results := [.lit (.bool false)], args := [d1, d2] }
  | _ => none }
def SetupApartWrongFalsely : Prop := setupApartRow.holds Try.pinned (OpenSpec.ofChange setupApartWrong)

/-- 'plugkeep.SetupWay': WHATEVER THE INPUT: true; the input reads as it did. -/
def setupWaySpec : ChangeSpec := { name := "setupWay", fn := fun _ => fun
  | [d] => { results := [.lit (.bool true)], args := [d] }
  | _ => none }
def setupWayRow : OpenClaim := { program := "ytbehdmmmfonbkaa", sum := "a2cbeda58ca530e7556b32e1040389f3c87510eb66799fdf0ad2ff6b5475ddd5", func := "plugtree/plugkeep.SetupWay", spec := "setupWay", unfollowed := true, recurses := true, apart := false }
def SetupWaySaid : Prop := setupWayRow.holds Try.pinned (OpenSpec.ofChange setupWaySpec)

/-- ITS FALSE NEIGHBOUR: 'it returns false'. Refute it at one input. -/
def setupWayWrong : ChangeSpec := { name := "setupWay", fn := fun _ => fun
  | [d] => { results := [.lit (.bool false)], args := [d] }
  | _ => none }
def SetupWayWrongFalsely : Prop := setupWayRow.holds Try.pinned (OpenSpec.ofChange setupWayWrong)

/-- 'plugkeep.SetupBack': WHATEVER THE INPUT: true; the input reads as it did. -/
def setupBackSpec : ChangeSpec := { name := "setupBack", fn := fun _ => fun
  | [d1, d2] => { results := [.lit (.bool true)], args := [d1, d2] }
  | _ => none }
def setupBackRow : OpenClaim := { program := "ytbehdmmmfonbkaa", sum := "a2cbeda58ca530e7556b32e1040389f3c87510eb66799fdf0ad2ff6b5475ddd5", func := "plugtree/plugkeep.SetupBack", spec := "setupBack", unfollowed := true, recurses := true, apart := false }
def SetupBackSaid : Prop := setupBackRow.holds Try.pinned (OpenSpec.ofChange setupBackSpec)

/-- ITS FALSE NEIGHBOUR: 'it returns false'. Refute it at one input. -/
def setupBackWrong : ChangeSpec := { name := "setupBack", fn := fun _ => fun
  | [d1, d2] => { results := [.lit (.bool false)], args := [d1, d2] }
  | _ => none }
def SetupBackWrongFalsely : Prop := setupBackRow.holds Try.pinned (OpenSpec.ofChange setupBackWrong)

/- THE SECOND FORM. 'bulk': how many values and letters a reading holds, each counted each time it is reached (what is shared counts as often as it is met; a slice's spare places count too). A statement '..UptoSaid' is the law's where the arguments, and the package variables that the reading takes, are together of bulk at most 1048576: NARROWER than '..Said'. Prove '..Said' where nothing that the law and all that it calls make is longer than what came in: it says more and counts as full. Else prove '..UptoSaid'. A law counts once. -/
mutual
def uptoBulk {H : Type} : DataW H → Nat
  | .lit (.string bytes) => bytes.length + 1
  | .lit _ => 1
  | .nil => 1
  | .ptr d => uptoBulk d + 1
  | .slice elems spare => uptoBulkAll elems + uptoBulkAll spare + 1
  | .agg parts => uptoBulkAll parts + 1
  | .iface _ d => uptoBulk d + 1
  | .map entries => uptoBulkEntries entries + 1
  | .held _ => 1
def uptoBulkAll {H : Type} : List (DataW H) → Nat
  | [] => 0
  | d :: r => uptoBulk d + uptoBulkAll r
def uptoBulkEntries {H : Type} : List (Lit × DataW H) → Nat
  | [] => 0
  | x :: r => uptoBulkEntry x + uptoBulkEntries r
def uptoBulkEntry {H : Type} : Lit × DataW H → Nat
  | (.string bytes, d) => bytes.length + uptoBulk d + 1
  | (_, d) => uptoBulk d + 1
 end
def uptoSmall : (H : Type) → List (DataW H) → Bool := fun _ ds => decide (uptoBulkAll ds ≤ 1048576)
def OpenSpec.upto (s : _root_.Go.ChangeSpec) : _root_.Go.OpenSpec := { _root_.Go.OpenSpec.ofChange s with cond := some uptoSmall }

/-- 'plugkeep.SetupApart', WHERE WHAT IT READS IS OF BULK AT MOST 1048576: true; the input reads as it did. -/
def setupApartUptoRow : OpenClaim := { program := "ytbehdmmmfonbkaa", sum := "a2cbeda58ca530e7556b32e1040389f3c87510eb66799fdf0ad2ff6b5475ddd5", func := "plugtree/plugkeep.SetupApart", spec := "setupApart", unfollowed := true, recurses := true, apart := false, narrowed := true }
def SetupApartUptoSaid : Prop := setupApartUptoRow.holds Try.pinned (OpenSpec.upto setupApartSpec)

/-- 'plugkeep.SetupWay', WHERE WHAT IT READS IS OF BULK AT MOST 1048576: true; the input reads as it did. -/
def setupWayUptoRow : OpenClaim := { program := "ytbehdmmmfonbkaa", sum := "a2cbeda58ca530e7556b32e1040389f3c87510eb66799fdf0ad2ff6b5475ddd5", func := "plugtree/plugkeep.SetupWay", spec := "setupWay", unfollowed := true, recurses := true, apart := false, narrowed := true }
def SetupWayUptoSaid : Prop := setupWayUptoRow.holds Try.pinned (OpenSpec.upto setupWaySpec)

/-- 'plugkeep.SetupBack', WHERE WHAT IT READS IS OF BULK AT MOST 1048576: true; the input reads as it did. -/
def setupBackUptoRow : OpenClaim := { program := "ytbehdmmmfonbkaa", sum := "a2cbeda58ca530e7556b32e1040389f3c87510eb66799fdf0ad2ff6b5475ddd5", func := "plugtree/plugkeep.SetupBack", spec := "setupBack", unfollowed := true, recurses := true, apart := false, narrowed := true }
def SetupBackUptoSaid : Prop := setupBackUptoRow.holds Try.pinned (OpenSpec.upto setupBackSpec)

end Rows
end Go.Proofs.Ytbehdmmmfonbkaa
