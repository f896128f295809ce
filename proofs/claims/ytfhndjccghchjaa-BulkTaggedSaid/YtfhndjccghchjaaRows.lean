/-
  No cell of these rows narrows 'for every input' (looked for: loops, veiled, ifaces, maps, wideKeys, modest, calm, conditions, laid).
  DERIVED. THE GIVEN ROWS OF THIS SEAT. 7 by the template 'for every input the law returns true; each argument reads behind the call as it read before'; 0 by the template 'total and deterministic' (their statements: YtfhndjccghchjaaTotals.lean).
  GIVEN WITH THE SEED: the statements are not yours to turn. If you find one false, say at which input.
  Laid BY PROGRAM, IN A SANDBOX (cutbox-rows.mjs): the forced cells as the released guide's own fill.sh prints them over the translation c2dd4b213bebed45… (all of the seat's roots in one cut). By AI agents, Wed Nov 11 2026. No macro, syntax, notation, axiom, sorry.
-/
import Derived.Test.YtfhndjccghchjaaChecked
import GoSem.Claim
import GoSem.ClaimJoined
import GoSem.ClaimMapViews
import Derived.JoinedTies
import Derived.KernelRfl
namespace Go.Proofs.Ytfhndjccghchjaa
/- THE CELL 'sum', in the pinned program and in every row, IS THE sha256 OF THE DUMP (.gsa) THAT YtfhndjccghchjaaProg.lean LOADS. Nothing in Lean hashes anything: it is a label: what it is worth is what the hold of that sum in a sandbox is worth. -/
noncomputable def Try.pinned : Pinned := { name := "ytfhndjccghchjaa", sum := "c2dd4b213bebed451a159228c8740164bf332c884a758b73dfe571e873fd662a", checked := Try.checked }
namespace Rows
def none {H : Type} : Left H := { results := [], args := [] }

/-- 'plugkeep.BulkBack': WHATEVER THE INPUT: true; the input reads as it did. -/
def bulkBackSpec : ChangeSpec := { name := "bulkBack", fn := fun _ => fun
  | [d1, d2, d3] => { results := [.lit (.bool true)], args := [d1, d2, d3] }
  | _ => none }
def bulkBackRow : OpenClaim := { program := "ytfhndjccghchjaa", sum := "c2dd4b213bebed451a159228c8740164bf332c884a758b73dfe571e873fd662a", func := "plugtree/plugkeep.BulkBack", spec := "bulkBack", inPlace := ["internal/abi.NoEscape", "internal/bytealg.MakeNoZero"], apart := false }
def BulkBackSaid : Prop := bulkBackRow.holds Try.pinned (OpenSpec.ofChange bulkBackSpec)

/-- ITS FALSE NEIGHBOUR: 'it returns false'. Refute it at one input. -/
def bulkBackWrong : ChangeSpec := { name := "bulkBack", fn := fun _ => fun
  | [d1, d2, d3] => { results := [.lit (.bool false)], args := [d1, d2, d3] }
  | _ => none }
def BulkBackWrongFalsely : Prop := bulkBackRow.holds Try.pinned (OpenSpec.ofChange bulkBackWrong)

/-- 'plugkeep.ScsiKeeps': WHATEVER THE INPUT: true; the input reads as it did. -/
def scsiKeepsSpec : ChangeSpec := { name := "scsiKeeps", fn := fun _ => fun
  | [d1, d2, d3] => { results := [.lit (.bool true)], args := [d1, d2, d3] }
  | _ => none }
def scsiKeepsRow : OpenClaim := { program := "ytfhndjccghchjaa", sum := "c2dd4b213bebed451a159228c8740164bf332c884a758b73dfe571e873fd662a", func := "plugtree/plugkeep.ScsiKeeps", spec := "scsiKeeps", inPlace := ["internal/abi.NoEscape", "internal/bytealg.MakeNoZero"], apart := false }
def ScsiKeepsSaid : Prop := scsiKeepsRow.holds Try.pinned (OpenSpec.ofChange scsiKeepsSpec)

/-- ITS FALSE NEIGHBOUR: 'it returns false'. Refute it at one input. -/
def scsiKeepsWrong : ChangeSpec := { name := "scsiKeeps", fn := fun _ => fun
  | [d1, d2, d3] => { results := [.lit (.bool false)], args := [d1, d2, d3] }
  | _ => none }
def ScsiKeepsWrongFalsely : Prop := scsiKeepsRow.holds Try.pinned (OpenSpec.ofChange scsiKeepsWrong)

/-- 'plugkeep.ScsiSense': WHATEVER THE INPUT: true; the input reads as it did. -/
def scsiSenseSpec : ChangeSpec := { name := "scsiSense", fn := fun _ => fun
  | [d1, d2, d3] => { results := [.lit (.bool true)], args := [d1, d2, d3] }
  | _ => none }
def scsiSenseRow : OpenClaim := { program := "ytfhndjccghchjaa", sum := "c2dd4b213bebed451a159228c8740164bf332c884a758b73dfe571e873fd662a", func := "plugtree/plugkeep.ScsiSense", spec := "scsiSense", inPlace := ["internal/abi.NoEscape", "internal/bytealg.MakeNoZero"], apart := false }
def ScsiSenseSaid : Prop := scsiSenseRow.holds Try.pinned (OpenSpec.ofChange scsiSenseSpec)

/-- ITS FALSE NEIGHBOUR: 'it returns false'. Refute it at one input. -/
def scsiSenseWrong : ChangeSpec := { name := "scsiSense", fn := fun _ => fun
  | [d1, d2, d3] => { results := [.lit (.bool false)], args := [d1, d2, d3] }
  | _ => none }
def ScsiSenseWrongFalsely : Prop := scsiSenseRow.holds Try.pinned (OpenSpec.ofChange scsiSenseWrong)

/-- 'plugkeep.ScsiOwn': WHATEVER THE INPUT: true; the input reads as it did. -/
def scsiOwnSpec : ChangeSpec := { name := "scsiOwn", fn := fun _ => fun
  | [d1, d2, d3] => { results := [.lit (.bool true)], args := [d1, d2, d3] }
  | _ => none }
def scsiOwnRow : OpenClaim := { program := "ytfhndjccghchjaa", sum := "c2dd4b213bebed451a159228c8740164bf332c884a758b73dfe571e873fd662a", func := "plugtree/plugkeep.ScsiOwn", spec := "scsiOwn", inPlace := ["internal/abi.NoEscape", "internal/bytealg.MakeNoZero"], apart := false }
def ScsiOwnSaid : Prop := scsiOwnRow.holds Try.pinned (OpenSpec.ofChange scsiOwnSpec)

/-- ITS FALSE NEIGHBOUR: 'it returns false'. Refute it at one input. -/
def scsiOwnWrong : ChangeSpec := { name := "scsiOwn", fn := fun _ => fun
  | [d1, d2, d3] => { results := [.lit (.bool false)], args := [d1, d2, d3] }
  | _ => none }
def ScsiOwnWrongFalsely : Prop := scsiOwnRow.holds Try.pinned (OpenSpec.ofChange scsiOwnWrong)

/-- 'plugkeep.ScsiBack': WHATEVER THE INPUT: true; the input reads as it did. -/
def scsiBackSpec : ChangeSpec := { name := "scsiBack", fn := fun _ => fun
  | [d1, d2, d3, d4] => { results := [.lit (.bool true)], args := [d1, d2, d3, d4] }
  | _ => none }
def scsiBackRow : OpenClaim := { program := "ytfhndjccghchjaa", sum := "c2dd4b213bebed451a159228c8740164bf332c884a758b73dfe571e873fd662a", func := "plugtree/plugkeep.ScsiBack", spec := "scsiBack", inPlace := ["internal/abi.NoEscape", "internal/bytealg.MakeNoZero"], apart := false }
def ScsiBackSaid : Prop := scsiBackRow.holds Try.pinned (OpenSpec.ofChange scsiBackSpec)

/-- ITS FALSE NEIGHBOUR: 'it returns false'. Refute it at one input. -/
def scsiBackWrong : ChangeSpec := { name := "scsiBack", fn := fun _ => fun
  | [d1, d2, d3, d4] => { results := [.lit (.bool false)], args := [d1, d2, d3, d4] }
  | _ => none }
def ScsiBackWrongFalsely : Prop := scsiBackRow.holds Try.pinned (OpenSpec.ofChange scsiBackWrong)

/-- 'plugkeep.ScsiTwo': WHATEVER THE INPUT: true; the input reads as it did. -/
def scsiTwoSpec : ChangeSpec := { name := "scsiTwo", fn := fun _ => fun
  | [d1, d2, d3, d4, d5, d6, d7] => { results := [.lit (.bool true)], args := [d1, d2, d3, d4, d5, d6, d7] }
  | _ => none }
def scsiTwoRow : OpenClaim := { program := "ytfhndjccghchjaa", sum := "c2dd4b213bebed451a159228c8740164bf332c884a758b73dfe571e873fd662a", func := "plugtree/plugkeep.ScsiTwo", spec := "scsiTwo", inPlace := ["internal/abi.NoEscape", "internal/bytealg.MakeNoZero"], apart := false }
def ScsiTwoSaid : Prop := scsiTwoRow.holds Try.pinned (OpenSpec.ofChange scsiTwoSpec)

/-- ITS FALSE NEIGHBOUR: 'it returns false'. Refute it at one input. -/
def scsiTwoWrong : ChangeSpec := { name := "scsiTwo", fn := fun _ => fun
  | [d1, d2, d3, d4, d5, d6, d7] => { results := [.lit (.bool false)], args := [d1, d2, d3, d4, d5, d6, d7] }
  | _ => none }
def ScsiTwoWrongFalsely : Prop := scsiTwoRow.holds Try.pinned (OpenSpec.ofChange scsiTwoWrong)

/-- 'plugkeep.BulkTagged': WHATEVER THE INPUT: true; the input reads as it did. -/
def bulkTaggedSpec : ChangeSpec := { name := "bulkTagged", fn := fun _ => fun
  | [d1, d2, d3] => { results := [.lit (.bool true)], args := [d1, d2, d3] }
  | _ => none }
def bulkTaggedRow : OpenClaim := { program := "ytfhndjccghchjaa", sum := "c2dd4b213bebed451a159228c8740164bf332c884a758b73dfe571e873fd662a", func := "plugtree/plugkeep.BulkTagged", spec := "bulkTagged", inPlace := ["internal/abi.NoEscape", "internal/bytealg.MakeNoZero"], apart := false }
def BulkTaggedSaid : Prop := bulkTaggedRow.holds Try.pinned (OpenSpec.ofChange bulkTaggedSpec)

/-- ITS FALSE NEIGHBOUR: 'it returns false'. Refute it at one input. -/
def bulkTaggedWrong : ChangeSpec := { name := "bulkTagged", fn := fun _ => fun
  | [d1, d2, d3] => { results := [.lit (.bool false)], args := [d1, d2, d3] }
  | _ => none }
def BulkTaggedWrongFalsely : Prop := bulkTaggedRow.holds Try.pinned (OpenSpec.ofChange bulkTaggedWrong)

/- THE SECOND FORM. 'bulk': how many values and letters a reading holds, each counted each time it is reached (what is shared counts as often as it is met; a slice's spare places count too). A statement '..UptoSaid' is the law's where the arguments, and the package variables that the reading takes, are together of bulk at most 1048576: NARROWER than '..Said'. Prove '..Said' where nothing that the law and all that it calls make is longer than what came in: it says more and counts as full. Else prove '..UptoSaid'. A law counts once. -/
mutual
def uptoBulk {H : Type} : DataW H → Nat
  | .lit (.string bytes) => bytes.length + 1
  | .lit _ => 1
  | .nil => 1
  | .ptr d => uptoBulk d + 1
  | .slice elems spare => uptoBulkAll elems + uptoBulkAll spare + 1
  | .agg parts => uptoBulkAll parts + 1
  | .iface _ d => uptoBulk d + 1
  | .map entries => uptoBulkEntries entries + 1
  | .held _ => 1
def uptoBulkAll {H : Type} : List (DataW H) → Nat
  | [] => 0
  | d :: r => uptoBulk d + uptoBulkAll r
def uptoBulkEntries {H : Type} : List (Lit × DataW H) → Nat
  | [] => 0
  | x :: r => uptoBulkEntry x + uptoBulkEntries r
def uptoBulkEntry {H : Type} : Lit × DataW H → Nat
  | (.string bytes, d) => bytes.length + uptoBulk d + 1
  | (_, d) => uptoBulk d + 1
 end
def uptoSmall : (H : Type) → List (DataW H) → Bool := fun _ ds => decide (uptoBulkAll ds ≤ 1048576)
def OpenSpec.upto (s : _root_.Go.ChangeSpec) : _root_.Go.OpenSpec := { _root_.Go.OpenSpec.ofChange s with cond := some uptoSmall }

/-- 'plugkeep.BulkBack', WHERE WHAT IT READS IS OF BULK AT MOST 1048576: true; the input reads as it did. -/
def bulkBackUptoRow : OpenClaim := { program := "ytfhndjccghchjaa", sum := "c2dd4b213bebed451a159228c8740164bf332c884a758b73dfe571e873fd662a", func := "plugtree/plugkeep.BulkBack", spec := "bulkBack", inPlace := ["internal/abi.NoEscape", "internal/bytealg.MakeNoZero"], apart := false, narrowed := true }
def BulkBackUptoSaid : Prop := bulkBackUptoRow.holds Try.pinned (OpenSpec.upto bulkBackSpec)

/-- 'plugkeep.ScsiKeeps', WHERE WHAT IT READS IS OF BULK AT MOST 1048576: true; the input reads as it did. -/
def scsiKeepsUptoRow : OpenClaim := { program := "ytfhndjccghchjaa", sum := "c2dd4b213bebed451a159228c8740164bf332c884a758b73dfe571e873fd662a", func := "plugtree/plugkeep.ScsiKeeps", spec := "scsiKeeps", inPlace := ["internal/abi.NoEscape", "internal/bytealg.MakeNoZero"], apart := false, narrowed := true }
def ScsiKeepsUptoSaid : Prop := scsiKeepsUptoRow.holds Try.pinned (OpenSpec.upto scsiKeepsSpec)

/-- 'plugkeep.ScsiSense', WHERE WHAT IT READS IS OF BULK AT MOST 1048576: true; the input reads as it did. -/
def scsiSenseUptoRow : OpenClaim := { program := "ytfhndjccghchjaa", sum := "c2dd4b213bebed451a159228c8740164bf332c884a758b73dfe571e873fd662a", func := "plugtree/plugkeep.ScsiSense", spec := "scsiSense", inPlace := ["internal/abi.NoEscape", "internal/bytealg.MakeNoZero"], apart := false, narrowed := true }
def ScsiSenseUptoSaid : Prop := scsiSenseUptoRow.holds Try.pinned (OpenSpec.upto scsiSenseSpec)

/-- 'plugkeep.ScsiOwn', WHERE WHAT IT READS IS OF BULK AT MOST 1048576: true; the input reads as it did. -/
def scsiOwnUptoRow : OpenClaim := { program := "ytfhndjccghchjaa", sum := "c2dd4b213bebed451a159228c8740164bf332c884a758b73dfe571e873fd662a", func := "plugtree/plugkeep.ScsiOwn", spec := "scsiOwn", inPlace := ["internal/abi.NoEscape", "internal/bytealg.MakeNoZero"], apart := false, narrowed := true }
def ScsiOwnUptoSaid : Prop := scsiOwnUptoRow.holds Try.pinned (OpenSpec.upto scsiOwnSpec)

/-- 'plugkeep.ScsiBack', WHERE WHAT IT READS IS OF BULK AT MOST 1048576: true; the input reads as it did. -/
def scsiBackUptoRow : OpenClaim := { program := "ytfhndjccghchjaa", sum := "c2dd4b213bebed451a159228c8740164bf332c884a758b73dfe571e873fd662a", func := "plugtree/plugkeep.ScsiBack", spec := "scsiBack", inPlace := ["internal/abi.NoEscape", "internal/bytealg.MakeNoZero"], apart := false, narrowed := true }
def ScsiBackUptoSaid : Prop := scsiBackUptoRow.holds Try.pinned (OpenSpec.upto scsiBackSpec)

/-- 'plugkeep.ScsiTwo', WHERE WHAT IT READS IS OF BULK AT MOST 1048576: true; the input reads as it did. -/
def scsiTwoUptoRow : OpenClaim := { program := "ytfhndjccghchjaa", sum := "c2dd4b213bebed451a159228c8740164bf332c884a758b73dfe571e873fd662a", func := "plugtree/plugkeep.ScsiTwo", spec := "scsiTwo", inPlace := ["internal/abi.NoEscape", "internal/bytealg.MakeNoZero"], apart := false, narrowed := true }
def ScsiTwoUptoSaid : Prop := scsiTwoUptoRow.holds Try.pinned (OpenSpec.upto scsiTwoSpec)

/-- 'plugkeep.BulkTagged', WHERE WHAT IT READS IS OF BULK AT MOST 1048576: true; the input reads as it did. -/
def bulkTaggedUptoRow : OpenClaim := { program := "ytfhndjccghchjaa", sum := "c2dd4b213bebed451a159228c8740164bf332c884a758b73dfe571e873fd662a", func := "plugtree/plugkeep.BulkTagged", spec := "bulkTagged", inPlace := ["internal/abi.NoEscape", "internal/bytealg.MakeNoZero"], apart := false, narrowed := true }
def BulkTaggedUptoSaid : Prop := bulkTaggedUptoRow.holds Try.pinned (OpenSpec.upto bulkTaggedSpec)

end Rows
end Go.Proofs.Ytfhndjccghchjaa
