/-
  No cell of these rows narrows 'for every input' (looked for: loops, veiled, ifaces, maps, wideKeys, modest, calm, conditions, laid).
  DERIVED. THE GIVEN ROWS OF THIS SEAT. 5 by the template 'for every input the law returns true; each argument reads behind the call as it read before'; 0 by the template 'total and deterministic' (their statements: YtfkbphfmchjacaaTotals.lean).
  GIVEN WITH THE SEED: the statements are not yours to turn. If you find one false, say at which input.
  Laid BY PROGRAM, IN A SANDBOX (cutbox-rows.mjs): the forced cells as the released guide's own fill.sh prints them over the translation aaf13be3cdf17054… (all of the seat's roots in one cut). By AI agents, Wed Nov 11 2026. No macro, syntax, notation, axiom, sorry.
-/
import Derived.Test.YtfkbphfmchjacaaChecked
import GoSem.Claim
import GoSem.ClaimJoined
import GoSem.ClaimMapViews
import Derived.JoinedTies
import Derived.KernelRfl
namespace Go.Proofs.Ytfkbphfmchjacaa
/- THE CELL 'sum', in the pinned program and in every row, IS THE sha256 OF THE DUMP (.gsa) THAT YtfkbphfmchjacaaProg.lean LOADS. Nothing in Lean hashes anything: it is a label: what it is worth is what the hold of that sum in a sandbox is worth. -/
noncomputable def Try.pinned : Pinned := { name := "ytfkbphfmchjacaa", sum := "aaf13be3cdf17054236a4727acb9b63ce4e58a8ae50818c93ec6b4fdc08731f3", checked := Try.checked }
namespace Rows
def none {H : Type} : Left H := { results := [], args := [] }

/-- 'plugkeep.StrikeWell': WHATEVER THE INPUT: true; the input reads as it did. -/
def strikeWellSpec : ChangeSpec := { name := "strikeWell", fn := fun _ => fun
  | [d1, d2, d3] => { results := [.lit (.bool true)], args := [d1, d2, d3] }
  | _ => none }
def strikeWellRow : OpenClaim := { program := "ytfkbphfmchjacaa", sum := "aaf13be3cdf17054236a4727acb9b63ce4e58a8ae50818c93ec6b4fdc08731f3", func := "plugtree/plugkeep.StrikeWell", spec := "strikeWell", inPlace := ["internal/abi.NoEscape", "internal/bytealg.MakeNoZero"], unfollowed := true, recurses := true, apart := false }
def StrikeWellSaid : Prop := strikeWellRow.holds Try.pinned (OpenSpec.ofChange strikeWellSpec)

/-- ITS FALSE NEIGHBOUR: 'it returns false'. Refute it at one input. -/
def strikeWellWrong : ChangeSpec := { name := "strikeWell", fn := fun _ => fun
  | [d1, d2, d3] => { results := [.lit (.bool false)], args := [d1, d2, d3] }
  | _ => none }
def StrikeWellWrongFalsely : Prop := strikeWellRow.holds Try.pinned (OpenSpec.ofChange strikeWellWrong)

/-- 'plugkeep.StrikeThree': WHATEVER THE INPUT: true; the input reads as it did. -/
def strikeThreeSpec : ChangeSpec := { name := "strikeThree", fn := fun _ => fun
  | [d1, d2, d3] => { results := [.lit (.bool true)], args := [d1, d2, d3] }
  | _ => none }
def strikeThreeRow : OpenClaim := { program := "ytfkbphfmchjacaa", sum := "aaf13be3cdf17054236a4727acb9b63ce4e58a8ae50818c93ec6b4fdc08731f3", func := "plugtree/plugkeep.StrikeThree", spec := "strikeThree", inPlace := ["internal/abi.NoEscape", "internal/bytealg.MakeNoZero"], unfollowed := true, recurses := true, apart := false }
def StrikeThreeSaid : Prop := strikeThreeRow.holds Try.pinned (OpenSpec.ofChange strikeThreeSpec)

/-- ITS FALSE NEIGHBOUR: 'it returns false'. Refute it at one input. -/
def strikeThreeWrong : ChangeSpec := { name := "strikeThree", fn := fun _ => fun
  | [d1, d2, d3] => { results := [.lit (.bool false)], args := [d1, d2, d3] }
  | _ => none }
def StrikeThreeWrongFalsely : Prop := strikeThreeRow.holds Try.pinned (OpenSpec.ofChange strikeThreeWrong)

/-- 'plugkeep.StrikeUsed': WHATEVER THE INPUT: true; the input reads as it did. -/
def strikeUsedSpec : ChangeSpec := { name := "strikeUsed", fn := fun _ => fun
  | [d1, d2, d3, d4] => { results := [.lit (.bool true)], args := [d1, d2, d3, d4] }
  | _ => none }
def strikeUsedRow : OpenClaim := { program := "ytfkbphfmchjacaa", sum := "aaf13be3cdf17054236a4727acb9b63ce4e58a8ae50818c93ec6b4fdc08731f3", func := "plugtree/plugkeep.StrikeUsed", spec := "strikeUsed", inPlace := ["internal/abi.NoEscape", "internal/bytealg.MakeNoZero"], unfollowed := true, recurses := true, apart := false }
def StrikeUsedSaid : Prop := strikeUsedRow.holds Try.pinned (OpenSpec.ofChange strikeUsedSpec)

/-- ITS FALSE NEIGHBOUR: 'it returns false'. Refute it at one input. -/
def strikeUsedWrong : ChangeSpec := { name := "strikeUsed", fn := fun _ => fun
  | [d1, d2, d3, d4] => { results := [.lit (.bool false)], args := [d1, d2, d3, d4] }
  | _ => none }
def StrikeUsedWrongFalsely : Prop := strikeUsedRow.holds Try.pinned (OpenSpec.ofChange strikeUsedWrong)

/-- 'plugkeep.StrikeFront': WHATEVER THE INPUT: true; the input reads as it did. -/
def strikeFrontSpec : ChangeSpec := { name := "strikeFront", fn := fun _ => fun
  | [d1, d2, d3] => { results := [.lit (.bool true)], args := [d1, d2, d3] }
  | _ => none }
def strikeFrontRow : OpenClaim := { program := "ytfkbphfmchjacaa", sum := "aaf13be3cdf17054236a4727acb9b63ce4e58a8ae50818c93ec6b4fdc08731f3", func := "plugtree/plugkeep.StrikeFront", spec := "strikeFront", inPlace := ["internal/abi.NoEscape", "internal/bytealg.MakeNoZero"], unfollowed := true, recurses := true, apart := false }
def StrikeFrontSaid : Prop := strikeFrontRow.holds Try.pinned (OpenSpec.ofChange strikeFrontSpec)

/-- ITS FALSE NEIGHBOUR: 'it returns false'. Refute it at one input. -/
def strikeFrontWrong : ChangeSpec := { name := "strikeFront", fn := fun _ => fun
  | [d1, d2, d3] => { results := [.lit (.bool false)], args := [d1, d2, d3] }
  | _ => none }
def StrikeFrontWrongFalsely : Prop := strikeFrontRow.holds Try.pinned (OpenSpec.ofChange strikeFrontWrong)

/-- 'plugkeep.StrikeBack': WHATEVER THE INPUT: true; the input reads as it did. -/
def strikeBackSpec : ChangeSpec := { name := "strikeBack", fn := fun _ => fun
  | [d1, d2, d3] => { results := [.lit (.bool true)], args := [d1, d2, d3] }
  | _ => none }
def strikeBackRow : OpenClaim := { program := "ytfkbphfmchjacaa", sum := "aaf13be3cdf17054236a4727acb9b63ce4e58a8ae50818c93ec6b4fdc08731f3", func := "plugtree/plugkeep.StrikeBack", spec := "strikeBack", inPlace := ["internal/abi.NoEscape", "internal/bytealg.MakeNoZero"], unfollowed := true, recurses := true, apart := false }
def StrikeBackSaid : Prop := strikeBackRow.holds Try.pinned (OpenSpec.ofChange strikeBackSpec)

/-- ITS FALSE NEIGHBOUR: 'it returns false'. Refute it at one input. -/
def strikeBackWrong : ChangeSpec := { name := "strikeBack", fn := fun _ => fun
  | [d1, d2, d3] => { results := [.lit (.bool false)], args := [d1, d2, d3] }
  | _ => none }
def StrikeBackWrongFalsely : Prop := strikeBackRow.holds Try.pinned (OpenSpec.ofChange strikeBackWrong)

/- THE SECOND FORM. 'bulk': how many values and letters a reading holds, each counted each time it is reached (what is shared counts as often as it is met; a slice's spare places count too). A statement '..UptoSaid' is the law's where the arguments, and the package variables that the reading takes, are together of bulk at most 1048576: NARROWER than '..Said'. Prove '..Said' where nothing that the law and all that it calls make is longer than what came in: it says more and counts as full. Else prove '..UptoSaid'. A law counts once. -/
mutual
def uptoBulk {H : Type} : DataW H → Nat
  | .lit (.string bytes) => bytes.length + 1
  | .lit _ => 1
  | .nil => 1
  | .ptr d => uptoBulk d + 1
  | .slice elems spare => uptoBulkAll elems + uptoBulkAll spare + 1
  | .agg parts => uptoBulkAll parts + 1
  | .iface _ d => uptoBulk d + 1
  | .map entries => uptoBulkEntries entries + 1
  | .held _ => 1
def uptoBulkAll {H : Type} : List (DataW H) → Nat
  | [] => 0
  | d :: r => uptoBulk d + uptoBulkAll r
def uptoBulkEntries {H : Type} : List (Lit × DataW H) → Nat
  | [] => 0
  | x :: r => uptoBulkEntry x + uptoBulkEntries r
def uptoBulkEntry {H : Type} : Lit × DataW H → Nat
  | (.string bytes, d) => bytes.length + uptoBulk d + 1
  | (_, d) => uptoBulk d + 1
 end
def uptoSmall : (H : Type) → List (DataW H) → Bool := fun _ ds => decide (uptoBulkAll ds ≤ 1048576)
def OpenSpec.upto (s : _root_.Go.ChangeSpec) : _root_.Go.OpenSpec := { _root_.Go.OpenSpec.ofChange s with cond := some uptoSmall }

/-- 'plugkeep.StrikeWell', WHERE WHAT IT READS IS OF BULK AT MOST 1048576: true; the input reads as it did. -/
def strikeWellUptoRow : OpenClaim := { program := "ytfkbphfmchjacaa", sum := "aaf13be3cdf17054236a4727acb9b63ce4e58a8ae50818c93ec6b4fdc08731f3", func := "plugtree/plugkeep.StrikeWell", spec := "strikeWell", inPlace := ["internal/abi.NoEscape", "internal/bytealg.MakeNoZero"], unfollowed := true, recurses := true, apart := false, narrowed := true }
def StrikeWellUptoSaid : Prop := strikeWellUptoRow.holds Try.pinned (OpenSpec.upto strikeWellSpec)

/-- 'plugkeep.StrikeThree', WHERE WHAT IT READS IS OF BULK AT MOST 1048576: true; the input reads as it did. -/
def strikeThreeUptoRow : OpenClaim := { program := "ytfkbphfmchjacaa", sum := "aaf13be3cdf17054236a4727acb9b63ce4e58a8ae50818c93ec6b4fdc08731f3", func := "plugtree/plugkeep.StrikeThree", spec := "strikeThree", inPlace := ["internal/abi.NoEscape", "internal/bytealg.MakeNoZero"], unfollowed := true, recurses := true, apart := false, narrowed := true }
def StrikeThreeUptoSaid : Prop := strikeThreeUptoRow.holds Try.pinned (OpenSpec.upto strikeThreeSpec)

/-- 'plugkeep.StrikeUsed', WHERE WHAT IT READS IS OF BULK AT MOST 1048576: true; the input reads as it did. -/
def strikeUsedUptoRow : OpenClaim := { program := "ytfkbphfmchjacaa", sum := "aaf13be3cdf17054236a4727acb9b63ce4e58a8ae50818c93ec6b4fdc08731f3", func := "plugtree/plugkeep.StrikeUsed", spec := "strikeUsed", inPlace := ["internal/abi.NoEscape", "internal/bytealg.MakeNoZero"], unfollowed := true, recurses := true, apart := false, narrowed := true }
def StrikeUsedUptoSaid : Prop := strikeUsedUptoRow.holds Try.pinned (OpenSpec.upto strikeUsedSpec)

/-- 'plugkeep.StrikeFront', WHERE WHAT IT READS IS OF BULK AT MOST 1048576: true; the input reads as it did. -/
def strikeFrontUptoRow : OpenClaim := { program := "ytfkbphfmchjacaa", sum := "aaf13be3cdf17054236a4727acb9b63ce4e58a8ae50818c93ec6b4fdc08731f3", func := "plugtree/plugkeep.StrikeFront", spec := "strikeFront", inPlace := ["internal/abi.NoEscape", "internal/bytealg.MakeNoZero"], unfollowed := true, recurses := true, apart := false, narrowed := true }
def StrikeFrontUptoSaid : Prop := strikeFrontUptoRow.holds Try.pinned (OpenSpec.upto strikeFrontSpec)

/-- 'plugkeep.StrikeBack', WHERE WHAT IT READS IS OF BULK AT MOST 1048576: true; the input reads as it did. -/
def strikeBackUptoRow : OpenClaim := { program := "ytfkbphfmchjacaa", sum := "aaf13be3cdf17054236a4727acb9b63ce4e58a8ae50818c93ec6b4fdc08731f3", func := "plugtree/plugkeep.StrikeBack", spec := "strikeBack", inPlace := ["internal/abi.NoEscape", "internal/bytealg.MakeNoZero"], unfollowed := true, recurses := true, apart := false, narrowed := true }
def StrikeBackUptoSaid : Prop := strikeBackUptoRow.holds Try.pinned (OpenSpec.upto strikeBackSpec)

end Rows
end Go.Proofs.Ytfkbphfmchjacaa
