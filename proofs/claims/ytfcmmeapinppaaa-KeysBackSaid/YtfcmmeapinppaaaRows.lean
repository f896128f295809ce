/-
  No cell of these rows narrows 'for every input' (looked for: loops, veiled, ifaces, maps, wideKeys, modest, calm, conditions, laid).
  DERIVED. THE GIVEN ROWS OF THIS SEAT. 5 by the template 'for every input the law returns true; each argument reads behind the call as it read before'; 0 by the template 'total and deterministic' (their statements: YtfcmmeapinppaaaTotals.lean).
  GIVEN WITH THE SEED: the statements are not yours to turn. If you find one false, say at which input.
  Laid BY PROGRAM, IN A SANDBOX (cutbox-rows.mjs): the forced cells as the released guide's own fill.sh prints them over the translation f2cc45014db817ba… (all of the seat's roots in one cut). By AI agents, Wed Nov 11 2026. No macro, syntax, notation, axiom, sorry.
-/
import Derived.Test.YtfcmmeapinppaaaChecked
import GoSem.Claim
import GoSem.ClaimJoined
import GoSem.ClaimMapViews
import Derived.JoinedTies
import Derived.KernelRfl
namespace Go.Proofs.Ytfcmmeapinppaaa
/- THE CELL 'sum', in the pinned program and in every row, IS THE sha256 OF THE DUMP (.gsa) THAT YtfcmmeapinppaaaProg.lean LOADS. Nothing in Lean hashes anything: it is a label: what it is worth is what the hold of that sum in a sandbox is worth. -/
noncomputable def Try.pinned : Pinned := { name := "ytfcmmeapinppaaa", sum := "f2cc45014db817bacec8a7afa44c69cc02a5752438fbdd45cb5700c1ea85de2f", checked := Try.checked }
namespace Rows
def none {H : Type} : Left H := { results := [], args := [] }

/-- 'plugkeep.KeysMix': WHATEVER THE INPUT: true; the input reads as it did. -/
def keysMixSpec : ChangeSpec := { name := "keysMix", fn := fun _ => fun
  | [d1, d2, d3] => { results := [.lit (.bool true)], args := [d1, d2, d3] }
  | _ => none }
def keysMixRow : OpenClaim := { program := "ytfcmmeapinppaaa", sum := "f2cc45014db817bacec8a7afa44c69cc02a5752438fbdd45cb5700c1ea85de2f", func := "plugtree/plugkeep.KeysMix", spec := "keysMix", unfollowed := true, recurses := true, apart := false }
def KeysMixSaid : Prop := keysMixRow.holds Try.pinned (OpenSpec.ofChange keysMixSpec)

/-- ITS FALSE NEIGHBOUR: 'it returns false'. Refute it at one input. -/
def keysMixWrong : ChangeSpec := { name := "keysMix", fn := fun _ => fun
  | [d1, d2, d3] => { results := [.lit (.bool false)], args := [d1, d2, d3] }
  | _ => none }
def KeysMixWrongFalsely : Prop := keysMixRow.holds Try.pinned (OpenSpec.ofChange keysMixWrong)

/-- 'plugkeep.KeysReplay': WHATEVER THE INPUT: true; the input reads as it did. -/
def keysReplaySpec : ChangeSpec := { name := "keysReplay", fn := fun _ => fun
  | [d1, d2] => { results := [.lit (.bool true)], args := [d1, d2] }
  | _ => none }
def keysReplayRow : OpenClaim := { program := "ytfcmmeapinppaaa", sum := "f2cc45014db817bacec8a7afa44c69cc02a5752438fbdd45cb5700c1ea85de2f", func := "plugtree/plugkeep.KeysReplay", spec := "keysReplay", unfollowed := true, recurses := true, apart := false }
def KeysReplaySaid : Prop := keysReplayRow.holds Try.pinned (OpenSpec.ofChange keysReplaySpec)

/-- ITS FALSE NEIGHBOUR: 'it returns false'. Refute it at one input. -/
def keysReplayWrong : ChangeSpec := { name := "keysReplay", fn := fun _ => fun
  | [d1, d2] => { results := [.lit (.bool false)], args := [d1, d2] }
  | _ => none }
def KeysReplayWrongFalsely : Prop := keysReplayRow.holds Try.pinned (OpenSpec.ofChange keysReplayWrong)

/-- 'plugkeep.KeysBack': WHATEVER THE INPUT: true; the input reads as it did. -/
def keysBackSpec : ChangeSpec := { name := "keysBack", fn := fun _ => fun
  | [d] => { results := [.lit (.bool true)], args := [d] }
  | _ => none }
def keysBackRow : OpenClaim := { program := "ytfcmmeapinppaaa", sum := "f2cc45014db817bacec8a7afa44c69cc02a5752438fbdd45cb5700c1ea85de2f", func := "plugtree/plugkeep.KeysBack", spec := "keysBack", unfollowed := true, recurses := true, apart := false }
def KeysBackSaid : Prop := keysBackRow.holds Try.pinned (OpenSpec.ofChange keysBackSpec)

/-- ITS FALSE NEIGHBOUR: 'it returns false'. Refute it at one input. -/
def keysBackWrong : ChangeSpec := { name := "keysBack", fn := fun _ => fun
  | [d] => { results := [.lit (.bool false)], args := [d] }
  | _ => none }
def KeysBackWrongFalsely : Prop := keysBackRow.holds Try.pinned (OpenSpec.ofChange keysBackWrong)

/-- 'plugkeep.KeysTurns': WHATEVER THE INPUT: true; the input reads as it did. -/
def keysTurnsSpec : ChangeSpec := { name := "keysTurns", fn := fun _ => fun
  | [d1, d2] => { results := [.lit (.bool true)], args := [d1, d2] }
  | _ => none }
def keysTurnsRow : OpenClaim := { program := "ytfcmmeapinppaaa", sum := "f2cc45014db817bacec8a7afa44c69cc02a5752438fbdd45cb5700c1ea85de2f", func := "plugtree/plugkeep.KeysTurns", spec := "keysTurns", unfollowed := true, recurses := true, apart := false }
def KeysTurnsSaid : Prop := keysTurnsRow.holds Try.pinned (OpenSpec.ofChange keysTurnsSpec)

/-- ITS FALSE NEIGHBOUR: 'it returns false'. Refute it at one input. -/
def keysTurnsWrong : ChangeSpec := { name := "keysTurns", fn := fun _ => fun
  | [d1, d2] => { results := [.lit (.bool false)], args := [d1, d2] }
  | _ => none }
def KeysTurnsWrongFalsely : Prop := keysTurnsRow.holds Try.pinned (OpenSpec.ofChange keysTurnsWrong)

/-- 'plugkeep.KeysCuts': WHATEVER THE INPUT: true; the input reads as it did. -/
def keysCutsSpec : ChangeSpec := { name := "keysCuts", fn := fun _ => fun
  | [d1, d2, d3] => { results := [.lit (.bool true)], args := [d1, d2, d3] }
  | _ => none }
def keysCutsRow : OpenClaim := { program := "ytfcmmeapinppaaa", sum := "f2cc45014db817bacec8a7afa44c69cc02a5752438fbdd45cb5700c1ea85de2f", func := "plugtree/plugkeep.KeysCuts", spec := "keysCuts", unfollowed := true, recurses := true, apart := false }
def KeysCutsSaid : Prop := keysCutsRow.holds Try.pinned (OpenSpec.ofChange keysCutsSpec)

/-- ITS FALSE NEIGHBOUR: 'it returns false'. Refute it at one input. -/
def keysCutsWrong : ChangeSpec := { name := "keysCuts", fn := fun _ => fun
  | [d1, d2, d3] => { results := [.lit (.bool false)], args := [d1, d2, d3] }
  | _ => none }
def KeysCutsWrongFalsely : Prop := keysCutsRow.holds Try.pinned (OpenSpec.ofChange keysCutsWrong)

/- THE SECOND FORM. 'bulk': how many values and letters a reading holds, each counted each time it is reached (what is shared counts as often as it is met; a slice's spare places count too). A statement '..UptoSaid' is the law's where the arguments, and the package variables that the reading takes, are together of bulk at most 1048576: NARROWER than '..Said'. Prove '..Said' where nothing that the law and all that it calls make is longer than what came in: it says more and counts as full. Else prove '..UptoSaid'. A law counts once. -/
mutual
def uptoBulk {H : Type} : DataW H → Nat
  | .lit (.string bytes) => bytes.length + 1
  | .lit _ => 1
  | .nil => 1
  | .ptr d => uptoBulk d + 1
  | .slice elems spare => uptoBulkAll elems + uptoBulkAll spare + 1
  | .agg parts => uptoBulkAll parts + 1
  | .iface _ d => uptoBulk d + 1
  | .map entries => uptoBulkEntries entries + 1
  | .held _ => 1
def uptoBulkAll {H : Type} : List (DataW H) → Nat
  | [] => 0
  | d :: r => uptoBulk d + uptoBulkAll r
def uptoBulkEntries {H : Type} : List (Lit × DataW H) → Nat
  | [] => 0
  | x :: r => uptoBulkEntry x + uptoBulkEntries r
def uptoBulkEntry {H : Type} : Lit × DataW H → Nat
  | (.string bytes, d) => bytes.length + uptoBulk d + 1
  | (_, d) => uptoBulk d + 1
 end
def uptoSmall : (H : Type) → List (DataW H) → Bool := fun _ ds => decide (uptoBulkAll ds ≤ 1048576)
def OpenSpec.upto (s : _root_.Go.ChangeSpec) : _root_.Go.OpenSpec := { _root_.Go.OpenSpec.ofChange s with cond := some uptoSmall }

/-- 'plugkeep.KeysMix', WHERE WHAT IT READS IS OF BULK AT MOST 1048576: true; the input reads as it did. -/
def keysMixUptoRow : OpenClaim := { program := "ytfcmmeapinppaaa", sum := "f2cc45014db817bacec8a7afa44c69cc02a5752438fbdd45cb5700c1ea85de2f", func := "plugtree/plugkeep.KeysMix", spec := "keysMix", unfollowed := true, recurses := true, apart := false, narrowed := true }
def KeysMixUptoSaid : Prop := keysMixUptoRow.holds Try.pinned (OpenSpec.upto keysMixSpec)

/-- 'plugkeep.KeysReplay', WHERE WHAT IT READS IS OF BULK AT MOST 1048576: true; the input reads as it did. -/
def keysReplayUptoRow : OpenClaim := { program := "ytfcmmeapinppaaa", sum := "f2cc45014db817bacec8a7afa44c69cc02a5752438fbdd45cb5700c1ea85de2f", func := "plugtree/plugkeep.KeysReplay", spec := "keysReplay", unfollowed := true, recurses := true, apart := false, narrowed := true }
def KeysReplayUptoSaid : Prop := keysReplayUptoRow.holds Try.pinned (OpenSpec.upto keysReplaySpec)

/-- 'plugkeep.KeysBack', WHERE WHAT IT READS IS OF BULK AT MOST 1048576: true; the input reads as it did. -/
def keysBackUptoRow : OpenClaim := { program := "ytfcmmeapinppaaa", sum := "f2cc45014db817bacec8a7afa44c69cc02a5752438fbdd45cb5700c1ea85de2f", func := "plugtree/plugkeep.KeysBack", spec := "keysBack", unfollowed := true, recurses := true, apart := false, narrowed := true }
def KeysBackUptoSaid : Prop := keysBackUptoRow.holds Try.pinned (OpenSpec.upto keysBackSpec)

/-- 'plugkeep.KeysTurns', WHERE WHAT IT READS IS OF BULK AT MOST 1048576: true; the input reads as it did. -/
def keysTurnsUptoRow : OpenClaim := { program := "ytfcmmeapinppaaa", sum := "f2cc45014db817bacec8a7afa44c69cc02a5752438fbdd45cb5700c1ea85de2f", func := "plugtree/plugkeep.KeysTurns", spec := "keysTurns", unfollowed := true, recurses := true, apart := false, narrowed := true }
def KeysTurnsUptoSaid : Prop := keysTurnsUptoRow.holds Try.pinned (OpenSpec.upto keysTurnsSpec)

/-- 'plugkeep.KeysCuts', WHERE WHAT IT READS IS OF BULK AT MOST 1048576: true; the input reads as it did. -/
def keysCutsUptoRow : OpenClaim := { program := "ytfcmmeapinppaaa", sum := "f2cc45014db817bacec8a7afa44c69cc02a5752438fbdd45cb5700c1ea85de2f", func := "plugtree/plugkeep.KeysCuts", spec := "keysCuts", unfollowed := true, recurses := true, apart := false, narrowed := true }
def KeysCutsUptoSaid : Prop := keysCutsUptoRow.holds Try.pinned (OpenSpec.upto keysCutsSpec)

end Rows
end Go.Proofs.Ytfcmmeapinppaaa
