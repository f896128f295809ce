/-
  No cell of these rows narrows 'for every input' (looked for: loops, veiled, ifaces, maps, wideKeys, modest, calm, conditions, laid).
  DERIVED. THE GIVEN ROWS OF THIS SEAT. 5 by the template 'for every input the law returns true; each argument reads behind the call as it read before'; 0 by the template 'total and deterministic' (their statements: YtniffnppfpaniaaTotals.lean).
  GIVEN WITH THE SEED: the statements are not yours to turn. If you find one false, say at which input.
  Laid BY PROGRAM, IN A SANDBOX (cutbox-rows.mjs): the forced cells as the released guide's own fill.sh prints them over the translation 93bf507f50203344… (all of the seat's roots in one cut). By AI agents, Wed Nov 11 2026. No macro, syntax, notation, axiom, sorry.
-/
import Derived.Test.YtniffnppfpaniaaChecked
import GoSem.Claim
import GoSem.ClaimJoined
import GoSem.ClaimMapViews
import Derived.JoinedTies
import Derived.KernelRfl
namespace Go.Proofs.Ytniffnppfpaniaa
/- THE CELL 'sum', in the pinned program and in every row, IS THE sha256 OF THE DUMP (.gsa) THAT YtniffnppfpaniaaProg.lean LOADS. Nothing in Lean hashes anything: it is a label: what it is worth is what the hold of that sum in a sandbox is worth. -/
noncomputable def Try.pinned : Pinned := { name := "ytniffnppfpaniaa", sum := "93bf507f502033444f4c1ac256b37ee1a293111cbb3f2e12d331bf6a0299851d", checked := Try.checked }
namespace Rows
def none {H : Type} : Left H := { results := [], args := [] }

/-- 'plugkeep.PipeFront': WHATEVER THE INPUT: true; the input reads as it did. -/
def pipeFrontSpec : ChangeSpec := { name := "pipeFront", fn := fun _ => fun
  | [d1, d2] => { results := [.lit (.bool true)], args := [d1, d2] }
  | _ => none }
def pipeFrontRow : OpenClaim := { program := "ytniffnppfpaniaa", sum := "93bf507f502033444f4c1ac256b37ee1a293111cbb3f2e12d331bf6a0299851d", func := "plugtree/plugkeep.PipeFront", spec := "pipeFront", unfollowed := true, recurses := true, apart := false }
def PipeFrontSaid : Prop := pipeFrontRow.holds Try.pinned (OpenSpec.ofChange pipeFrontSpec)

/-- ITS FALSE NEIGHBOUR: 'it returns false'. Refute it at one input. -/
def pipeFrontWrong : ChangeSpec := { name := "pipeFront", fn := fun _ => fun
  | [d1, d2] => { results := [.lit (.bool false)], args := [d1, d2] }
  | _ => none }
def PipeFrontWrongFalsely : Prop := pipeFrontRow.holds Try.pinned (OpenSpec.ofChange pipeFrontWrong)

/-- 'plugkeep.PipeAll': WHATEVER THE INPUT: true; the input reads as it did. -/
def pipeAllSpec : ChangeSpec := { name := "pipeAll", fn := fun _ => fun
  | [d1, d2] => { results := [.lit (.bool true)], args := [d1, d2] }
  | _ => none }
def pipeAllRow : OpenClaim := { program := "ytniffnppfpaniaa", sum := "93bf507f502033444f4c1ac256b37ee1a293111cbb3f2e12d331bf6a0299851d", func := "plugtree/plugkeep.PipeAll", spec := "pipeAll", unfollowed := true, recurses := true, apart := false }
def PipeAllSaid : Prop := pipeAllRow.holds Try.pinned (OpenSpec.ofChange pipeAllSpec)

/-- ITS FALSE NEIGHBOUR: 'it returns false'. Refute it at one input. -/
def pipeAllWrong : ChangeSpec := { name := "pipeAll", fn := fun _ => fun
  | [d1, d2] => { results := [.lit (.bool false)], args := [d1, d2] }
  | _ => none }
def PipeAllWrongFalsely : Prop := pipeAllRow.holds Try.pinned (OpenSpec.ofChange pipeAllWrong)

/-- 'plugkeep.PipeLaps': WHATEVER THE INPUT: true; the input reads as it did. -/
def pipeLapsSpec : ChangeSpec := { name := "pipeLaps", fn := fun _ => fun
  | [d1, d2] => { results := [.lit (.bool true)], args := [d1, d2] }
  | _ => none }
def pipeLapsRow : OpenClaim := { program := "ytniffnppfpaniaa", sum := "93bf507f502033444f4c1ac256b37ee1a293111cbb3f2e12d331bf6a0299851d", func := "plugtree/plugkeep.PipeLaps", spec := "pipeLaps", unfollowed := true, recurses := true, apart := false }
def PipeLapsSaid : Prop := pipeLapsRow.holds Try.pinned (OpenSpec.ofChange pipeLapsSpec)

/-- ITS FALSE NEIGHBOUR: 'it returns false'. Refute it at one input. -/
def pipeLapsWrong : ChangeSpec := { name := "pipeLaps", fn := fun _ => fun
  | [d1, d2] => { results := [.lit (.bool false)], args := [d1, d2] }
  | _ => none }
def PipeLapsWrongFalsely : Prop := pipeLapsRow.holds Try.pinned (OpenSpec.ofChange pipeLapsWrong)

/-- 'plugkeep.PipeStill': WHATEVER THE INPUT: true; the input reads as it did. -/
def pipeStillSpec : ChangeSpec := { name := "pipeStill", fn := fun _ => fun
  | [d1, d2] => { results := [.lit (.bool true)], args := [d1, d2] }
  | _ => none }
def pipeStillRow : OpenClaim := { program := "ytniffnppfpaniaa", sum := "93bf507f502033444f4c1ac256b37ee1a293111cbb3f2e12d331bf6a0299851d", func := "plugtree/plugkeep.PipeStill", spec := "pipeStill", unfollowed := true, recurses := true, apart := false }
def PipeStillSaid : Prop := pipeStillRow.holds Try.pinned (OpenSpec.ofChange pipeStillSpec)

/-- ITS FALSE NEIGHBOUR: 'it returns false'. Refute it at one input. -/
def pipeStillWrong : ChangeSpec := { name := "pipeStill", fn := fun _ => fun
  | [d1, d2] => { results := [.lit (.bool false)], args := [d1, d2] }
  | _ => none }
def PipeStillWrongFalsely : Prop := pipeStillRow.holds Try.pinned (OpenSpec.ofChange pipeStillWrong)

/-- 'plugkeep.PipeOwn': WHATEVER THE INPUT: true; the input reads as it did. -/
def pipeOwnSpec : ChangeSpec := { name := "pipeOwn", fn := fun _ => fun
  | [d1, d2] => { results := [.lit (.bool true)], args := [d1, d2] }
  | _ => none }
def pipeOwnRow : OpenClaim := { program := "ytniffnppfpaniaa", sum := "93bf507f502033444f4c1ac256b37ee1a293111cbb3f2e12d331bf6a0299851d", func := "plugtree/plugkeep.PipeOwn", spec := "pipeOwn", unfollowed := true, recurses := true, apart := false }
def PipeOwnSaid : Prop := pipeOwnRow.holds Try.pinned (OpenSpec.ofChange pipeOwnSpec)

/-- ITS FALSE NEIGHBOUR: 'it returns false'. Refute it at one input. -/
def pipeOwnWrong : ChangeSpec := { name := "pipeOwn", fn := fun _ => fun
  | [d1, d2] => { results := [.lit (.bool false)], args := [d1, d2] }
  | _ => none }
def PipeOwnWrongFalsely : Prop := pipeOwnRow.holds Try.pinned (OpenSpec.ofChange pipeOwnWrong)

/- THE SECOND FORM. 'bulk': how many values and letters a reading holds, each counted each time it is reached (what is shared counts as often as it is met; a slice's spare places count too). A statement '..UptoSaid' is the law's where the arguments, and the package variables that the reading takes, are together of bulk at most 1048576: NARROWER than '..Said'. Prove '..Said' where nothing that the law and all that it calls make is longer than what came in: it says more and counts as full. Else prove '..UptoSaid'. A law counts once. -/
mutual
def uptoBulk {H : Type} : DataW H → Nat
  | .lit (.string bytes) => bytes.length + 1
  | .lit _ => 1
  | .nil => 1
  | .ptr d => uptoBulk d + 1
  | .slice elems spare => uptoBulkAll elems + uptoBulkAll spare + 1
  | .agg parts => uptoBulkAll parts + 1
  | .iface _ d => uptoBulk d + 1
  | .map entries => uptoBulkEntries entries + 1
  | .held _ => 1
def uptoBulkAll {H : Type} : List (DataW H) → Nat
  | [] => 0
  | d :: r => uptoBulk d + uptoBulkAll r
def uptoBulkEntries {H : Type} : List (Lit × DataW H) → Nat
  | [] => 0
  | x :: r => uptoBulkEntry x + uptoBulkEntries r
def uptoBulkEntry {H : Type} : Lit × DataW H → Nat
  | (.string bytes, d) => bytes.length + uptoBulk d + 1
  | (_, d) => uptoBulk d + 1
 end
def uptoSmall : (H : Type) → List (DataW H) → Bool := fun _ ds => decide (uptoBulkAll ds ≤ 1048576)
def OpenSpec.upto (s : _root_.Go.ChangeSpec) : _root_.Go.OpenSpec := { _root_.Go.OpenSpec.ofChange s with cond := some uptoSmall }

/-- 'plugkeep.PipeFront', WHERE WHAT IT READS IS OF BULK AT MOST 1048576: true; the input reads as it did. -/
def pipeFrontUptoRow : OpenClaim := { program := "ytniffnppfpaniaa", sum := "93bf507f502033444f4c1ac256b37ee1a293111cbb3f2e12d331bf6a0299851d", func := "plugtree/plugkeep.PipeFront", spec := "pipeFront", unfollowed := true, recurses := true, apart := false, narrowed := true }
def PipeFrontUptoSaid : Prop := pipeFrontUptoRow.holds Try.pinned (OpenSpec.upto pipeFrontSpec)

/-- 'plugkeep.PipeAll', WHERE WHAT IT READS IS OF BULK AT MOST 1048576: true; the input reads as it did. -/
def pipeAllUptoRow : OpenClaim := { program := "ytniffnppfpaniaa", sum := "93bf507f502033444f4c1ac256b37ee1a293111cbb3f2e12d331bf6a0299851d", func := "plugtree/plugkeep.PipeAll", spec := "pipeAll", unfollowed := true, recurses := true, apart := false, narrowed := true }
def PipeAllUptoSaid : Prop := pipeAllUptoRow.holds Try.pinned (OpenSpec.upto pipeAllSpec)

/-- 'plugkeep.PipeLaps', WHERE WHAT IT READS IS OF BULK AT MOST 1048576: true; the input reads as it did. -/
def pipeLapsUptoRow : OpenClaim := { program := "ytniffnppfpaniaa", sum := "93bf507f502033444f4c1ac256b37ee1a293111cbb3f2e12d331bf6a0299851d", func := "plugtree/plugkeep.PipeLaps", spec := "pipeLaps", unfollowed := true, recurses := true, apart := false, narrowed := true }
def PipeLapsUptoSaid : Prop := pipeLapsUptoRow.holds Try.pinned (OpenSpec.upto pipeLapsSpec)

/-- 'plugkeep.PipeStill', WHERE WHAT IT READS IS OF BULK AT MOST 1048576: true; the input reads as it did. -/
def pipeStillUptoRow : OpenClaim := { program := "ytniffnppfpaniaa", sum := "93bf507f502033444f4c1ac256b37ee1a293111cbb3f2e12d331bf6a0299851d", func := "plugtree/plugkeep.PipeStill", spec := "pipeStill", unfollowed := true, recurses := true, apart := false, narrowed := true }
def PipeStillUptoSaid : Prop := pipeStillUptoRow.holds Try.pinned (OpenSpec.upto pipeStillSpec)

/-- 'plugkeep.PipeOwn', WHERE WHAT IT READS IS OF BULK AT MOST 1048576: true; the input reads as it did. -/
def pipeOwnUptoRow : OpenClaim := { program := "ytniffnppfpaniaa", sum := "93bf507f502033444f4c1ac256b37ee1a293111cbb3f2e12d331bf6a0299851d", func := "plugtree/plugkeep.PipeOwn", spec := "pipeOwn", unfollowed := true, recurses := true, apart := false, narrowed := true }
def PipeOwnUptoSaid : Prop := pipeOwnUptoRow.holds Try.pinned (OpenSpec.upto pipeOwnSpec)

end Rows
end Go.Proofs.Ytniffnppfpaniaa
