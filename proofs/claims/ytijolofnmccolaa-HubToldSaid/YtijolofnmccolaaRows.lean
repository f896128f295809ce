/-
  No cell of these rows narrows 'for every input' (looked for: loops, veiled, ifaces, maps, wideKeys, modest, calm, conditions, laid).
  DERIVED. THE GIVEN ROWS OF THIS SEAT. 5 by the template 'for every input the law returns true; each argument reads behind the call as it read before'; 0 by the template 'total and deterministic' (their statements: YtijolofnmccolaaTotals.lean).
  GIVEN WITH THE SEED: the statements are not yours to turn. If you find one false, say at which input.
  Laid BY PROGRAM, IN A SANDBOX (cutbox-rows.mjs): the forced cells as the released guide's own fill.sh prints them over the translation c8475879ac10fd79… (all of the seat's roots in one cut). By AI agents, Wed Nov 11 2026. No macro, syntax, notation, axiom, sorry.
-/
import Derived.Test.YtijolofnmccolaaChecked
import GoSem.Claim
import GoSem.ClaimJoined
import GoSem.ClaimMapViews
import Derived.JoinedTies
import Derived.KernelRfl
namespace Go.Proofs.Ytijolofnmccolaa
/- THE CELL 'sum', in the pinned program and in every row, IS THE sha256 OF THE DUMP (.gsa) THAT YtijolofnmccolaaProg.lean LOADS. Nothing in Lean hashes anything: it is a label: what it is worth is what the hold of that sum in a sandbox is worth. -/
noncomputable def Try.pinned : Pinned := { name := "ytijolofnmccolaa", sum := "c8475879ac10fd79e60431cdac7051dda2458351623fa1bc9bc334ac43c82487", checked := Try.checked }
namespace Rows
def none {H : Type} : Left H := { results := [], args := [] }

/-- 'plugkeep.HubTold': WHATEVER THE INPUT: true; the input reads as it did. -/
def hubToldSpec : ChangeSpec := { name := "hubTold", fn := fun _ => fun
  | [d1, d2] => { results := [.lit (.bool true)], args := [d1, d2] }
  | _ => none }
def hubToldRow : OpenClaim := { program := "ytijolofnmccolaa", sum := "c8475879ac10fd79e60431cdac7051dda2458351623fa1bc9bc334ac43c82487", func := "plugtree/plugkeep.HubTold", spec := "hubTold", unfollowed := true, recurses := true, apart := false }
def HubToldSaid : Prop := hubToldRow.holds Try.pinned (OpenSpec.ofChange hubToldSpec)

/-- ITS FALSE NEIGHBOUR: 'it returns false'. Refute it at one input. -/
def hubToldWrong : ChangeSpec := { name := "hubTold", fn := fun _ => fun
  | [d1, d2] => { results := [.lit (.bool false)], args := [d1, d2] }
  | _ => none }
def HubToldWrongFalsely : Prop := hubToldRow.holds Try.pinned (OpenSpec.ofChange hubToldWrong)

/-- 'plugkeep.HubRight': WHATEVER THE INPUT: true; the input reads as it did. -/
def hubRightSpec : ChangeSpec := { name := "hubRight", fn := fun _ => fun
  | [d1, d2, d3, d4] => { results := [.lit (.bool true)], args := [d1, d2, d3, d4] }
  | _ => none }
def hubRightRow : OpenClaim := { program := "ytijolofnmccolaa", sum := "c8475879ac10fd79e60431cdac7051dda2458351623fa1bc9bc334ac43c82487", func := "plugtree/plugkeep.HubRight", spec := "hubRight", unfollowed := true, recurses := true, apart := false }
def HubRightSaid : Prop := hubRightRow.holds Try.pinned (OpenSpec.ofChange hubRightSpec)

/-- ITS FALSE NEIGHBOUR: 'it returns false'. Refute it at one input. -/
def hubRightWrong : ChangeSpec := { name := "hubRight", fn := fun _ => fun
  | [d1, d2, d3, d4] => { results := [.lit (.bool false)], args := [d1, d2, d3, d4] }
  | _ => none }
def HubRightWrongFalsely : Prop := hubRightRow.holds Try.pinned (OpenSpec.ofChange hubRightWrong)

/-- 'plugkeep.HubSticks': WHATEVER THE INPUT: true; the input reads as it did. -/
def hubSticksSpec : ChangeSpec := { name := "hubSticks", fn := fun _ => fun
  | [d1, d2, d3, d4] => { results := [.lit (.bool true)], args := [d1, d2, d3, d4] }
  | _ => none }
def hubSticksRow : OpenClaim := { program := "ytijolofnmccolaa", sum := "c8475879ac10fd79e60431cdac7051dda2458351623fa1bc9bc334ac43c82487", func := "plugtree/plugkeep.HubSticks", spec := "hubSticks", unfollowed := true, recurses := true, apart := false }
def HubSticksSaid : Prop := hubSticksRow.holds Try.pinned (OpenSpec.ofChange hubSticksSpec)

/-- ITS FALSE NEIGHBOUR: 'it returns false'. Refute it at one input. -/
def hubSticksWrong : ChangeSpec := { name := "hubSticks", fn := fun _ => fun
  | [d1, d2, d3, d4] => { results := [.lit (.bool false)], args := [d1, d2, d3, d4] }
  | _ => none }
def HubSticksWrongFalsely : Prop := hubSticksRow.holds Try.pinned (OpenSpec.ofChange hubSticksWrong)

/-- 'plugkeep.HubPath': WHATEVER THE INPUT: true; the input reads as it did. -/
def hubPathSpec : ChangeSpec := { name := "hubPath", fn := fun _ => fun
  | [d1, d2] => { results := [.lit (.bool true)], args := [d1, d2] }
  | _ => none }
def hubPathRow : OpenClaim := { program := "ytijolofnmccolaa", sum := "c8475879ac10fd79e60431cdac7051dda2458351623fa1bc9bc334ac43c82487", func := "plugtree/plugkeep.HubPath", spec := "hubPath", unfollowed := true, recurses := true, apart := false }
def HubPathSaid : Prop := hubPathRow.holds Try.pinned (OpenSpec.ofChange hubPathSpec)

/-- ITS FALSE NEIGHBOUR: 'it returns false'. Refute it at one input. -/
def hubPathWrong : ChangeSpec := { name := "hubPath", fn := fun _ => fun
  | [d1, d2] => { results := [.lit (.bool false)], args := [d1, d2] }
  | _ => none }
def HubPathWrongFalsely : Prop := hubPathRow.holds Try.pinned (OpenSpec.ofChange hubPathWrong)

/-- 'plugkeep.HubTwice': WHATEVER THE INPUT: true; the input reads as it did. -/
def hubTwiceSpec : ChangeSpec := { name := "hubTwice", fn := fun _ => fun
  | [d1, d2, d3, d4] => { results := [.lit (.bool true)], args := [d1, d2, d3, d4] }
  | _ => none }
def hubTwiceRow : OpenClaim := { program := "ytijolofnmccolaa", sum := "c8475879ac10fd79e60431cdac7051dda2458351623fa1bc9bc334ac43c82487", func := "plugtree/plugkeep.HubTwice", spec := "hubTwice", unfollowed := true, recurses := true, apart := false }
def HubTwiceSaid : Prop := hubTwiceRow.holds Try.pinned (OpenSpec.ofChange hubTwiceSpec)

/-- ITS FALSE NEIGHBOUR: 'it returns false'. Refute it at one input. -/
def hubTwiceWrong : ChangeSpec := { name := "hubTwice", fn := fun _ => fun
  | [d1, d2, d3, d4] => { results := [.lit (.bool false)], args := [d1, d2, d3, d4] }
  | _ => none }
def HubTwiceWrongFalsely : Prop := hubTwiceRow.holds Try.pinned (OpenSpec.ofChange hubTwiceWrong)

/- THE SECOND FORM. 'bulk': how many values and letters a reading holds, each counted each time it is reached (what is shared counts as often as it is met; a slice's spare places count too). A statement '..UptoSaid' is the law's where the arguments, and the package variables that the reading takes, are together of bulk at most 1048576: NARROWER than '..Said'. Prove '..Said' where nothing that the law and all that it calls make is longer than what came in: it says more and counts as full. Else prove '..UptoSaid'. A law counts once. -/
mutual
def uptoBulk {H : Type} : DataW H → Nat
  | .lit (.string bytes) => bytes.length + 1
  | .lit _ => 1
  | .nil => 1
  | .ptr d => uptoBulk d + 1
  | .slice elems spare => uptoBulkAll elems + uptoBulkAll spare + 1
  | .agg parts => uptoBulkAll parts + 1
  | .iface _ d => uptoBulk d + 1
  | .map entries => uptoBulkEntries entries + 1
  | .held _ => 1
def uptoBulkAll {H : Type} : List (DataW H) → Nat
  | [] => 0
  | d :: r => uptoBulk d + uptoBulkAll r
def uptoBulkEntries {H : Type} : List (Lit × DataW H) → Nat
  | [] => 0
  | x :: r => uptoBulkEntry x + uptoBulkEntries r
def uptoBulkEntry {H : Type} : Lit × DataW H → Nat
  | (.string bytes, d) => bytes.length + uptoBulk d + 1
  | (_, d) => uptoBulk d + 1
 end
def uptoSmall : (H : Type) → List (DataW H) → Bool := fun _ ds => decide (uptoBulkAll ds ≤ 1048576)
def OpenSpec.upto (s : _root_.Go.ChangeSpec) : _root_.Go.OpenSpec := { _root_.Go.OpenSpec.ofChange s with cond := some uptoSmall }

/-- 'plugkeep.HubTold', WHERE WHAT IT READS IS OF BULK AT MOST 1048576: true; the input reads as it did. -/
def hubToldUptoRow : OpenClaim := { program := "ytijolofnmccolaa", sum := "c8475879ac10fd79e60431cdac7051dda2458351623fa1bc9bc334ac43c82487", func := "plugtree/plugkeep.HubTold", spec := "hubTold", unfollowed := true, recurses := true, apart := false, narrowed := true }
def HubToldUptoSaid : Prop := hubToldUptoRow.holds Try.pinned (OpenSpec.upto hubToldSpec)

/-- 'plugkeep.HubRight', WHERE WHAT IT READS IS OF BULK AT MOST 1048576: true; the input reads as it did. -/
def hubRightUptoRow : OpenClaim := { program := "ytijolofnmccolaa", sum := "c8475879ac10fd79e60431cdac7051dda2458351623fa1bc9bc334ac43c82487", func := "plugtree/plugkeep.HubRight", spec := "hubRight", unfollowed := true, recurses := true, apart := false, narrowed := true }
def HubRightUptoSaid : Prop := hubRightUptoRow.holds Try.pinned (OpenSpec.upto hubRightSpec)

/-- 'plugkeep.HubSticks', WHERE WHAT IT READS IS OF BULK AT MOST 1048576: true; the input reads as it did. -/
def hubSticksUptoRow : OpenClaim := { program := "ytijolofnmccolaa", sum := "c8475879ac10fd79e60431cdac7051dda2458351623fa1bc9bc334ac43c82487", func := "plugtree/plugkeep.HubSticks", spec := "hubSticks", unfollowed := true, recurses := true, apart := false, narrowed := true }
def HubSticksUptoSaid : Prop := hubSticksUptoRow.holds Try.pinned (OpenSpec.upto hubSticksSpec)

/-- 'plugkeep.HubPath', WHERE WHAT IT READS IS OF BULK AT MOST 1048576: true; the input reads as it did. -/
def hubPathUptoRow : OpenClaim := { program := "ytijolofnmccolaa", sum := "c8475879ac10fd79e60431cdac7051dda2458351623fa1bc9bc334ac43c82487", func := "plugtree/plugkeep.HubPath", spec := "hubPath", unfollowed := true, recurses := true, apart := false, narrowed := true }
def HubPathUptoSaid : Prop := hubPathUptoRow.holds Try.pinned (OpenSpec.upto hubPathSpec)

/-- 'plugkeep.HubTwice', WHERE WHAT IT READS IS OF BULK AT MOST 1048576: true; the input reads as it did. -/
def hubTwiceUptoRow : OpenClaim := { program := "ytijolofnmccolaa", sum := "c8475879ac10fd79e60431cdac7051dda2458351623fa1bc9bc334ac43c82487", func := "plugtree/plugkeep.HubTwice", spec := "hubTwice", unfollowed := true, recurses := true, apart := false, narrowed := true }
def HubTwiceUptoSaid : Prop := hubTwiceUptoRow.holds Try.pinned (OpenSpec.upto hubTwiceSpec)

end Rows
end Go.Proofs.Ytijolofnmccolaa
