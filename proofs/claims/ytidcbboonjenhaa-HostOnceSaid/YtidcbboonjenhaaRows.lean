/-
  No cell of these rows narrows 'for every input' (looked for: loops, veiled, ifaces, maps, wideKeys, modest, calm, conditions, laid).
  DERIVED. THE GIVEN ROWS OF THIS SEAT. 5 by the template 'for every input the law returns true; each argument reads behind the call as it read before'; 0 by the template 'total and deterministic' (their statements: YtidcbboonjenhaaTotals.lean).
  GIVEN WITH THE SEED: the statements are not yours to turn. If you find one false, say at which input.
  Laid BY PROGRAM, IN A SANDBOX (cutbox-rows.mjs): the forced cells as the released guide's own fill.sh prints them over the translation 65e4620d3c9316c0… (all of the seat's roots in one cut). By AI agents, Wed Nov 11 2026. No macro, syntax, notation, axiom, sorry.
-/
import Derived.Test.YtidcbboonjenhaaChecked
import GoSem.Claim
import GoSem.ClaimJoined
import GoSem.ClaimMapViews
import Derived.JoinedTies
import Derived.KernelRfl
namespace Go.Proofs.Ytidcbboonjenhaa
/- THE CELL 'sum', in the pinned program and in every row, IS THE sha256 OF THE DUMP (.gsa) THAT YtidcbboonjenhaaProg.lean LOADS. Nothing in Lean hashes anything: it is a label: what it is worth is what the hold of that sum in a sandbox is worth. -/
noncomputable def Try.pinned : Pinned := { name := "ytidcbboonjenhaa", sum := "65e4620d3c9316c044959f5520d18839706c0594763f2516c67196b5db8d209e", checked := Try.checked }
namespace Rows
def none {H : Type} : Left H := { results := [], args := [] }

/-- 'plugkeep.HostBack': WHATEVER THE INPUT: true; the input reads as it did. -/
def hostBackSpec : ChangeSpec := { name := "hostBack", fn := fun _ => fun
  | [d1, d2] => { results := [.lit (.bool true)], args := [d1, d2] }
  | _ => none }
def hostBackRow : OpenClaim := { program := "ytidcbboonjenhaa", sum := "65e4620d3c9316c044959f5520d18839706c0594763f2516c67196b5db8d209e", func := "plugtree/plugkeep.HostBack", spec := "hostBack", unfollowed := true, recurses := true, apart := false }
def HostBackSaid : Prop := hostBackRow.holds Try.pinned (OpenSpec.ofChange hostBackSpec)

/-- ITS FALSE NEIGHBOUR: 'it returns false'. Refute it at one input. -/
def hostBackWrong : ChangeSpec := { name := "hostBack", fn := fun _ => fun
  | [d1, d2] => { results := [.lit (.bool false)], args := [d1, d2] }
  | _ => none }
def HostBackWrongFalsely : Prop := hostBackRow.holds Try.pinned (OpenSpec.ofChange hostBackWrong)

/-- 'plugkeep.HostCalm': WHATEVER THE INPUT: true; the input reads as it did. -/
def hostCalmSpec : ChangeSpec := { name := "hostCalm", fn := fun _ => fun
  | [d1, d2, d3] => { results := [.lit (.bool true)], args := [d1, d2, d3] }
  | _ => none }
def hostCalmRow : OpenClaim := { program := "ytidcbboonjenhaa", sum := "65e4620d3c9316c044959f5520d18839706c0594763f2516c67196b5db8d209e", func := "plugtree/plugkeep.HostCalm", spec := "hostCalm", unfollowed := true, recurses := true, apart := false }
def HostCalmSaid : Prop := hostCalmRow.holds Try.pinned (OpenSpec.ofChange hostCalmSpec)

/-- ITS FALSE NEIGHBOUR: 'it returns false'. Refute it at one input. -/
def hostCalmWrong : ChangeSpec := { name := "hostCalm", fn := fun _ => fun
  | [d1, d2, d3] => { results := [.lit (.bool false)], args := [d1, d2, d3] }
  | _ => none }
def HostCalmWrongFalsely : Prop := hostCalmRow.holds Try.pinned (OpenSpec.ofChange hostCalmWrong)

/-- 'plugkeep.HostCuts': WHATEVER THE INPUT: true; the input reads as it did. -/
def hostCutsSpec : ChangeSpec := { name := "hostCuts", fn := fun _ => fun
  | [d1, d2, d3] => { results := [.lit (.bool true)], args := [d1, d2, d3] }
  | _ => none }
def hostCutsRow : OpenClaim := { program := "ytidcbboonjenhaa", sum := "65e4620d3c9316c044959f5520d18839706c0594763f2516c67196b5db8d209e", func := "plugtree/plugkeep.HostCuts", spec := "hostCuts", unfollowed := true, recurses := true, apart := false }
def HostCutsSaid : Prop := hostCutsRow.holds Try.pinned (OpenSpec.ofChange hostCutsSpec)

/-- ITS FALSE NEIGHBOUR: 'it returns false'. Refute it at one input. -/
def hostCutsWrong : ChangeSpec := { name := "hostCuts", fn := fun _ => fun
  | [d1, d2, d3] => { results := [.lit (.bool false)], args := [d1, d2, d3] }
  | _ => none }
def HostCutsWrongFalsely : Prop := hostCutsRow.holds Try.pinned (OpenSpec.ofChange hostCutsWrong)

/-- 'plugkeep.HostOnce': WHATEVER THE INPUT: true; the input reads as it did. -/
def hostOnceSpec : ChangeSpec := { name := "hostOnce", fn := fun _ => fun
  | [d1, d2, d3] => { results := [.lit (.bool true)], args := [d1, d2, d3] }
  | _ => none }
def hostOnceRow : OpenClaim := { program := "ytidcbboonjenhaa", sum := "65e4620d3c9316c044959f5520d18839706c0594763f2516c67196b5db8d209e", func := "plugtree/plugkeep.HostOnce", spec := "hostOnce", unfollowed := true, recurses := true, apart := false }
def HostOnceSaid : Prop := hostOnceRow.holds Try.pinned (OpenSpec.ofChange hostOnceSpec)

/-- ITS FALSE NEIGHBOUR: 'it returns false'. Refute it at one input. -/
def hostOnceWrong : ChangeSpec := { name := "hostOnce", fn := fun _ => fun
  | [d1, d2, d3] => { results := [.lit (.bool false)], args := [d1, d2, d3] }
  | _ => none }
def HostOnceWrongFalsely : Prop := hostOnceRow.holds Try.pinned (OpenSpec.ofChange hostOnceWrong)

/-- 'plugkeep.HostRight': WHATEVER THE INPUT: true; the input reads as it did. -/
def hostRightSpec : ChangeSpec := { name := "hostRight", fn := fun _ => fun
  | [d1, d2, d3] => { results := [.lit (.bool true)], args := [d1, d2, d3] }
  | _ => none }
def hostRightRow : OpenClaim := { program := "ytidcbboonjenhaa", sum := "65e4620d3c9316c044959f5520d18839706c0594763f2516c67196b5db8d209e", func := "plugtree/plugkeep.HostRight", spec := "hostRight", unfollowed := true, recurses := true, apart := false }
def HostRightSaid : Prop := hostRightRow.holds Try.pinned (OpenSpec.ofChange hostRightSpec)

/-- ITS FALSE NEIGHBOUR: 'it returns false'. Refute it at one input. -/
def hostRightWrong : ChangeSpec := { name := "hostRight", fn := fun _ => fun
  | [d1, d2, d3] => { results := [.lit (.bool false)], args := [d1, d2, d3] }
  | _ => none }
def HostRightWrongFalsely : Prop := hostRightRow.holds Try.pinned (OpenSpec.ofChange hostRightWrong)

/- THE SECOND FORM. 'bulk': how many values and letters a reading holds, each counted each time it is reached (what is shared counts as often as it is met; a slice's spare places count too). A statement '..UptoSaid' is the law's where the arguments, and the package variables that the reading takes, are together of bulk at most 1048576: NARROWER than '..Said'. Prove '..Said' where nothing that the law and all that it calls make is longer than what came in: it says more and counts as full. Else prove '..UptoSaid'. A law counts once. -/
mutual
def uptoBulk {H : Type} : DataW H → Nat
  | .lit (.string bytes) => bytes.length + 1
  | .lit _ => 1
  | .nil => 1
  | .ptr d => uptoBulk d + 1
  | .slice elems spare => uptoBulkAll elems + uptoBulkAll spare + 1
  | .agg parts => uptoBulkAll parts + 1
  | .iface _ d => uptoBulk d + 1
  | .map entries => uptoBulkEntries entries + 1
  | .held _ => 1
def uptoBulkAll {H : Type} : List (DataW H) → Nat
  | [] => 0
  | d :: r => uptoBulk d + uptoBulkAll r
def uptoBulkEntries {H : Type} : List (Lit × DataW H) → Nat
  | [] => 0
  | x :: r => uptoBulkEntry x + uptoBulkEntries r
def uptoBulkEntry {H : Type} : Lit × DataW H → Nat
  | (.string bytes, d) => bytes.length + uptoBulk d + 1
  | (_, d) => uptoBulk d + 1
 end
def uptoSmall : (H : Type) → List (DataW H) → Bool := fun _ ds => decide (uptoBulkAll ds ≤ 1048576)
def OpenSpec.upto (s : _root_.Go.ChangeSpec) : _root_.Go.OpenSpec := { _root_.Go.OpenSpec.ofChange s with cond := some uptoSmall }

/-- 'plugkeep.HostBack', WHERE WHAT IT READS IS OF BULK AT MOST 1048576: true; the input reads as it did. -/
def hostBackUptoRow : OpenClaim := { program := "ytidcbboonjenhaa", sum := "65e4620d3c9316c044959f5520d18839706c0594763f2516c67196b5db8d209e", func := "plugtree/plugkeep.HostBack", spec := "hostBack", unfollowed := true, recurses := true, apart := false, narrowed := true }
def HostBackUptoSaid : Prop := hostBackUptoRow.holds Try.pinned (OpenSpec.upto hostBackSpec)

/-- 'plugkeep.HostCalm', WHERE WHAT IT READS IS OF BULK AT MOST 1048576: true; the input reads as it did. -/
def hostCalmUptoRow : OpenClaim := { program := "ytidcbboonjenhaa", sum := "65e4620d3c9316c044959f5520d18839706c0594763f2516c67196b5db8d209e", func := "plugtree/plugkeep.HostCalm", spec := "hostCalm", unfollowed := true, recurses := true, apart := false, narrowed := true }
def HostCalmUptoSaid : Prop := hostCalmUptoRow.holds Try.pinned (OpenSpec.upto hostCalmSpec)

/-- 'plugkeep.HostCuts', WHERE WHAT IT READS IS OF BULK AT MOST 1048576: true; the input reads as it did. -/
def hostCutsUptoRow : OpenClaim := { program := "ytidcbboonjenhaa", sum := "65e4620d3c9316c044959f5520d18839706c0594763f2516c67196b5db8d209e", func := "plugtree/plugkeep.HostCuts", spec := "hostCuts", unfollowed := true, recurses := true, apart := false, narrowed := true }
def HostCutsUptoSaid : Prop := hostCutsUptoRow.holds Try.pinned (OpenSpec.upto hostCutsSpec)

/-- 'plugkeep.HostOnce', WHERE WHAT IT READS IS OF BULK AT MOST 1048576: true; the input reads as it did. -/
def hostOnceUptoRow : OpenClaim := { program := "ytidcbboonjenhaa", sum := "65e4620d3c9316c044959f5520d18839706c0594763f2516c67196b5db8d209e", func := "plugtree/plugkeep.HostOnce", spec := "hostOnce", unfollowed := true, recurses := true, apart := false, narrowed := true }
def HostOnceUptoSaid : Prop := hostOnceUptoRow.holds Try.pinned (OpenSpec.upto hostOnceSpec)

/-- 'plugkeep.HostRight', WHERE WHAT IT READS IS OF BULK AT MOST 1048576: true; the input reads as it did. -/
def hostRightUptoRow : OpenClaim := { program := "ytidcbboonjenhaa", sum := "65e4620d3c9316c044959f5520d18839706c0594763f2516c67196b5db8d209e", func := "plugtree/plugkeep.HostRight", spec := "hostRight", unfollowed := true, recurses := true, apart := false, narrowed := true }
def HostRightUptoSaid : Prop := hostRightUptoRow.holds Try.pinned (OpenSpec.upto hostRightSpec)

end Rows
end Go.Proofs.Ytidcbboonjenhaa
