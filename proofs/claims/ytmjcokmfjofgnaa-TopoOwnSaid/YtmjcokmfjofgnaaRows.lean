/-
  No cell of these rows narrows 'for every input' (looked for: loops, veiled, ifaces, maps, wideKeys, modest, calm, conditions, laid).
  DERIVED. THE GIVEN ROWS OF THIS SEAT. 6 by the template 'for every input the law returns true; each argument reads behind the call as it read before'; 0 by the template 'total and deterministic' (their statements: YtmjcokmfjofgnaaTotals.lean).
  GIVEN WITH THE SEED: the statements are not yours to turn. If you find one false, say at which input.
  Laid BY PROGRAM, IN A SANDBOX (cutbox-rows.mjs): the forced cells as the released guide's own fill.sh prints them over the translation 5861b2b28b5b18bb… (all of the seat's roots in one cut). By AI agents, Wed Nov 11 2026. No macro, syntax, notation, axiom, sorry.
-/
import Derived.Test.YtmjcokmfjofgnaaChecked
import GoSem.Claim
import GoSem.ClaimJoined
import GoSem.ClaimMapViews
import Derived.JoinedTies
import Derived.KernelRfl
namespace Go.Proofs.Ytmjcokmfjofgnaa
/- THE CELL 'sum', in the pinned program and in every row, IS THE sha256 OF THE DUMP (.gsa) THAT YtmjcokmfjofgnaaProg.lean LOADS. Nothing in Lean hashes anything: it is a label: what it is worth is what the hold of that sum in a sandbox is worth. -/
noncomputable def Try.pinned : Pinned := { name := "ytmjcokmfjofgnaa", sum := "5861b2b28b5b18bb074cabecf2fe3944a293d9aa2044adf86fd0a2ec2c1e2384", checked := Try.checked }
namespace Rows
def none {H : Type} : Left H := { results := [], args := [] }

/-- 'plugkeep.TopoOrder': WHATEVER THE INPUT: true; the input reads as it did. -/
def topoOrderSpec : ChangeSpec := { name := "topoOrder", fn := fun _ => fun
  | [d1, d2, d3] => { results := [.lit (.bool true)], args := [d1, d2, d3] }
  | _ => none }
def topoOrderRow : OpenClaim := { program := "ytmjcokmfjofgnaa", sum := "5861b2b28b5b18bb074cabecf2fe3944a293d9aa2044adf86fd0a2ec2c1e2384", func := "plugtree/plugkeep.TopoOrder", spec := "topoOrder", inPlace := ["slices.overlaps[plugtree/api.Node]"], unfollowed := true, recurses := true, apart := false }
def TopoOrderSaid : Prop := topoOrderRow.holds Try.pinned (OpenSpec.ofChange topoOrderSpec)

/-- ITS FALSE NEIGHBOUR: 'it returns false'. Refute it at one input. -/
def topoOrderWrong : ChangeSpec := { name := "topoOrder", fn := fun _ => fun
  | [d1, d2, d3] => { results := [.lit (.bool false)], args := [d1, d2, d3] }
  | _ => none }
def TopoOrderWrongFalsely : Prop := topoOrderRow.holds Try.pinned (OpenSpec.ofChange topoOrderWrong)

/-- 'plugkeep.TopoRight': WHATEVER THE INPUT: true; the input reads as it did. -/
def topoRightSpec : ChangeSpec := { name := "topoRight", fn := fun _ => fun
  | [d1, d2, d3] => { results := [.lit (.bool true)], args := [d1, d2, d3] }
  | _ => none }
def topoRightRow : OpenClaim := { program := "ytmjcokmfjofgnaa", sum := "5861b2b28b5b18bb074cabecf2fe3944a293d9aa2044adf86fd0a2ec2c1e2384", func := "plugtree/plugkeep.TopoRight", spec := "topoRight", inPlace := ["slices.overlaps[plugtree/api.Node]"], unfollowed := true, recurses := true, apart := false }
def TopoRightSaid : Prop := topoRightRow.holds Try.pinned (OpenSpec.ofChange topoRightSpec)

/-- ITS FALSE NEIGHBOUR: 'it returns false'. Refute it at one input. -/
def topoRightWrong : ChangeSpec := { name := "topoRight", fn := fun _ => fun
  | [d1, d2, d3] => { results := [.lit (.bool false)], args := [d1, d2, d3] }
  | _ => none }
def TopoRightWrongFalsely : Prop := topoRightRow.holds Try.pinned (OpenSpec.ofChange topoRightWrong)

/-- 'plugkeep.TopoBack': WHATEVER THE INPUT: true; the input reads as it did. -/
def topoBackSpec : ChangeSpec := { name := "topoBack", fn := fun _ => fun
  | [d1, d2] => { results := [.lit (.bool true)], args := [d1, d2] }
  | _ => none }
def topoBackRow : OpenClaim := { program := "ytmjcokmfjofgnaa", sum := "5861b2b28b5b18bb074cabecf2fe3944a293d9aa2044adf86fd0a2ec2c1e2384", func := "plugtree/plugkeep.TopoBack", spec := "topoBack", inPlace := ["slices.overlaps[plugtree/api.Node]"], unfollowed := true, recurses := true, apart := false }
def TopoBackSaid : Prop := topoBackRow.holds Try.pinned (OpenSpec.ofChange topoBackSpec)

/-- ITS FALSE NEIGHBOUR: 'it returns false'. Refute it at one input. -/
def topoBackWrong : ChangeSpec := { name := "topoBack", fn := fun _ => fun
  | [d1, d2] => { results := [.lit (.bool false)], args := [d1, d2] }
  | _ => none }
def TopoBackWrongFalsely : Prop := topoBackRow.holds Try.pinned (OpenSpec.ofChange topoBackWrong)

/-- 'plugkeep.TopoGone': WHATEVER THE INPUT: true; the input reads as it did. -/
def topoGoneSpec : ChangeSpec := { name := "topoGone", fn := fun _ => fun
  | [d1, d2] => { results := [.lit (.bool true)], args := [d1, d2] }
  | _ => none }
def topoGoneRow : OpenClaim := { program := "ytmjcokmfjofgnaa", sum := "5861b2b28b5b18bb074cabecf2fe3944a293d9aa2044adf86fd0a2ec2c1e2384", func := "plugtree/plugkeep.TopoGone", spec := "topoGone", inPlace := ["slices.overlaps[plugtree/api.Node]"], unfollowed := true, recurses := true, apart := false }
def TopoGoneSaid : Prop := topoGoneRow.holds Try.pinned (OpenSpec.ofChange topoGoneSpec)

/-- ITS FALSE NEIGHBOUR: 'it returns false'. Refute it at one input. -/
def topoGoneWrong : ChangeSpec := { name := "topoGone", fn := fun _ => fun
  | [d1, d2] => { results := [.lit (.bool false)], args := [d1, d2] }
  | _ => none }
def TopoGoneWrongFalsely : Prop := topoGoneRow.holds Try.pinned (OpenSpec.ofChange topoGoneWrong)

/-- 'plugkeep.TopoOwn': WHATEVER THE INPUT: true; the input reads as it did. -/
def topoOwnSpec : ChangeSpec := { name := "topoOwn", fn := fun _ => fun
  | [d1, d2, d3] => { results := [.lit (.bool true)], args := [d1, d2, d3] }
  | _ => none }
def topoOwnRow : OpenClaim := { program := "ytmjcokmfjofgnaa", sum := "5861b2b28b5b18bb074cabecf2fe3944a293d9aa2044adf86fd0a2ec2c1e2384", func := "plugtree/plugkeep.TopoOwn", spec := "topoOwn", inPlace := ["slices.overlaps[plugtree/api.Node]"], unfollowed := true, recurses := true, apart := false }
def TopoOwnSaid : Prop := topoOwnRow.holds Try.pinned (OpenSpec.ofChange topoOwnSpec)

/-- ITS FALSE NEIGHBOUR: 'it returns false'. Refute it at one input. -/
def topoOwnWrong : ChangeSpec := { name := "topoOwn", fn := fun _ => fun
  | [d1, d2, d3] => { results := [.lit (.bool false)], args := [d1, d2, d3] }
  | _ => none }
def TopoOwnWrongFalsely : Prop := topoOwnRow.holds Try.pinned (OpenSpec.ofChange topoOwnWrong)

/-- 'plugkeep.TopoApart': WHATEVER THE INPUT: true; the input reads as it did. -/
def topoApartSpec : ChangeSpec := { name := "topoApart", fn := fun _ => fun
  | [d1, d2, d3] => { results := [.lit (.bool true)], args := [d1, d2, d3] }
  | _ => none }
def topoApartRow : OpenClaim := { program := "ytmjcokmfjofgnaa", sum := "5861b2b28b5b18bb074cabecf2fe3944a293d9aa2044adf86fd0a2ec2c1e2384", func := "plugtree/plugkeep.TopoApart", spec := "topoApart", inPlace := ["slices.overlaps[plugtree/api.Node]"], unfollowed := true, recurses := true, apart := false }
def TopoApartSaid : Prop := topoApartRow.holds Try.pinned (OpenSpec.ofChange topoApartSpec)

/-- ITS FALSE NEIGHBOUR: 'it returns false'. Refute it at one input. -/
def topoApartWrong : ChangeSpec := { name := "topoApart", fn := fun _ => fun
  | [d1, d2, d3] => { results := [.lit (.bool false)], args := [d1, d2, d3] }
  | _ => none }
def TopoApartWrongFalsely : Prop := topoApartRow.holds Try.pinned (OpenSpec.ofChange topoApartWrong)

/- THE SECOND FORM. 'bulk': how many values and letters a reading holds, each counted each time it is reached (what is shared counts as often as it is met; a slice's spare places count too). A statement '..UptoSaid' is the law's where the arguments, and the package variables that the reading takes, are together of bulk at most 1048576: NARROWER than '..Said'. Prove '..Said' where nothing that the law and all that it calls make is longer than what came in: it says more and counts as full. Else prove '..UptoSaid'. A law counts once. -/
mutual
def uptoBulk {H : Type} : DataW H → Nat
  | .lit (.string bytes) => bytes.length + 1
  | .lit _ => 1
  | .nil => 1
  | .ptr d => uptoBulk d + 1
  | .slice elems spare => uptoBulkAll elems + uptoBulkAll spare + 1
  | .agg parts => uptoBulkAll parts + 1
  | .iface _ d => uptoBulk d + 1
  | .map entries => uptoBulkEntries entries + 1
  | .held _ => 1
def uptoBulkAll {H : Type} : List (DataW H) → Nat
  | [] => 0
  | d :: r => uptoBulk d + uptoBulkAll r
def uptoBulkEntries {H : Type} : List (Lit × DataW H) → Nat
  | [] => 0
  | x :: r => uptoBulkEntry x + uptoBulkEntries r
def uptoBulkEntry {H : Type} : Lit × DataW H → Nat
  | (.string bytes, d) => bytes.length + uptoBulk d + 1
  | (_, d) => uptoBulk d + 1
 end
def uptoSmall : (H : Type) → List (DataW H) → Bool := fun _ ds => decide (uptoBulkAll ds ≤ 1048576)
def OpenSpec.upto (s : _root_.Go.ChangeSpec) : _root_.Go.OpenSpec := { _root_.Go.OpenSpec.ofChange s with cond := some uptoSmall }

/-- 'plugkeep.TopoOrder', WHERE WHAT IT READS IS OF BULK AT MOST 1048576: true; the input reads as it did. -/
def topoOrderUptoRow : OpenClaim := { program := "ytmjcokmfjofgnaa", sum := "5861b2b28b5b18bb074cabecf2fe3944a293d9aa2044adf86fd0a2ec2c1e2384", func := "plugtree/plugkeep.TopoOrder", spec := "topoOrder", inPlace := ["slices.overlaps[plugtree/api.Node]"], unfollowed := true, recurses := true, apart := false, narrowed := true }
def TopoOrderUptoSaid : Prop := topoOrderUptoRow.holds Try.pinned (OpenSpec.upto topoOrderSpec)

/-- 'plugkeep.TopoRight', WHERE WHAT IT READS IS OF BULK AT MOST 1048576: true; the input reads as it did. -/
def topoRightUptoRow : OpenClaim := { program := "ytmjcokmfjofgnaa", sum := "5861b2b28b5b18bb074cabecf2fe3944a293d9aa2044adf86fd0a2ec2c1e2384", func := "plugtree/plugkeep.TopoRight", spec := "topoRight", inPlace := ["slices.overlaps[plugtree/api.Node]"], unfollowed := true, recurses := true, apart := false, narrowed := true }
def TopoRightUptoSaid : Prop := topoRightUptoRow.holds Try.pinned (OpenSpec.upto topoRightSpec)

/-- 'plugkeep.TopoBack', WHERE WHAT IT READS IS OF BULK AT MOST 1048576: true; the input reads as it did. -/
def topoBackUptoRow : OpenClaim := { program := "ytmjcokmfjofgnaa", sum := "5861b2b28b5b18bb074cabecf2fe3944a293d9aa2044adf86fd0a2ec2c1e2384", func := "plugtree/plugkeep.TopoBack", spec := "topoBack", inPlace := ["slices.overlaps[plugtree/api.Node]"], unfollowed := true, recurses := true, apart := false, narrowed := true }
def TopoBackUptoSaid : Prop := topoBackUptoRow.holds Try.pinned (OpenSpec.upto topoBackSpec)

/-- 'plugkeep.TopoGone', WHERE WHAT IT READS IS OF BULK AT MOST 1048576: true; the input reads as it did. -/
def topoGoneUptoRow : OpenClaim := { program := "ytmjcokmfjofgnaa", sum := "5861b2b28b5b18bb074cabecf2fe3944a293d9aa2044adf86fd0a2ec2c1e2384", func := "plugtree/plugkeep.TopoGone", spec := "topoGone", inPlace := ["slices.overlaps[plugtree/api.Node]"], unfollowed := true, recurses := true, apart := false, narrowed := true }
def TopoGoneUptoSaid : Prop := topoGoneUptoRow.holds Try.pinned (OpenSpec.upto topoGoneSpec)

/-- 'plugkeep.TopoOwn', WHERE WHAT IT READS IS OF BULK AT MOST 1048576: true; the input reads as it did. -/
def topoOwnUptoRow : OpenClaim := { program := "ytmjcokmfjofgnaa", sum := "5861b2b28b5b18bb074cabecf2fe3944a293d9aa2044adf86fd0a2ec2c1e2384", func := "plugtree/plugkeep.TopoOwn", spec := "topoOwn", inPlace := ["slices.overlaps[plugtree/api.Node]"], unfollowed := true, recurses := true, apart := false, narrowed := true }
def TopoOwnUptoSaid : Prop := topoOwnUptoRow.holds Try.pinned (OpenSpec.upto topoOwnSpec)

/-- 'plugkeep.TopoApart', WHERE WHAT IT READS IS OF BULK AT MOST 1048576: true; the input reads as it did. -/
def topoApartUptoRow : OpenClaim := { program := "ytmjcokmfjofgnaa", sum := "5861b2b28b5b18bb074cabecf2fe3944a293d9aa2044adf86fd0a2ec2c1e2384", func := "plugtree/plugkeep.TopoApart", spec := "topoApart", inPlace := ["slices.overlaps[plugtree/api.Node]"], unfollowed := true, recurses := true, apart := false, narrowed := true }
def TopoApartUptoSaid : Prop := topoApartUptoRow.holds Try.pinned (OpenSpec.upto topoApartSpec)

end Rows
end Go.Proofs.Ytmjcokmfjofgnaa
