/-
  No cell of these rows narrows 'for every input' (looked for: loops, veiled, ifaces, maps, wideKeys, modest, calm, conditions, laid).
  DERIVED. THE GIVEN ROWS OF THIS SEAT. 4 by the template 'for every input the law returns true; each argument reads behind the call as it read before'; 0 by the template 'total and deterministic' (their statements: YtblcanmkkjfnlaaTotals.lean).
  GIVEN WITH THE SEED: the statements are not yours to turn. If you find one false, say at which input.
  Laid BY PROGRAM, IN A SANDBOX (cutbox-rows.mjs): the forced cells as the released guide's own fill.sh prints them over the translation dd282ba7aece9b66… (all of the seat's roots in one cut). By AI agents, Wed Nov 11 2026. No macro, syntax, notation, axiom, sorry.
-/
import Derived.Test.YtblcanmkkjfnlaaChecked
import GoSem.Claim
import GoSem.ClaimJoined
import GoSem.ClaimMapViews
import Derived.JoinedTies
import Derived.KernelRfl
namespace Go.Proofs.Ytblcanmkkjfnlaa
/- THE CELL 'sum', in the pinned program and in every row, IS THE sha256 OF THE DUMP (.gsa) THAT YtblcanmkkjfnlaaProg.lean LOADS. Nothing in Lean hashes anything: it is a label: what it is worth is what the hold of that sum in a sandbox is worth. -/
noncomputable def Try.pinned : Pinned := { name := "ytblcanmkkjfnlaa", sum := "dd282ba7aece9b66f9027d586b75546eec9a2bbd9fb00eec712804dfe58c1f51", checked := Try.checked }
namespace Rows
def none {H : Type} : Left H := { results := [], args := [] }

/-- 'plugkeep.RegisterStale': WHATEVER THE INPUT: true; the input reads as it did. -/
def registerStaleSpec : ChangeSpec := { name := "registerStale", fn := fun _ => fun
  | [d1, d2, d3] => { results := [.lit (.bool true)], args := [d1, d2, d3] }
  | _ => none }
def registerStaleRow : OpenClaim := { program := "ytblcanmkkjfnlaa", sum := "dd282ba7aece9b66f9027d586b75546eec9a2bbd9fb00eec712804dfe58c1f51", func := "plugtree/plugkeep.RegisterStale", spec := "registerStale", apart := false }
def RegisterStaleSaid : Prop := registerStaleRow.holds Try.pinned (OpenSpec.ofChange registerStaleSpec)

/-- ITS FALSE NEIGHBOUR: 'it returns false'. Refute it at one input. -/
def registerStaleWrong : ChangeSpec := { name := "registerStale", fn := fun _ => fun
  | [d1, d2, d3] => { results := [.lit (.bool false)], args := [d1, d2, d3] }
  | _ => none }
def RegisterStaleWrongFalsely : Prop := registerStaleRow.holds Try.pinned (OpenSpec.ofChange registerStaleWrong)

/-- 'plugkeep.RegisterHolds': WHATEVER THE INPUT: true; the input reads as it did. -/
def registerHoldsSpec : ChangeSpec := { name := "registerHolds", fn := fun _ => fun
  | [d1, d2, d3] => { results := [.lit (.bool true)], args := [d1, d2, d3] }
  | _ => none }
def registerHoldsRow : OpenClaim := { program := "ytblcanmkkjfnlaa", sum := "dd282ba7aece9b66f9027d586b75546eec9a2bbd9fb00eec712804dfe58c1f51", func := "plugtree/plugkeep.RegisterHolds", spec := "registerHolds", apart := false }
def RegisterHoldsSaid : Prop := registerHoldsRow.holds Try.pinned (OpenSpec.ofChange registerHoldsSpec)

/-- ITS FALSE NEIGHBOUR: 'it returns false'. Refute it at one input. -/
def registerHoldsWrong : ChangeSpec := { name := "registerHolds", fn := fun _ => fun
  | [d1, d2, d3] => { results := [.lit (.bool false)], args := [d1, d2, d3] }
  | _ => none }
def RegisterHoldsWrongFalsely : Prop := registerHoldsRow.holds Try.pinned (OpenSpec.ofChange registerHoldsWrong)

/-- 'plugkeep.RegisterRoom': WHATEVER THE INPUT: true; the input reads as it did. -/
def registerRoomSpec : ChangeSpec := { name := "registerRoom", fn := fun _ => fun
  | [d1, d2] => { results := [.lit (.bool true)], args := [d1, d2] }
  | _ => none }
def registerRoomRow : OpenClaim := { program := "ytblcanmkkjfnlaa", sum := "dd282ba7aece9b66f9027d586b75546eec9a2bbd9fb00eec712804dfe58c1f51", func := "plugtree/plugkeep.RegisterRoom", spec := "registerRoom", apart := false }
def RegisterRoomSaid : Prop := registerRoomRow.holds Try.pinned (OpenSpec.ofChange registerRoomSpec)

/-- ITS FALSE NEIGHBOUR: 'it returns false'. Refute it at one input. -/
def registerRoomWrong : ChangeSpec := { name := "registerRoom", fn := fun _ => fun
  | [d1, d2] => { results := [.lit (.bool false)], args := [d1, d2] }
  | _ => none }
def RegisterRoomWrongFalsely : Prop := registerRoomRow.holds Try.pinned (OpenSpec.ofChange registerRoomWrong)

/-- 'plugkeep.RegisterApart': WHATEVER THE INPUT: true; the input reads as it did. -/
def registerApartSpec : ChangeSpec := { name := "registerApart", fn := fun _ => fun
  | [d1, d2, d3] => { results := [.lit (.bool true)], args := [d1, d2, d3] }
  | _ => none }
def registerApartRow : OpenClaim := { program := "ytblcanmkkjfnlaa", sum := "dd282ba7aece9b66f9027d586b75546eec9a2bbd9fb00eec712804dfe58c1f51", func := "plugtree/plugkeep.RegisterApart", spec := "registerApart", apart := false }
def RegisterApartSaid : Prop := registerApartRow.holds Try.pinned (OpenSpec.ofChange registerApartSpec)

/-- ITS FALSE NEIGHBOUR: 'it returns false'. Refute it at one input. -/
def registerApartWrong : ChangeSpec := { name := "registerApart", fn := fun _ => fun
  | [d1, d2, d3] => { results := [.lit (.bool false)], args := [d1, d2, d3] }
  | _ => none }
def RegisterApartWrongFalsely : Prop := registerApartRow.holds Try.pinned (OpenSpec.ofChange registerApartWrong)

/- THE SECOND FORM. 'bulk': how many values and letters a reading holds, each counted each time it is reached (what is shared counts as often as it is met; a slice's spare places count too). A statement '..UptoSaid' is the law's where the arguments, and the package variables that the reading takes, are together of bulk at most 1048576: NARROWER than '..Said'. Prove '..Said' where nothing that the law and all that it calls make is longer than what came in: it says more and counts as full. Else prove '..UptoSaid'. A law counts once. -/
mutual
def uptoBulk {H : Type} : DataW H → Nat
  | .lit (.string bytes) => bytes.length + 1
  | .lit _ => 1
  | .nil => 1
  | .ptr d => uptoBulk d + 1
  | .slice elems spare => uptoBulkAll elems + uptoBulkAll spare + 1
  | .agg parts => uptoBulkAll parts + 1
  | .iface _ d => uptoBulk d + 1
  | .map entries => uptoBulkEntries entries + 1
  | .held _ => 1
def uptoBulkAll {H : Type} : List (DataW H) → Nat
  | [] => 0
  | d :: r => uptoBulk d + uptoBulkAll r
def uptoBulkEntries {H : Type} : List (Lit × DataW H) → Nat
  | [] => 0
  | x :: r => uptoBulkEntry x + uptoBulkEntries r
def uptoBulkEntry {H : Type} : Lit × DataW H → Nat
  | (.string bytes, d) => bytes.length + uptoBulk d + 1
  | (_, d) => uptoBulk d + 1
 end
def uptoSmall : (H : Type) → List (DataW H) → Bool := fun _ ds => decide (uptoBulkAll ds ≤ 1048576)
def OpenSpec.upto (s : _root_.Go.ChangeSpec) : _root_.Go.OpenSpec := { _root_.Go.OpenSpec.ofChange s with cond := some uptoSmall }

/-- 'plugkeep.RegisterStale', WHERE WHAT IT READS IS OF BULK AT MOST 1048576: true; the input reads as it did. -/
def registerStaleUptoRow : OpenClaim := { program := "ytblcanmkkjfnlaa", sum := "dd282ba7aece9b66f9027d586b75546eec9a2bbd9fb00eec712804dfe58c1f51", func := "plugtree/plugkeep.RegisterStale", spec := "registerStale", apart := false, narrowed := true }
def RegisterStaleUptoSaid : Prop := registerStaleUptoRow.holds Try.pinned (OpenSpec.upto registerStaleSpec)

/-- 'plugkeep.RegisterHolds', WHERE WHAT IT READS IS OF BULK AT MOST 1048576: true; the input reads as it did. -/
def registerHoldsUptoRow : OpenClaim := { program := "ytblcanmkkjfnlaa", sum := "dd282ba7aece9b66f9027d586b75546eec9a2bbd9fb00eec712804dfe58c1f51", func := "plugtree/plugkeep.RegisterHolds", spec := "registerHolds", apart := false, narrowed := true }
def RegisterHoldsUptoSaid : Prop := registerHoldsUptoRow.holds Try.pinned (OpenSpec.upto registerHoldsSpec)

/-- 'plugkeep.RegisterRoom', WHERE WHAT IT READS IS OF BULK AT MOST 1048576: true; the input reads as it did. -/
def registerRoomUptoRow : OpenClaim := { program := "ytblcanmkkjfnlaa", sum := "dd282ba7aece9b66f9027d586b75546eec9a2bbd9fb00eec712804dfe58c1f51", func := "plugtree/plugkeep.RegisterRoom", spec := "registerRoom", apart := false, narrowed := true }
def RegisterRoomUptoSaid : Prop := registerRoomUptoRow.holds Try.pinned (OpenSpec.upto registerRoomSpec)

/-- 'plugkeep.RegisterApart', WHERE WHAT IT READS IS OF BULK AT MOST 1048576: true; the input reads as it did. -/
def registerApartUptoRow : OpenClaim := { program := "ytblcanmkkjfnlaa", sum := "dd282ba7aece9b66f9027d586b75546eec9a2bbd9fb00eec712804dfe58c1f51", func := "plugtree/plugkeep.RegisterApart", spec := "registerApart", apart := false, narrowed := true }
def RegisterApartUptoSaid : Prop := registerApartUptoRow.holds Try.pinned (OpenSpec.upto registerApartSpec)

end Rows
end Go.Proofs.Ytblcanmkkjfnlaa
