/-
  No cell of these rows narrows 'for every input' (looked for: loops, veiled, ifaces, maps, wideKeys, modest, calm, conditions, laid).
  DERIVED. THE GIVEN ROWS OF THIS SEAT. 7 by the template 'for every input the law returns true; each argument reads behind the call as it read before'; 0 by the template 'total and deterministic' (their statements: YtbajbdmocnkfmaaTotals.lean).
  GIVEN WITH THE SEED: the statements are not yours to turn. If you find one false, say at which input.
  Laid BY PROGRAM, IN A SANDBOX (cutbox-rows.mjs): the forced cells as the released guide's own fill.sh prints them over the translation d9947c85ba3b3faa… (all of the seat's roots in one cut). By AI agents, Wed Nov 11 2026. No macro, syntax, notation, axiom, sorry.
-/
import Derived.Test.YtbajbdmocnkfmaaChecked
import GoSem.Claim
import GoSem.ClaimJoined
import GoSem.ClaimMapViews
import Derived.JoinedTies
import Derived.KernelRfl
namespace Go.Proofs.Ytbajbdmocnkfmaa
/- THE CELL 'sum', in the pinned program and in every row, IS THE sha256 OF THE DUMP (.gsa) THAT YtbajbdmocnkfmaaProg.lean LOADS. Nothing in Lean hashes anything: it is a label: what it is worth is what the hold of that sum in a sandbox is worth. -/
noncomputable def Try.pinned : Pinned := { name := "ytbajbdmocnkfmaa", sum := "d9947c85ba3b3faa2cfd2d9dad328c6b139f3c375bf06e15bc610009685b4587", checked := Try.checked }
namespace Rows
def none {H : Type} : Left H := { results := [], args := [] }

/-- 'plugkeep.PacketApart': WHATEVER THE INPUT: true; the input reads as it did. -/
def packetApartSpec : ChangeSpec := { name := "packetApart", fn := fun _ => fun
  | [d1, d2] => { results := [.lit (.bool true)], args := [d1, d2] }
  | _ => none }
def packetApartRow : OpenClaim := { program := "ytbajbdmocnkfmaa", sum := "d9947c85ba3b3faa2cfd2d9dad328c6b139f3c375bf06e15bc610009685b4587", func := "plugtree/plugkeep.PacketApart", spec := "packetApart", apart := false }
def PacketApartSaid : Prop := packetApartRow.holds Try.pinned (OpenSpec.ofChange packetApartSpec)

/-- ITS FALSE NEIGHBOUR: 'it returns false'. Refute it at one input. -/
def packetApartWrong : ChangeSpec := { name := "packetApart", fn := fun _ => fun
  | [d1, d2] => { results := [.lit (.bool false)], args := [d1, d2] }
  | _ => none }
def PacketApartWrongFalsely : Prop := packetApartRow.holds Try.pinned (OpenSpec.ofChange packetApartWrong)

/-- 'plugkeep.PacketBack': WHATEVER THE INPUT: true; the input reads as it did. -/
def packetBackSpec : ChangeSpec := { name := "packetBack", fn := fun _ => fun
  | [d] => { results := [.lit (.bool true)], args := [d] }
  | _ => none }
def packetBackRow : OpenClaim := { program := "ytbajbdmocnkfmaa", sum := "d9947c85ba3b3faa2cfd2d9dad328c6b139f3c375bf06e15bc610009685b4587", func := "plugtree/plugkeep.PacketBack", spec := "packetBack", apart := false }
def PacketBackSaid : Prop := packetBackRow.holds Try.pinned (OpenSpec.ofChange packetBackSpec)

/-- ITS FALSE NEIGHBOUR: 'it returns false'. Refute it at one input. -/
def packetBackWrong : ChangeSpec := { name := "packetBack", fn := fun _ => fun
  | [d] => { results := [.lit (.bool false)], args := [d] }
  | _ => none }
def PacketBackWrongFalsely : Prop := packetBackRow.holds Try.pinned (OpenSpec.ofChange packetBackWrong)

/-- 'plugkeep.PacketOne': WHATEVER THE INPUT: true; the input reads as it did. -/
def packetOneSpec : ChangeSpec := { name := "packetOne", fn := fun _ => fun
  | [d] => { results := [.lit (.bool true)], args := [d] }
  | _ => none }
def packetOneRow : OpenClaim := { program := "ytbajbdmocnkfmaa", sum := "d9947c85ba3b3faa2cfd2d9dad328c6b139f3c375bf06e15bc610009685b4587", func := "plugtree/plugkeep.PacketOne", spec := "packetOne", apart := false }
def PacketOneSaid : Prop := packetOneRow.holds Try.pinned (OpenSpec.ofChange packetOneSpec)

/-- ITS FALSE NEIGHBOUR: 'it returns false'. Refute it at one input. -/
def packetOneWrong : ChangeSpec := { name := "packetOne", fn := fun _ => fun
  | [d] => { results := [.lit (.bool false)], args := [d] }
  | _ => none }
def PacketOneWrongFalsely : Prop := packetOneRow.holds Try.pinned (OpenSpec.ofChange packetOneWrong)

/-- 'plugkeep.PacketFlip': WHATEVER THE INPUT: true; the input reads as it did. -/
def packetFlipSpec : ChangeSpec := { name := "packetFlip", fn := fun _ => fun
  | [d1, d2] => { results := [.lit (.bool true)], args := [d1, d2] }
  | _ => none }
def packetFlipRow : OpenClaim := { program := "ytbajbdmocnkfmaa", sum := "d9947c85ba3b3faa2cfd2d9dad328c6b139f3c375bf06e15bc610009685b4587", func := "plugtree/plugkeep.PacketFlip", spec := "packetFlip", apart := false }
def PacketFlipSaid : Prop := packetFlipRow.holds Try.pinned (OpenSpec.ofChange packetFlipSpec)

/-- ITS FALSE NEIGHBOUR: 'it returns false'. Refute it at one input. -/
def packetFlipWrong : ChangeSpec := { name := "packetFlip", fn := fun _ => fun
  | [d1, d2] => { results := [.lit (.bool false)], args := [d1, d2] }
  | _ => none }
def PacketFlipWrongFalsely : Prop := packetFlipRow.holds Try.pinned (OpenSpec.ofChange packetFlipWrong)

/-- 'plugkeep.PacketTwo': WHATEVER THE INPUT: true; the input reads as it did. -/
def packetTwoSpec : ChangeSpec := { name := "packetTwo", fn := fun _ => fun
  | [d1, d2, d3] => { results := [.lit (.bool true)], args := [d1, d2, d3] }
  | _ => none }
def packetTwoRow : OpenClaim := { program := "ytbajbdmocnkfmaa", sum := "d9947c85ba3b3faa2cfd2d9dad328c6b139f3c375bf06e15bc610009685b4587", func := "plugtree/plugkeep.PacketTwo", spec := "packetTwo", apart := false }
def PacketTwoSaid : Prop := packetTwoRow.holds Try.pinned (OpenSpec.ofChange packetTwoSpec)

/-- ITS FALSE NEIGHBOUR: 'it returns false'. Refute it at one input. -/
def packetTwoWrong : ChangeSpec := { name := "packetTwo", fn := fun _ => fun
  | [d1, d2, d3] => { results := [.lit (.bool false)], args := [d1, d2, d3] }
  | _ => none }
def PacketTwoWrongFalsely : Prop := packetTwoRow.holds Try.pinned (OpenSpec.ofChange packetTwoWrong)

/-- 'plugkeep.PacketOdd': WHATEVER THE INPUT: true; the input reads as it did. -/
def packetOddSpec : ChangeSpec := { name := "packetOdd", fn := fun _ => fun
  | [d1, d2] => { results := [.lit (.bool true)], args := [d1, d2] }
  | _ => none }
def packetOddRow : OpenClaim := { program := "ytbajbdmocnkfmaa", sum := "d9947c85ba3b3faa2cfd2d9dad328c6b139f3c375bf06e15bc610009685b4587", func := "plugtree/plugkeep.PacketOdd", spec := "packetOdd", apart := false }
def PacketOddSaid : Prop := packetOddRow.holds Try.pinned (OpenSpec.ofChange packetOddSpec)

/-- ITS FALSE NEIGHBOUR: 'it returns false'. Refute it at one input. -/
def packetOddWrong : ChangeSpec := { name := "packetOdd", fn := fun _ => fun
  | [d1, d2] => { results := [.lit (.bool false)], args := [d1, d2] }
  | _ => none }
def PacketOddWrongFalsely : Prop := packetOddRow.holds Try.pinned (OpenSpec.ofChange packetOddWrong)

/-- 'plugkeep.PacketBurst': WHATEVER THE INPUT: true; the input reads as it did. -/
def packetBurstSpec : ChangeSpec := { name := "packetBurst", fn := fun _ => fun
  | [d1, d2, d3] => { results := [.lit (.bool true)], args := [d1, d2, d3] }
  | _ => none }
def packetBurstRow : OpenClaim := { program := "ytbajbdmocnkfmaa", sum := "d9947c85ba3b3faa2cfd2d9dad328c6b139f3c375bf06e15bc610009685b4587", func := "plugtree/plugkeep.PacketBurst", spec := "packetBurst", apart := false }
def PacketBurstSaid : Prop := packetBurstRow.holds Try.pinned (OpenSpec.ofChange packetBurstSpec)

/-- ITS FALSE NEIGHBOUR: 'it returns false'. Refute it at one input. -/
def packetBurstWrong : ChangeSpec := { name := "packetBurst", fn := fun _ => fun
  | [d1, d2, d3] => { results := [.lit (.bool false)], args := [d1, d2, d3] }
  | _ => none }
def PacketBurstWrongFalsely : Prop := packetBurstRow.holds Try.pinned (OpenSpec.ofChange packetBurstWrong)

/- THE SECOND FORM. 'bulk': how many values and letters a reading holds, each counted each time it is reached (what is shared counts as often as it is met; a slice's spare places count too). A statement '..UptoSaid' is the law's where the arguments, and the package variables that the reading takes, are together of bulk at most 1048576: NARROWER than '..Said'. Prove '..Said' where nothing that the law and all that it calls make is longer than what came in: it says more and counts as full. Else prove '..UptoSaid'. A law counts once. -/
mutual
def uptoBulk {H : Type} : DataW H → Nat
  | .lit (.string bytes) => bytes.length + 1
  | .lit _ => 1
  | .nil => 1
  | .ptr d => uptoBulk d + 1
  | .slice elems spare => uptoBulkAll elems + uptoBulkAll spare + 1
  | .agg parts => uptoBulkAll parts + 1
  | .iface _ d => uptoBulk d + 1
  | .map entries => uptoBulkEntries entries + 1
  | .held _ => 1
def uptoBulkAll {H : Type} : List (DataW H) → Nat
  | [] => 0
  | d :: r => uptoBulk d + uptoBulkAll r
def uptoBulkEntries {H : Type} : List (Lit × DataW H) → Nat
  | [] => 0
  | x :: r => uptoBulkEntry x + uptoBulkEntries r
def uptoBulkEntry {H : Type} : Lit × DataW H → Nat
  | (.string bytes, d) => bytes.length + uptoBulk d + 1
  | (_, d) => uptoBulk d + 1
 end
def uptoSmall : (H : Type) → List (DataW H) → Bool := fun _ ds => decide (uptoBulkAll ds ≤ 1048576)
def OpenSpec.upto (s : _root_.Go.ChangeSpec) : _root_.Go.OpenSpec := { _root_.Go.OpenSpec.ofChange s with cond := some uptoSmall }

/-- 'plugkeep.PacketApart', WHERE WHAT IT READS IS OF BULK AT MOST 1048576: true; the input reads as it did. -/
def packetApartUptoRow : OpenClaim := { program := "ytbajbdmocnkfmaa", sum := "d9947c85ba3b3faa2cfd2d9dad328c6b139f3c375bf06e15bc610009685b4587", func := "plugtree/plugkeep.PacketApart", spec := "packetApart", apart := false, narrowed := true }
def PacketApartUptoSaid : Prop := packetApartUptoRow.holds Try.pinned (OpenSpec.upto packetApartSpec)

/-- 'plugkeep.PacketBack', WHERE WHAT IT READS IS OF BULK AT MOST 1048576: true; the input reads as it did. -/
def packetBackUptoRow : OpenClaim := { program := "ytbajbdmocnkfmaa", sum := "d9947c85ba3b3faa2cfd2d9dad328c6b139f3c375bf06e15bc610009685b4587", func := "plugtree/plugkeep.PacketBack", spec := "packetBack", apart := false, narrowed := true }
def PacketBackUptoSaid : Prop := packetBackUptoRow.holds Try.pinned (OpenSpec.upto packetBackSpec)

/-- 'plugkeep.PacketOne', WHERE WHAT IT READS IS OF BULK AT MOST 1048576: true; the input reads as it did. -/
def packetOneUptoRow : OpenClaim := { program := "ytbajbdmocnkfmaa", sum := "d9947c85ba3b3faa2cfd2d9dad328c6b139f3c375bf06e15bc610009685b4587", func := "plugtree/plugkeep.PacketOne", spec := "packetOne", apart := false, narrowed := true }
def PacketOneUptoSaid : Prop := packetOneUptoRow.holds Try.pinned (OpenSpec.upto packetOneSpec)

/-- 'plugkeep.PacketFlip', WHERE WHAT IT READS IS OF BULK AT MOST 1048576: true; the input reads as it did. -/
def packetFlipUptoRow : OpenClaim := { program := "ytbajbdmocnkfmaa", sum := "d9947c85ba3b3faa2cfd2d9dad328c6b139f3c375bf06e15bc610009685b4587", func := "plugtree/plugkeep.PacketFlip", spec := "packetFlip", apart := false, narrowed := true }
def PacketFlipUptoSaid : Prop := packetFlipUptoRow.holds Try.pinned (OpenSpec.upto packetFlipSpec)

/-- 'plugkeep.PacketTwo', WHERE WHAT IT READS IS OF BULK AT MOST 1048576: true; the input reads as it did. -/
def packetTwoUptoRow : OpenClaim := { program := "ytbajbdmocnkfmaa", sum := "d9947c85ba3b3faa2cfd2d9dad328c6b139f3c375bf06e15bc610009685b4587", func := "plugtree/plugkeep.PacketTwo", spec := "packetTwo", apart := false, narrowed := true }
def PacketTwoUptoSaid : Prop := packetTwoUptoRow.holds Try.pinned (OpenSpec.upto packetTwoSpec)

/-- 'plugkeep.PacketOdd', WHERE WHAT IT READS IS OF BULK AT MOST 1048576: true; the input reads as it did. -/
def packetOddUptoRow : OpenClaim := { program := "ytbajbdmocnkfmaa", sum := "d9947c85ba3b3faa2cfd2d9dad328c6b139f3c375bf06e15bc610009685b4587", func := "plugtree/plugkeep.PacketOdd", spec := "packetOdd", apart := false, narrowed := true }
def PacketOddUptoSaid : Prop := packetOddUptoRow.holds Try.pinned (OpenSpec.upto packetOddSpec)

/-- 'plugkeep.PacketBurst', WHERE WHAT IT READS IS OF BULK AT MOST 1048576: true; the input reads as it did. -/
def packetBurstUptoRow : OpenClaim := { program := "ytbajbdmocnkfmaa", sum := "d9947c85ba3b3faa2cfd2d9dad328c6b139f3c375bf06e15bc610009685b4587", func := "plugtree/plugkeep.PacketBurst", spec := "packetBurst", apart := false, narrowed := true }
def PacketBurstUptoSaid : Prop := packetBurstUptoRow.holds Try.pinned (OpenSpec.upto packetBurstSpec)

end Rows
end Go.Proofs.Ytbajbdmocnkfmaa
