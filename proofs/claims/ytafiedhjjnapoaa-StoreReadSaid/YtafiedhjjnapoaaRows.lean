/-
  No cell of these rows narrows 'for every input' (looked for: loops, veiled, ifaces, maps, wideKeys, modest, calm, conditions, laid).
  DERIVED. THE GIVEN ROWS OF THIS SEAT. 7 by the template 'for every input the law returns true; each argument reads behind the call as it read before'; 0 by the template 'total and deterministic' (their statements: YtafiedhjjnapoaaTotals.lean).
  GIVEN WITH THE SEED: the statements are not yours to turn. If you find one false, say at which input.
  Laid BY PROGRAM, IN A SANDBOX (cutbox-rows.mjs): the forced cells as the released guide's own fill.sh prints them over the translation 4de85137cf020277… (all of the seat's roots in one cut). By AI agents, Wed Nov 11 2026. No macro, syntax, notation, axiom, sorry.
-/
import Derived.Test.YtafiedhjjnapoaaChecked
import GoSem.Claim
import GoSem.ClaimJoined
import GoSem.ClaimMapViews
import Derived.JoinedTies
import Derived.KernelRfl
namespace Go.Proofs.Ytafiedhjjnapoaa
/- THE CELL 'sum', in the pinned program and in every row, IS THE sha256 OF THE DUMP (.gsa) THAT YtafiedhjjnapoaaProg.lean LOADS. Nothing in Lean hashes anything: it is a label: what it is worth is what the hold of that sum in a sandbox is worth. -/
noncomputable def Try.pinned : Pinned := { name := "ytafiedhjjnapoaa", sum := "4de85137cf020277f0e8c45a85d3939d9158c06b3bacbfcb2562034cf67ac804", checked := Try.checked }
namespace Rows
def none {H : Type} : Left H := { results := [], args := [] }

/-- 'plugkeep.StoreRead': WHATEVER THE INPUT: true; the input reads as it did. -/
def storeReadSpec : ChangeSpec := { name := "storeRead", fn := fun _ => fun
  | [d1, d2, d3, d4] => { results := [.lit (.bool true)], args := [d1, d2, d3, d4] }
  | _ => none }
def storeReadRow : OpenClaim := { program := "ytafiedhjjnapoaa", sum := "4de85137cf020277f0e8c45a85d3939d9158c06b3bacbfcb2562034cf67ac804", func := "plugtree/plugkeep.StoreRead", spec := "storeRead", inPlace := ["internal/abi.NoEscape", "internal/bytealg.MakeNoZero"], unfollowed := true, recurses := true, apart := false }
def StoreReadSaid : Prop := storeReadRow.holds Try.pinned (OpenSpec.ofChange storeReadSpec)

/-- ITS FALSE NEIGHBOUR: 'it returns false'. Refute it at one input. -/
def storeReadWrong : ChangeSpec := { name := "storeRead", fn := fun _ => fun
  | [d1, d2, d3, d4] => { results := [.lit (.bool false)], args := [d1, d2, d3, d4] }
  | _ => none }
def StoreReadWrongFalsely : Prop := storeReadRow.holds Try.pinned (OpenSpec.ofChange storeReadWrong)

/-- 'plugkeep.StoreWrite': WHATEVER THE INPUT: true; the input reads as it did. -/
def storeWriteSpec : ChangeSpec := { name := "storeWrite", fn := fun _ => fun
  | [d1, d2, d3, d4] => { results := [.lit (.bool true)], args := [d1, d2, d3, d4] }
  | _ => none }
def storeWriteRow : OpenClaim := { program := "ytafiedhjjnapoaa", sum := "4de85137cf020277f0e8c45a85d3939d9158c06b3bacbfcb2562034cf67ac804", func := "plugtree/plugkeep.StoreWrite", spec := "storeWrite", inPlace := ["internal/abi.NoEscape", "internal/bytealg.MakeNoZero"], unfollowed := true, recurses := true, apart := false }
def StoreWriteSaid : Prop := storeWriteRow.holds Try.pinned (OpenSpec.ofChange storeWriteSpec)

/-- ITS FALSE NEIGHBOUR: 'it returns false'. Refute it at one input. -/
def storeWriteWrong : ChangeSpec := { name := "storeWrite", fn := fun _ => fun
  | [d1, d2, d3, d4] => { results := [.lit (.bool false)], args := [d1, d2, d3, d4] }
  | _ => none }
def StoreWriteWrongFalsely : Prop := storeWriteRow.holds Try.pinned (OpenSpec.ofChange storeWriteWrong)

/-- 'plugkeep.StoreBack': WHATEVER THE INPUT: true; the input reads as it did. -/
def storeBackSpec : ChangeSpec := { name := "storeBack", fn := fun _ => fun
  | [d1, d2, d3, d4, d5] => { results := [.lit (.bool true)], args := [d1, d2, d3, d4, d5] }
  | _ => none }
def storeBackRow : OpenClaim := { program := "ytafiedhjjnapoaa", sum := "4de85137cf020277f0e8c45a85d3939d9158c06b3bacbfcb2562034cf67ac804", func := "plugtree/plugkeep.StoreBack", spec := "storeBack", inPlace := ["internal/abi.NoEscape", "internal/bytealg.MakeNoZero"], unfollowed := true, recurses := true, apart := false }
def StoreBackSaid : Prop := storeBackRow.holds Try.pinned (OpenSpec.ofChange storeBackSpec)

/-- ITS FALSE NEIGHBOUR: 'it returns false'. Refute it at one input. -/
def storeBackWrong : ChangeSpec := { name := "storeBack", fn := fun _ => fun
  | [d1, d2, d3, d4, d5] => { results := [.lit (.bool false)], args := [d1, d2, d3, d4, d5] }
  | _ => none }
def StoreBackWrongFalsely : Prop := storeBackRow.holds Try.pinned (OpenSpec.ofChange storeBackWrong)

/-- 'plugkeep.StoreTwice': WHATEVER THE INPUT: true; the input reads as it did. -/
def storeTwiceSpec : ChangeSpec := { name := "storeTwice", fn := fun _ => fun
  | [d1, d2, d3, d4, d5] => { results := [.lit (.bool true)], args := [d1, d2, d3, d4, d5] }
  | _ => none }
def storeTwiceRow : OpenClaim := { program := "ytafiedhjjnapoaa", sum := "4de85137cf020277f0e8c45a85d3939d9158c06b3bacbfcb2562034cf67ac804", func := "plugtree/plugkeep.StoreTwice", spec := "storeTwice", inPlace := ["internal/abi.NoEscape", "internal/bytealg.MakeNoZero"], unfollowed := true, recurses := true, apart := false }
def StoreTwiceSaid : Prop := storeTwiceRow.holds Try.pinned (OpenSpec.ofChange storeTwiceSpec)

/-- ITS FALSE NEIGHBOUR: 'it returns false'. Refute it at one input. -/
def storeTwiceWrong : ChangeSpec := { name := "storeTwice", fn := fun _ => fun
  | [d1, d2, d3, d4, d5] => { results := [.lit (.bool false)], args := [d1, d2, d3, d4, d5] }
  | _ => none }
def StoreTwiceWrongFalsely : Prop := storeTwiceRow.holds Try.pinned (OpenSpec.ofChange storeTwiceWrong)

/-- 'plugkeep.StoreWell': WHATEVER THE INPUT: true; the input reads as it did. -/
def storeWellSpec : ChangeSpec := { name := "storeWell", fn := fun _ => fun
  | [d1, d2, d3] => { results := [.lit (.bool true)], args := [d1, d2, d3] }
  | _ => none }
def storeWellRow : OpenClaim := { program := "ytafiedhjjnapoaa", sum := "4de85137cf020277f0e8c45a85d3939d9158c06b3bacbfcb2562034cf67ac804", func := "plugtree/plugkeep.StoreWell", spec := "storeWell", inPlace := ["internal/abi.NoEscape", "internal/bytealg.MakeNoZero"], unfollowed := true, recurses := true, apart := false }
def StoreWellSaid : Prop := storeWellRow.holds Try.pinned (OpenSpec.ofChange storeWellSpec)

/-- ITS FALSE NEIGHBOUR: 'it returns false'. Refute it at one input. -/
def storeWellWrong : ChangeSpec := { name := "storeWell", fn := fun _ => fun
  | [d1, d2, d3] => { results := [.lit (.bool false)], args := [d1, d2, d3] }
  | _ => none }
def StoreWellWrongFalsely : Prop := storeWellRow.holds Try.pinned (OpenSpec.ofChange storeWellWrong)

/-- 'plugkeep.StoreUsed': WHATEVER THE INPUT: true; the input reads as it did. -/
def storeUsedSpec : ChangeSpec := { name := "storeUsed", fn := fun _ => fun
  | [d1, d2, d3, d4, d5] => { results := [.lit (.bool true)], args := [d1, d2, d3, d4, d5] }
  | _ => none }
def storeUsedRow : OpenClaim := { program := "ytafiedhjjnapoaa", sum := "4de85137cf020277f0e8c45a85d3939d9158c06b3bacbfcb2562034cf67ac804", func := "plugtree/plugkeep.StoreUsed", spec := "storeUsed", inPlace := ["internal/abi.NoEscape", "internal/bytealg.MakeNoZero"], unfollowed := true, recurses := true, apart := false }
def StoreUsedSaid : Prop := storeUsedRow.holds Try.pinned (OpenSpec.ofChange storeUsedSpec)

/-- ITS FALSE NEIGHBOUR: 'it returns false'. Refute it at one input. -/
def storeUsedWrong : ChangeSpec := { name := "storeUsed", fn := fun _ => fun
  | [d1, d2, d3, d4, d5] => { results := [.lit (.bool false)], args := [d1, d2, d3, d4, d5] }
  | _ => none }
def StoreUsedWrongFalsely : Prop := storeUsedRow.holds Try.pinned (OpenSpec.ofChange storeUsedWrong)

/-- 'plugkeep.StoreOwn': WHATEVER THE INPUT: true; the input reads as it did. -/
def storeOwnSpec : ChangeSpec := { name := "storeOwn", fn := fun _ => fun
  | [d1, d2, d3, d4] => { results := [.lit (.bool true)], args := [d1, d2, d3, d4] }
  | _ => none }
def storeOwnRow : OpenClaim := { program := "ytafiedhjjnapoaa", sum := "4de85137cf020277f0e8c45a85d3939d9158c06b3bacbfcb2562034cf67ac804", func := "plugtree/plugkeep.StoreOwn", spec := "storeOwn", inPlace := ["internal/abi.NoEscape", "internal/bytealg.MakeNoZero"], unfollowed := true, recurses := true, apart := false }
def StoreOwnSaid : Prop := storeOwnRow.holds Try.pinned (OpenSpec.ofChange storeOwnSpec)

/-- ITS FALSE NEIGHBOUR: 'it returns false'. Refute it at one input. -/
def storeOwnWrong : ChangeSpec := { name := "storeOwn", fn := fun _ => fun
  | [d1, d2, d3, d4] => { results := [.lit (.bool false)], args := [d1, d2, d3, d4] }
  | _ => none }
def StoreOwnWrongFalsely : Prop := storeOwnRow.holds Try.pinned (OpenSpec.ofChange storeOwnWrong)

/- THE SECOND FORM. 'bulk': how many values and letters a reading holds, each counted each time it is reached (what is shared counts as often as it is met; a slice's spare places count too). A statement '..UptoSaid' is the law's where the arguments, and the package variables that the reading takes, are together of bulk at most 1048576: NARROWER than '..Said'. Prove '..Said' where nothing that the law and all that it calls make is longer than what came in: it says more and counts as full. Else prove '..UptoSaid'. A law counts once. -/
mutual
def uptoBulk {H : Type} : DataW H → Nat
  | .lit (.string bytes) => bytes.length + 1
  | .lit _ => 1
  | .nil => 1
  | .ptr d => uptoBulk d + 1
  | .slice elems spare => uptoBulkAll elems + uptoBulkAll spare + 1
  | .agg parts => uptoBulkAll parts + 1
  | .iface _ d => uptoBulk d + 1
  | .map entries => uptoBulkEntries entries + 1
  | .held _ => 1
def uptoBulkAll {H : Type} : List (DataW H) → Nat
  | [] => 0
  | d :: r => uptoBulk d + uptoBulkAll r
def uptoBulkEntries {H : Type} : List (Lit × DataW H) → Nat
  | [] => 0
  | x :: r => uptoBulkEntry x + uptoBulkEntries r
def uptoBulkEntry {H : Type} : Lit × DataW H → Nat
  | (.string bytes, d) => bytes.length + uptoBulk d + 1
  | (_, d) => uptoBulk d + 1
 end
def uptoSmall : (H : Type) → List (DataW H) → Bool := fun _ ds => decide (uptoBulkAll ds ≤ 1048576)
def OpenSpec.upto (s : _root_.Go.ChangeSpec) : _root_.Go.OpenSpec := { _root_.Go.OpenSpec.ofChange s with cond := some uptoSmall }

/-- 'plugkeep.StoreRead', WHERE WHAT IT READS IS OF BULK AT MOST 1048576: true; the input reads as it did. -/
def storeReadUptoRow : OpenClaim := { program := "ytafiedhjjnapoaa", sum := "4de85137cf020277f0e8c45a85d3939d9158c06b3bacbfcb2562034cf67ac804", func := "plugtree/plugkeep.StoreRead", spec := "storeRead", inPlace := ["internal/abi.NoEscape", "internal/bytealg.MakeNoZero"], unfollowed := true, recurses := true, apart := false, narrowed := true }
def StoreReadUptoSaid : Prop := storeReadUptoRow.holds Try.pinned (OpenSpec.upto storeReadSpec)

/-- 'plugkeep.StoreWrite', WHERE WHAT IT READS IS OF BULK AT MOST 1048576: true; the input reads as it did. -/
def storeWriteUptoRow : OpenClaim := { program := "ytafiedhjjnapoaa", sum := "4de85137cf020277f0e8c45a85d3939d9158c06b3bacbfcb2562034cf67ac804", func := "plugtree/plugkeep.StoreWrite", spec := "storeWrite", inPlace := ["internal/abi.NoEscape", "internal/bytealg.MakeNoZero"], unfollowed := true, recurses := true, apart := false, narrowed := true }
def StoreWriteUptoSaid : Prop := storeWriteUptoRow.holds Try.pinned (OpenSpec.upto storeWriteSpec)

/-- 'plugkeep.StoreBack', WHERE WHAT IT READS IS OF BULK AT MOST 1048576: true; the input reads as it did. -/
def storeBackUptoRow : OpenClaim := { program := "ytafiedhjjnapoaa", sum := "4de85137cf020277f0e8c45a85d3939d9158c06b3bacbfcb2562034cf67ac804", func := "plugtree/plugkeep.StoreBack", spec := "storeBack", inPlace := ["internal/abi.NoEscape", "internal/bytealg.MakeNoZero"], unfollowed := true, recurses := true, apart := false, narrowed := true }
def StoreBackUptoSaid : Prop := storeBackUptoRow.holds Try.pinned (OpenSpec.upto storeBackSpec)

/-- 'plugkeep.StoreTwice', WHERE WHAT IT READS IS OF BULK AT MOST 1048576: true; the input reads as it did. -/
def storeTwiceUptoRow : OpenClaim := { program := "ytafiedhjjnapoaa", sum := "4de85137cf020277f0e8c45a85d3939d9158c06b3bacbfcb2562034cf67ac804", func := "plugtree/plugkeep.StoreTwice", spec := "storeTwice", inPlace := ["internal/abi.NoEscape", "internal/bytealg.MakeNoZero"], unfollowed := true, recurses := true, apart := false, narrowed := true }
def StoreTwiceUptoSaid : Prop := storeTwiceUptoRow.holds Try.pinned (OpenSpec.upto storeTwiceSpec)

/-- 'plugkeep.StoreWell', WHERE WHAT IT READS IS OF BULK AT MOST 1048576: true; the input reads as it did. -/
def storeWellUptoRow : OpenClaim := { program := "ytafiedhjjnapoaa", sum := "4de85137cf020277f0e8c45a85d3939d9158c06b3bacbfcb2562034cf67ac804", func := "plugtree/plugkeep.StoreWell", spec := "storeWell", inPlace := ["internal/abi.NoEscape", "internal/bytealg.MakeNoZero"], unfollowed := true, recurses := true, apart := false, narrowed := true }
def StoreWellUptoSaid : Prop := storeWellUptoRow.holds Try.pinned (OpenSpec.upto storeWellSpec)

/-- 'plugkeep.StoreUsed', WHERE WHAT IT READS IS OF BULK AT MOST 1048576: true; the input reads as it did. -/
def storeUsedUptoRow : OpenClaim := { program := "ytafiedhjjnapoaa", sum := "4de85137cf020277f0e8c45a85d3939d9158c06b3bacbfcb2562034cf67ac804", func := "plugtree/plugkeep.StoreUsed", spec := "storeUsed", inPlace := ["internal/abi.NoEscape", "internal/bytealg.MakeNoZero"], unfollowed := true, recurses := true, apart := false, narrowed := true }
def StoreUsedUptoSaid : Prop := storeUsedUptoRow.holds Try.pinned (OpenSpec.upto storeUsedSpec)

/-- 'plugkeep.StoreOwn', WHERE WHAT IT READS IS OF BULK AT MOST 1048576: true; the input reads as it did. -/
def storeOwnUptoRow : OpenClaim := { program := "ytafiedhjjnapoaa", sum := "4de85137cf020277f0e8c45a85d3939d9158c06b3bacbfcb2562034cf67ac804", func := "plugtree/plugkeep.StoreOwn", spec := "storeOwn", inPlace := ["internal/abi.NoEscape", "internal/bytealg.MakeNoZero"], unfollowed := true, recurses := true, apart := false, narrowed := true }
def StoreOwnUptoSaid : Prop := storeOwnUptoRow.holds Try.pinned (OpenSpec.upto storeOwnSpec)

end Rows
end Go.Proofs.Ytafiedhjjnapoaa
