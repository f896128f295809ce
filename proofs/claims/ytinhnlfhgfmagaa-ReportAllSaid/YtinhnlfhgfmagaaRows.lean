/-
  No cell of these rows narrows 'for every input' (looked for: loops, veiled, ifaces, maps, wideKeys, modest, calm, conditions, laid).
  DERIVED. THE GIVEN ROWS OF THIS SEAT. 6 by the template 'for every input the law returns true; each argument reads behind the call as it read before'; 0 by the template 'total and deterministic' (their statements: YtinhnlfhgfmagaaTotals.lean).
  GIVEN WITH THE SEED: the statements are not yours to turn. If you find one false, say at which input.
  Laid BY PROGRAM, IN A SANDBOX (cutbox-rows.mjs): the forced cells as the released guide's own fill.sh prints them over the translation f880d7b597e98e23… (all of the seat's roots in one cut). By AI agents, Wed Nov 11 2026. No macro, syntax, notation, axiom, sorry.
-/
import Derived.Test.YtinhnlfhgfmagaaChecked
import GoSem.Claim
import GoSem.ClaimJoined
import GoSem.ClaimMapViews
import Derived.JoinedTies
import Derived.KernelRfl
namespace Go.Proofs.Ytinhnlfhgfmagaa
/- THE CELL 'sum', in the pinned program and in every row, IS THE sha256 OF THE DUMP (.gsa) THAT YtinhnlfhgfmagaaProg.lean LOADS. Nothing in Lean hashes anything: it is a label: what it is worth is what the hold of that sum in a sandbox is worth. -/
noncomputable def Try.pinned : Pinned := { name := "ytinhnlfhgfmagaa", sum := "f880d7b597e98e23b6cb6bca8e07c9f0df611e65e5505101af44acacd39ecbd3", checked := Try.checked }
namespace Rows
def none {H : Type} : Left H := { results := [], args := [] }

/-- 'plugkeep.ReportTiles': WHATEVER THE INPUT: true; the input reads as it did. -/
def reportTilesSpec : ChangeSpec := { name := "reportTiles", fn := fun _ => fun
  | [d] => { results := [.lit (.bool true)], args := [d] }
  | _ => none }
def reportTilesRow : OpenClaim := { program := "ytinhnlfhgfmagaa", sum := "f880d7b597e98e23b6cb6bca8e07c9f0df611e65e5505101af44acacd39ecbd3", func := "plugtree/plugkeep.ReportTiles", spec := "reportTiles", apart := false }
def ReportTilesSaid : Prop := reportTilesRow.holds Try.pinned (OpenSpec.ofChange reportTilesSpec)

/-- ITS FALSE NEIGHBOUR: 'it returns false'. Refute it at one input. -/
def reportTilesWrong : ChangeSpec := { name := "reportTiles", fn := fun _ => fun
  | [d] => { results := [.lit (.bool false)], args := [d] }
  | _ => none }
def ReportTilesWrongFalsely : Prop := reportTilesRow.holds Try.pinned (OpenSpec.ofChange reportTilesWrong)

/-- 'plugkeep.ReportAside': WHATEVER THE INPUT: true; the input reads as it did. -/
def reportAsideSpec : ChangeSpec := { name := "reportAside", fn := fun _ => fun
  | [d1, d2, d3] => { results := [.lit (.bool true)], args := [d1, d2, d3] }
  | _ => none }
def reportAsideRow : OpenClaim := { program := "ytinhnlfhgfmagaa", sum := "f880d7b597e98e23b6cb6bca8e07c9f0df611e65e5505101af44acacd39ecbd3", func := "plugtree/plugkeep.ReportAside", spec := "reportAside", apart := false }
def ReportAsideSaid : Prop := reportAsideRow.holds Try.pinned (OpenSpec.ofChange reportAsideSpec)

/-- ITS FALSE NEIGHBOUR: 'it returns false'. Refute it at one input. -/
def reportAsideWrong : ChangeSpec := { name := "reportAside", fn := fun _ => fun
  | [d1, d2, d3] => { results := [.lit (.bool false)], args := [d1, d2, d3] }
  | _ => none }
def ReportAsideWrongFalsely : Prop := reportAsideRow.holds Try.pinned (OpenSpec.ofChange reportAsideWrong)

/-- 'plugkeep.ReportAll': WHATEVER THE INPUT: true; the input reads as it did. -/
def reportAllSpec : ChangeSpec := { name := "reportAll", fn := fun _ => fun
  | [d1, d2, d3] => { results := [.lit (.bool true)], args := [d1, d2, d3] }
  | _ => none }
def reportAllRow : OpenClaim := { program := "ytinhnlfhgfmagaa", sum := "f880d7b597e98e23b6cb6bca8e07c9f0df611e65e5505101af44acacd39ecbd3", func := "plugtree/plugkeep.ReportAll", spec := "reportAll", apart := false }
def ReportAllSaid : Prop := reportAllRow.holds Try.pinned (OpenSpec.ofChange reportAllSpec)

/-- ITS FALSE NEIGHBOUR: 'it returns false'. Refute it at one input. -/
def reportAllWrong : ChangeSpec := { name := "reportAll", fn := fun _ => fun
  | [d1, d2, d3] => { results := [.lit (.bool false)], args := [d1, d2, d3] }
  | _ => none }
def ReportAllWrongFalsely : Prop := reportAllRow.holds Try.pinned (OpenSpec.ofChange reportAllWrong)

/-- 'plugkeep.ReportBack': WHATEVER THE INPUT: true; the input reads as it did. -/
def reportBackSpec : ChangeSpec := { name := "reportBack", fn := fun _ => fun
  | [d1, d2] => { results := [.lit (.bool true)], args := [d1, d2] }
  | _ => none }
def reportBackRow : OpenClaim := { program := "ytinhnlfhgfmagaa", sum := "f880d7b597e98e23b6cb6bca8e07c9f0df611e65e5505101af44acacd39ecbd3", func := "plugtree/plugkeep.ReportBack", spec := "reportBack", apart := false }
def ReportBackSaid : Prop := reportBackRow.holds Try.pinned (OpenSpec.ofChange reportBackSpec)

/-- ITS FALSE NEIGHBOUR: 'it returns false'. Refute it at one input. -/
def reportBackWrong : ChangeSpec := { name := "reportBack", fn := fun _ => fun
  | [d1, d2] => { results := [.lit (.bool false)], args := [d1, d2] }
  | _ => none }
def ReportBackWrongFalsely : Prop := reportBackRow.holds Try.pinned (OpenSpec.ofChange reportBackWrong)

/-- 'plugkeep.ReportJoins': WHATEVER THE INPUT: true; the input reads as it did. -/
def reportJoinsSpec : ChangeSpec := { name := "reportJoins", fn := fun _ => fun
  | [d1, d2] => { results := [.lit (.bool true)], args := [d1, d2] }
  | _ => none }
def reportJoinsRow : OpenClaim := { program := "ytinhnlfhgfmagaa", sum := "f880d7b597e98e23b6cb6bca8e07c9f0df611e65e5505101af44acacd39ecbd3", func := "plugtree/plugkeep.ReportJoins", spec := "reportJoins", apart := false }
def ReportJoinsSaid : Prop := reportJoinsRow.holds Try.pinned (OpenSpec.ofChange reportJoinsSpec)

/-- ITS FALSE NEIGHBOUR: 'it returns false'. Refute it at one input. -/
def reportJoinsWrong : ChangeSpec := { name := "reportJoins", fn := fun _ => fun
  | [d1, d2] => { results := [.lit (.bool false)], args := [d1, d2] }
  | _ => none }
def ReportJoinsWrongFalsely : Prop := reportJoinsRow.holds Try.pinned (OpenSpec.ofChange reportJoinsWrong)

/-- 'plugkeep.ReportBits': WHATEVER THE INPUT: true; the input reads as it did. -/
def reportBitsSpec : ChangeSpec := { name := "reportBits", fn := fun _ => fun
  | [d1, d2, d3, d4] => { results := [.lit (.bool true)], args := [d1, d2, d3, d4] }
  | _ => none }
def reportBitsRow : OpenClaim := { program := "ytinhnlfhgfmagaa", sum := "f880d7b597e98e23b6cb6bca8e07c9f0df611e65e5505101af44acacd39ecbd3", func := "plugtree/plugkeep.ReportBits", spec := "reportBits", apart := false }
def ReportBitsSaid : Prop := reportBitsRow.holds Try.pinned (OpenSpec.ofChange reportBitsSpec)

/-- ITS FALSE NEIGHBOUR: 'it returns false'. Refute it at one input. -/
def reportBitsWrong : ChangeSpec := { name := "reportBits", fn := fun _ => fun
  | [d1, d2, d3, d4] => { results := [.lit (.bool false)], args := [d1, d2, d3, d4] }
  | _ => none }
def ReportBitsWrongFalsely : Prop := reportBitsRow.holds Try.pinned (OpenSpec.ofChange reportBitsWrong)

/- THE SECOND FORM. 'bulk': how many values and letters a reading holds, each counted each time it is reached (what is shared counts as often as it is met; a slice's spare places count too). A statement '..UptoSaid' is the law's where the arguments, and the package variables that the reading takes, are together of bulk at most 1048576: NARROWER than '..Said'. Prove '..Said' where nothing that the law and all that it calls make is longer than what came in: it says more and counts as full. Else prove '..UptoSaid'. A law counts once. -/
mutual
def uptoBulk {H : Type} : DataW H → Nat
  | .lit (.string bytes) => bytes.length + 1
  | .lit _ => 1
  | .nil => 1
  | .ptr d => uptoBulk d + 1
  | .slice elems spare => uptoBulkAll elems + uptoBulkAll spare + 1
  | .agg parts => uptoBulkAll parts + 1
  | .iface _ d => uptoBulk d + 1
  | .map entries => uptoBulkEntries entries + 1
  | .held _ => 1
def uptoBulkAll {H : Type} : List (DataW H) → Nat
  | [] => 0
  | d :: r => uptoBulk d + uptoBulkAll r
def uptoBulkEntries {H : Type} : List (Lit × DataW H) → Nat
  | [] => 0
  | x :: r => uptoBulkEntry x + uptoBulkEntries r
def uptoBulkEntry {H : Type} : Lit × DataW H → Nat
  | (.string bytes, d) => bytes.length + uptoBulk d + 1
  | (_, d) => uptoBulk d + 1
 end
def uptoSmall : (H : Type) → List (DataW H) → Bool := fun _ ds => decide (uptoBulkAll ds ≤ 1048576)
def OpenSpec.upto (s : _root_.Go.ChangeSpec) : _root_.Go.OpenSpec := { _root_.Go.OpenSpec.ofChange s with cond := some uptoSmall }

/-- 'plugkeep.ReportTiles', WHERE WHAT IT READS IS OF BULK AT MOST 1048576: true; the input reads as it did. -/
def reportTilesUptoRow : OpenClaim := { program := "ytinhnlfhgfmagaa", sum := "f880d7b597e98e23b6cb6bca8e07c9f0df611e65e5505101af44acacd39ecbd3", func := "plugtree/plugkeep.ReportTiles", spec := "reportTiles", apart := false, narrowed := true }
def ReportTilesUptoSaid : Prop := reportTilesUptoRow.holds Try.pinned (OpenSpec.upto reportTilesSpec)

/-- 'plugkeep.ReportAside', WHERE WHAT IT READS IS OF BULK AT MOST 1048576: true; the input reads as it did. -/
def reportAsideUptoRow : OpenClaim := { program := "ytinhnlfhgfmagaa", sum := "f880d7b597e98e23b6cb6bca8e07c9f0df611e65e5505101af44acacd39ecbd3", func := "plugtree/plugkeep.ReportAside", spec := "reportAside", apart := false, narrowed := true }
def ReportAsideUptoSaid : Prop := reportAsideUptoRow.holds Try.pinned (OpenSpec.upto reportAsideSpec)

/-- 'plugkeep.ReportAll', WHERE WHAT IT READS IS OF BULK AT MOST 1048576: true; the input reads as it did. -/
def reportAllUptoRow : OpenClaim := { program := "ytinhnlfhgfmagaa", sum := "f880d7b597e98e23b6cb6bca8e07c9f0df611e65e5505101af44acacd39ecbd3", func := "plugtree/plugkeep.ReportAll", spec := "reportAll", apart := false, narrowed := true }
def ReportAllUptoSaid : Prop := reportAllUptoRow.holds Try.pinned (OpenSpec.upto reportAllSpec)

/-- 'plugkeep.ReportBack', WHERE WHAT IT READS IS OF BULK AT MOST 1048576: true; the input reads as it did. -/
def reportBackUptoRow : OpenClaim := { program := "ytinhnlfhgfmagaa", sum := "f880d7b597e98e23b6cb6bca8e07c9f0df611e65e5505101af44acacd39ecbd3", func := "plugtree/plugkeep.ReportBack", spec := "reportBack", apart := false, narrowed := true }
def ReportBackUptoSaid : Prop := reportBackUptoRow.holds Try.pinned (OpenSpec.upto reportBackSpec)

/-- 'plugkeep.ReportJoins', WHERE WHAT IT READS IS OF BULK AT MOST 1048576: true; the input reads as it did. -/
def reportJoinsUptoRow : OpenClaim := { program := "ytinhnlfhgfmagaa", sum := "f880d7b597e98e23b6cb6bca8e07c9f0df611e65e5505101af44acacd39ecbd3", func := "plugtree/plugkeep.ReportJoins", spec := "reportJoins", apart := false, narrowed := true }
def ReportJoinsUptoSaid : Prop := reportJoinsUptoRow.holds Try.pinned (OpenSpec.upto reportJoinsSpec)

/-- 'plugkeep.ReportBits', WHERE WHAT IT READS IS OF BULK AT MOST 1048576: true; the input reads as it did. -/
def reportBitsUptoRow : OpenClaim := { program := "ytinhnlfhgfmagaa", sum := "f880d7b597e98e23b6cb6bca8e07c9f0df611e65e5505101af44acacd39ecbd3", func := "plugtree/plugkeep.ReportBits", spec := "reportBits", apart := false, narrowed := true }
def ReportBitsUptoSaid : Prop := reportBitsUptoRow.holds Try.pinned (OpenSpec.upto reportBitsSpec)

end Rows
end Go.Proofs.Ytinhnlfhgfmagaa
