/-
  No cell of these rows narrows 'for every input' (looked for: loops, veiled, ifaces, maps, wideKeys, modest, calm, conditions, laid).
  DERIVED. THE GIVEN ROWS OF THIS SEAT. 6 by the template 'for every input the law returns true; each argument reads behind the call as it read before'; 0 by the template 'total and deterministic' (their statements: YtdckakjfplhanaaTotals.lean).
  GIVEN WITH THE SEED: the statements are not yours to turn. If you find one false, say at which input.
  Laid BY PROGRAM, IN A SANDBOX (cutbox-rows.mjs): the forced cells as the released guide's own fill.sh prints them over the translation 03a005f5efb58990… (all of the seat's roots in one cut). By AI agents, Wed Nov 11 2026. No macro, syntax, notation, axiom, sorry.
-/
import Derived.Test.YtdckakjfplhanaaChecked
import GoSem.Claim
import GoSem.ClaimJoined
import GoSem.ClaimMapViews
import Derived.JoinedTies
import Derived.KernelRfl
namespace Go.Proofs.Ytdckakjfplhanaa
/- THE CELL 'sum', in the pinned program and in every row, IS THE sha256 OF THE DUMP (.gsa) THAT YtdckakjfplhanaaProg.lean LOADS. Nothing in Lean hashes anything: it is a label: what it is worth is what the hold of that sum in a sandbox is worth. -/
noncomputable def Try.pinned : Pinned := { name := "ytdckakjfplhanaa", sum := "03a005f5efb5899046dc67543c46b13536d4ddc0d9d6bea9c425670a443bad3a", checked := Try.checked }
namespace Rows
def none {H : Type} : Left H := { results := [], args := [] }

/-- 'plugkeep.ArenaLeast': WHATEVER THE INPUT: true; the input reads as it did. -/
def arenaLeastSpec : ChangeSpec := { name := "arenaLeast", fn := fun _ => fun
  | [d1, d2, d3, d4] => { results := [.lit (.bool true)], args := [d1, d2, d3, d4] }
  | _ => none }
def arenaLeastRow : OpenClaim := { program := "ytdckakjfplhanaa", sum := "03a005f5efb5899046dc67543c46b13536d4ddc0d9d6bea9c425670a443bad3a", func := "plugtree/plugkeep.ArenaLeast", spec := "arenaLeast", inPlace := ["slices.overlaps[plugtree/api.Span]"], unfollowed := true, recurses := true, apart := false }
def ArenaLeastSaid : Prop := arenaLeastRow.holds Try.pinned (OpenSpec.ofChange arenaLeastSpec)

/-- ITS FALSE NEIGHBOUR: 'it returns false'. Refute it at one input. -/
def arenaLeastWrong : ChangeSpec := { name := "arenaLeast", fn := fun _ => fun
  | [d1, d2, d3, d4] => { results := [.lit (.bool false)], args := [d1, d2, d3, d4] }
  | _ => none }
def ArenaLeastWrongFalsely : Prop := arenaLeastRow.holds Try.pinned (OpenSpec.ofChange arenaLeastWrong)

/-- 'plugkeep.ArenaBack': WHATEVER THE INPUT: true; the input reads as it did. -/
def arenaBackSpec : ChangeSpec := { name := "arenaBack", fn := fun _ => fun
  | [d1, d2, d3] => { results := [.lit (.bool true)], args := [d1, d2, d3] }
  | _ => none }
def arenaBackRow : OpenClaim := { program := "ytdckakjfplhanaa", sum := "03a005f5efb5899046dc67543c46b13536d4ddc0d9d6bea9c425670a443bad3a", func := "plugtree/plugkeep.ArenaBack", spec := "arenaBack", inPlace := ["slices.overlaps[plugtree/api.Span]"], unfollowed := true, recurses := true, apart := false }
def ArenaBackSaid : Prop := arenaBackRow.holds Try.pinned (OpenSpec.ofChange arenaBackSpec)

/-- ITS FALSE NEIGHBOUR: 'it returns false'. Refute it at one input. -/
def arenaBackWrong : ChangeSpec := { name := "arenaBack", fn := fun _ => fun
  | [d1, d2, d3] => { results := [.lit (.bool false)], args := [d1, d2, d3] }
  | _ => none }
def ArenaBackWrongFalsely : Prop := arenaBackRow.holds Try.pinned (OpenSpec.ofChange arenaBackWrong)

/-- 'plugkeep.ArenaOwn': WHATEVER THE INPUT: true; the input reads as it did. -/
def arenaOwnSpec : ChangeSpec := { name := "arenaOwn", fn := fun _ => fun
  | [d1, d2, d3, d4] => { results := [.lit (.bool true)], args := [d1, d2, d3, d4] }
  | _ => none }
def arenaOwnRow : OpenClaim := { program := "ytdckakjfplhanaa", sum := "03a005f5efb5899046dc67543c46b13536d4ddc0d9d6bea9c425670a443bad3a", func := "plugtree/plugkeep.ArenaOwn", spec := "arenaOwn", inPlace := ["slices.overlaps[plugtree/api.Span]"], unfollowed := true, recurses := true, apart := false }
def ArenaOwnSaid : Prop := arenaOwnRow.holds Try.pinned (OpenSpec.ofChange arenaOwnSpec)

/-- ITS FALSE NEIGHBOUR: 'it returns false'. Refute it at one input. -/
def arenaOwnWrong : ChangeSpec := { name := "arenaOwn", fn := fun _ => fun
  | [d1, d2, d3, d4] => { results := [.lit (.bool false)], args := [d1, d2, d3, d4] }
  | _ => none }
def ArenaOwnWrongFalsely : Prop := arenaOwnRow.holds Try.pinned (OpenSpec.ofChange arenaOwnWrong)

/-- 'plugkeep.ArenaCount': WHATEVER THE INPUT: true; the input reads as it did. -/
def arenaCountSpec : ChangeSpec := { name := "arenaCount", fn := fun _ => fun
  | [d1, d2, d3, d4] => { results := [.lit (.bool true)], args := [d1, d2, d3, d4] }
  | _ => none }
def arenaCountRow : OpenClaim := { program := "ytdckakjfplhanaa", sum := "03a005f5efb5899046dc67543c46b13536d4ddc0d9d6bea9c425670a443bad3a", func := "plugtree/plugkeep.ArenaCount", spec := "arenaCount", inPlace := ["slices.overlaps[plugtree/api.Span]"], unfollowed := true, recurses := true, apart := false }
def ArenaCountSaid : Prop := arenaCountRow.holds Try.pinned (OpenSpec.ofChange arenaCountSpec)

/-- ITS FALSE NEIGHBOUR: 'it returns false'. Refute it at one input. -/
def arenaCountWrong : ChangeSpec := { name := "arenaCount", fn := fun _ => fun
  | [d1, d2, d3, d4] => { results := [.lit (.bool false)], args := [d1, d2, d3, d4] }
  | _ => none }
def ArenaCountWrongFalsely : Prop := arenaCountRow.holds Try.pinned (OpenSpec.ofChange arenaCountWrong)

/-- 'plugkeep.ArenaAll': WHATEVER THE INPUT: true; the input reads as it did. -/
def arenaAllSpec : ChangeSpec := { name := "arenaAll", fn := fun _ => fun
  | [d1, d2] => { results := [.lit (.bool true)], args := [d1, d2] }
  | _ => none }
def arenaAllRow : OpenClaim := { program := "ytdckakjfplhanaa", sum := "03a005f5efb5899046dc67543c46b13536d4ddc0d9d6bea9c425670a443bad3a", func := "plugtree/plugkeep.ArenaAll", spec := "arenaAll", inPlace := ["slices.overlaps[plugtree/api.Span]"], unfollowed := true, recurses := true, apart := false }
def ArenaAllSaid : Prop := arenaAllRow.holds Try.pinned (OpenSpec.ofChange arenaAllSpec)

/-- ITS FALSE NEIGHBOUR: 'it returns false'. Refute it at one input. -/
def arenaAllWrong : ChangeSpec := { name := "arenaAll", fn := fun _ => fun
  | [d1, d2] => { results := [.lit (.bool false)], args := [d1, d2] }
  | _ => none }
def ArenaAllWrongFalsely : Prop := arenaAllRow.holds Try.pinned (OpenSpec.ofChange arenaAllWrong)

/-- 'plugkeep.ArenaRight': WHATEVER THE INPUT: true; the input reads as it did. -/
def arenaRightSpec : ChangeSpec := { name := "arenaRight", fn := fun _ => fun
  | [d1, d2, d3, d4] => { results := [.lit (.bool true)], args := [d1, d2, d3, d4] }
  | _ => none }
def arenaRightRow : OpenClaim := { program := "ytdckakjfplhanaa", sum := "03a005f5efb5899046dc67543c46b13536d4ddc0d9d6bea9c425670a443bad3a", func := "plugtree/plugkeep.ArenaRight", spec := "arenaRight", inPlace := ["slices.overlaps[plugtree/api.Span]"], unfollowed := true, recurses := true, apart := false }
def ArenaRightSaid : Prop := arenaRightRow.holds Try.pinned (OpenSpec.ofChange arenaRightSpec)

/-- ITS FALSE NEIGHBOUR: 'it returns false'. Refute it at one input. -/
def arenaRightWrong : ChangeSpec := { name := "arenaRight", fn := fun _ => fun
  | [d1, d2, d3, d4] => { results := [.lit (.bool false)], args := [d1, d2, d3, d4] }
  | _ => none }
def ArenaRightWrongFalsely : Prop := arenaRightRow.holds Try.pinned (OpenSpec.ofChange arenaRightWrong)

/- THE SECOND FORM. 'bulk': how many values and letters a reading holds, each counted each time it is reached (what is shared counts as often as it is met; a slice's spare places count too). A statement '..UptoSaid' is the law's where the arguments, and the package variables that the reading takes, are together of bulk at most 1048576: NARROWER than '..Said'. Prove '..Said' where nothing that the law and all that it calls make is longer than what came in: it says more and counts as full. Else prove '..UptoSaid'. A law counts once. -/
mutual
def uptoBulk {H : Type} : DataW H → Nat
  | .lit (.string bytes) => bytes.length + 1
  | .lit _ => 1
  | .nil => 1
  | .ptr d => uptoBulk d + 1
  | .slice elems spare => uptoBulkAll elems + uptoBulkAll spare + 1
  | .agg parts => uptoBulkAll parts + 1
  | .iface _ d => uptoBulk d + 1
  | .map entries => uptoBulkEntries entries + 1
  | .held _ => 1
def uptoBulkAll {H : Type} : List (DataW H) → Nat
  | [] => 0
  | d :: r => uptoBulk d + uptoBulkAll r
def uptoBulkEntries {H : Type} : List (Lit × DataW H) → Nat
  | [] => 0
  | x :: r => uptoBulkEntry x + uptoBulkEntries r
def uptoBulkEntry {H : Type} : Lit × DataW H → Nat
  | (.string bytes, d) => bytes.length + uptoBulk d + 1
  | (_, d) => uptoBulk d + 1
 end
def uptoSmall : (H : Type) → List (DataW H) → Bool := fun _ ds => decide (uptoBulkAll ds ≤ 1048576)
def OpenSpec.upto (s : _root_.Go.ChangeSpec) : _root_.Go.OpenSpec := { _root_.Go.OpenSpec.ofChange s with cond := some uptoSmall }

/-- 'plugkeep.ArenaLeast', WHERE WHAT IT READS IS OF BULK AT MOST 1048576: true; the input reads as it did. -/
def arenaLeastUptoRow : OpenClaim := { program := "ytdckakjfplhanaa", sum := "03a005f5efb5899046dc67543c46b13536d4ddc0d9d6bea9c425670a443bad3a", func := "plugtree/plugkeep.ArenaLeast", spec := "arenaLeast", inPlace := ["slices.overlaps[plugtree/api.Span]"], unfollowed := true, recurses := true, apart := false, narrowed := true }
def ArenaLeastUptoSaid : Prop := arenaLeastUptoRow.holds Try.pinned (OpenSpec.upto arenaLeastSpec)

/-- 'plugkeep.ArenaBack', WHERE WHAT IT READS IS OF BULK AT MOST 1048576: true; the input reads as it did. -/
def arenaBackUptoRow : OpenClaim := { program := "ytdckakjfplhanaa", sum := "03a005f5efb5899046dc67543c46b13536d4ddc0d9d6bea9c425670a443bad3a", func := "plugtree/plugkeep.ArenaBack", spec := "arenaBack", inPlace := ["slices.overlaps[plugtree/api.Span]"], unfollowed := true, recurses := true, apart := false, narrowed := true }
def ArenaBackUptoSaid : Prop := arenaBackUptoRow.holds Try.pinned (OpenSpec.upto arenaBackSpec)

/-- 'plugkeep.ArenaOwn', WHERE WHAT IT READS IS OF BULK AT MOST 1048576: true; the input reads as it did. -/
def arenaOwnUptoRow : OpenClaim := { program := "ytdckakjfplhanaa", sum := "03a005f5efb5899046dc67543c46b13536d4ddc0d9d6bea9c425670a443bad3a", func := "plugtree/plugkeep.ArenaOwn", spec := "arenaOwn", inPlace := ["slices.overlaps[plugtree/api.Span]"], unfollowed := true, recurses := true, apart := false, narrowed := true }
def ArenaOwnUptoSaid : Prop := arenaOwnUptoRow.holds Try.pinned (OpenSpec.upto arenaOwnSpec)

/-- 'plugkeep.ArenaCount', WHERE WHAT IT READS IS OF BULK AT MOST 1048576: true; the input reads as it did. -/
def arenaCountUptoRow : OpenClaim := { program := "ytdckakjfplhanaa", sum := "03a005f5efb5899046dc67543c46b13536d4ddc0d9d6bea9c425670a443bad3a", func := "plugtree/plugkeep.ArenaCount", spec := "arenaCount", inPlace := ["slices.overlaps[plugtree/api.Span]"], unfollowed := true, recurses := true, apart := false, narrowed := true }
def ArenaCountUptoSaid : Prop := arenaCountUptoRow.holds Try.pinned (OpenSpec.upto arenaCountSpec)

/-- 'plugkeep.ArenaAll', WHERE WHAT IT READS IS OF BULK AT MOST 1048576: true; the input reads as it did. -/
def arenaAllUptoRow : OpenClaim := { program := "ytdckakjfplhanaa", sum := "03a005f5efb5899046dc67543c46b13536d4ddc0d9d6bea9c425670a443bad3a", func := "plugtree/plugkeep.ArenaAll", spec := "arenaAll", inPlace := ["slices.overlaps[plugtree/api.Span]"], unfollowed := true, recurses := true, apart := false, narrowed := true }
def ArenaAllUptoSaid : Prop := arenaAllUptoRow.holds Try.pinned (OpenSpec.upto arenaAllSpec)

/-- 'plugkeep.ArenaRight', WHERE WHAT IT READS IS OF BULK AT MOST 1048576: true; the input reads as it did. -/
def arenaRightUptoRow : OpenClaim := { program := "ytdckakjfplhanaa", sum := "03a005f5efb5899046dc67543c46b13536d4ddc0d9d6bea9c425670a443bad3a", func := "plugtree/plugkeep.ArenaRight", spec := "arenaRight", inPlace := ["slices.overlaps[plugtree/api.Span]"], unfollowed := true, recurses := true, apart := false, narrowed := true }
def ArenaRightUptoSaid : Prop := arenaRightUptoRow.holds Try.pinned (OpenSpec.upto arenaRightSpec)

end Rows
end Go.Proofs.Ytdckakjfplhanaa
