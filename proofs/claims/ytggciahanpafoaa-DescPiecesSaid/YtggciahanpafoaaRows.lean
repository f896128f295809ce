/-
  No cell of these rows narrows 'for every input' (looked for: loops, veiled, ifaces, maps, wideKeys, modest, calm, conditions, laid).
  DERIVED. THE GIVEN ROWS OF THIS SEAT. 7 by the template 'for every input the law returns true; each argument reads behind the call as it read before'; 0 by the template 'total and deterministic' (their statements: YtggciahanpafoaaTotals.lean).
  GIVEN WITH THE SEED: the statements are not yours to turn. If you find one false, say at which input.
  Laid BY PROGRAM, IN A SANDBOX (cutbox-rows.mjs): the forced cells as the released guide's own fill.sh prints them over the translation 2c3d70346c8d8409… (all of the seat's roots in one cut). By AI agents, Wed Nov 11 2026. No macro, syntax, notation, axiom, sorry.
-/
import Derived.Test.YtggciahanpafoaaChecked
import GoSem.Claim
import GoSem.ClaimJoined
import GoSem.ClaimMapViews
import Derived.JoinedTies
import Derived.KernelRfl
namespace Go.Proofs.Ytggciahanpafoaa
/- THE CELL 'sum', in the pinned program and in every row, IS THE sha256 OF THE DUMP (.gsa) THAT YtggciahanpafoaaProg.lean LOADS. Nothing in Lean hashes anything: it is a label: what it is worth is what the hold of that sum in a sandbox is worth. -/
noncomputable def Try.pinned : Pinned := { name := "ytggciahanpafoaa", sum := "2c3d70346c8d84096840a9ed469d89bfcc79644a50d3f44c76910c53d98a383e", checked := Try.checked }
namespace Rows
def none {H : Type} : Left H := { results := [], args := [] }

/-- 'plugkeep.DescNames': WHATEVER THE INPUT: true; the input reads as it did. -/
def descNamesSpec : ChangeSpec := { name := "descNames", fn := fun _ => fun
  | [d1, d2] => { results := [.lit (.bool true)], args := [d1, d2] }
  | _ => none }
def descNamesRow : OpenClaim := { program := "ytggciahanpafoaa", sum := "2c3d70346c8d84096840a9ed469d89bfcc79644a50d3f44c76910c53d98a383e", func := "plugtree/plugkeep.DescNames", spec := "descNames", unfollowed := true, recurses := true, plainKeys := false, apart := false }
def DescNamesSaid : Prop := descNamesRow.holds Try.pinned (OpenSpec.ofChange descNamesSpec)

/-- ITS FALSE NEIGHBOUR: 'it returns false'. Refute it at one input. -/
def descNamesWrong : ChangeSpec := { name := "descNames", fn := fun _ => fun
  | [d1, d2] => { results := [.lit (.bool false)], args := [d1, d2] }
  | _ => none }
def DescNamesWrongFalsely : Prop := descNamesRow.holds Try.pinned (OpenSpec.ofChange descNamesWrong)

/-- 'plugkeep.DescPieces': WHATEVER THE INPUT: true; the input reads as it did. -/
def descPiecesSpec : ChangeSpec := { name := "descPieces", fn := fun _ => fun
  | [d] => { results := [.lit (.bool true)], args := [d] }
  | _ => none }
def descPiecesRow : OpenClaim := { program := "ytggciahanpafoaa", sum := "2c3d70346c8d84096840a9ed469d89bfcc79644a50d3f44c76910c53d98a383e", func := "plugtree/plugkeep.DescPieces", spec := "descPieces", inPlace := ["internal/abi.NoEscape", "internal/bytealg.MakeNoZero"], plainKeys := false, apart := false }
def DescPiecesSaid : Prop := descPiecesRow.holds Try.pinned (OpenSpec.ofChange descPiecesSpec)

/-- ITS FALSE NEIGHBOUR: 'it returns false'. Refute it at one input. -/
def descPiecesWrong : ChangeSpec := { name := "descPieces", fn := fun _ => fun
  | [d] => { results := [.lit (.bool false)], args := [d] }
  | _ => none }
def DescPiecesWrongFalsely : Prop := descPiecesRow.holds Try.pinned (OpenSpec.ofChange descPiecesWrong)

/-- 'plugkeep.DescLong': WHATEVER THE INPUT: true; the input reads as it did. -/
def descLongSpec : ChangeSpec := { name := "descLong", fn := fun _ => fun
  | [d] => { results := [.lit (.bool true)], args := [d] }
  | _ => none }
def descLongRow : OpenClaim := { program := "ytggciahanpafoaa", sum := "2c3d70346c8d84096840a9ed469d89bfcc79644a50d3f44c76910c53d98a383e", func := "plugtree/plugkeep.DescLong", spec := "descLong", inPlace := ["internal/abi.NoEscape", "internal/bytealg.MakeNoZero"], plainKeys := false, apart := false }
def DescLongSaid : Prop := descLongRow.holds Try.pinned (OpenSpec.ofChange descLongSpec)

/-- ITS FALSE NEIGHBOUR: 'it returns false'. Refute it at one input. -/
def descLongWrong : ChangeSpec := { name := "descLong", fn := fun _ => fun
  | [d] => { results := [.lit (.bool false)], args := [d] }
  | _ => none }
def DescLongWrongFalsely : Prop := descLongRow.holds Try.pinned (OpenSpec.ofChange descLongWrong)

/-- 'plugkeep.DescCut': WHATEVER THE INPUT: true; the input reads as it did. -/
def descCutSpec : ChangeSpec := { name := "descCut", fn := fun _ => fun
  | [d1, d2] => { results := [.lit (.bool true)], args := [d1, d2] }
  | _ => none }
def descCutRow : OpenClaim := { program := "ytggciahanpafoaa", sum := "2c3d70346c8d84096840a9ed469d89bfcc79644a50d3f44c76910c53d98a383e", func := "plugtree/plugkeep.DescCut", spec := "descCut", inPlace := ["internal/abi.NoEscape", "internal/bytealg.MakeNoZero"], unfollowed := true, recurses := true, plainKeys := false, apart := false }
def DescCutSaid : Prop := descCutRow.holds Try.pinned (OpenSpec.ofChange descCutSpec)

/-- ITS FALSE NEIGHBOUR: 'it returns false'. Refute it at one input. -/
def descCutWrong : ChangeSpec := { name := "descCut", fn := fun _ => fun
  | [d1, d2] => { results := [.lit (.bool false)], args := [d1, d2] }
  | _ => none }
def DescCutWrongFalsely : Prop := descCutRow.holds Try.pinned (OpenSpec.ofChange descCutWrong)

/-- 'plugkeep.DescOwn': WHATEVER THE INPUT: true; the input reads as it did. -/
def descOwnSpec : ChangeSpec := { name := "descOwn", fn := fun _ => fun
  | [d] => { results := [.lit (.bool true)], args := [d] }
  | _ => none }
def descOwnRow : OpenClaim := { program := "ytggciahanpafoaa", sum := "2c3d70346c8d84096840a9ed469d89bfcc79644a50d3f44c76910c53d98a383e", func := "plugtree/plugkeep.DescOwn", spec := "descOwn", inPlace := ["internal/abi.NoEscape", "internal/bytealg.MakeNoZero"], unfollowed := true, recurses := true, plainKeys := false, apart := false }
def DescOwnSaid : Prop := descOwnRow.holds Try.pinned (OpenSpec.ofChange descOwnSpec)

/-- ITS FALSE NEIGHBOUR: 'it returns false'. Refute it at one input. -/
def descOwnWrong : ChangeSpec := { name := "descOwn", fn := fun _ => fun
  | [d] => { results := [.lit (.bool false)], args := [d] }
  | _ => none }
def DescOwnWrongFalsely : Prop := descOwnRow.holds Try.pinned (OpenSpec.ofChange descOwnWrong)

/-- 'plugkeep.DescBack': WHATEVER THE INPUT: true; the input reads as it did. -/
def descBackSpec : ChangeSpec := { name := "descBack", fn := fun _ => fun
  | [d1, d2] => { results := [.lit (.bool true)], args := [d1, d2] }
  | _ => none }
def descBackRow : OpenClaim := { program := "ytggciahanpafoaa", sum := "2c3d70346c8d84096840a9ed469d89bfcc79644a50d3f44c76910c53d98a383e", func := "plugtree/plugkeep.DescBack", spec := "descBack", inPlace := ["internal/abi.NoEscape", "internal/bytealg.MakeNoZero"], unfollowed := true, recurses := true, plainKeys := false, apart := false }
def DescBackSaid : Prop := descBackRow.holds Try.pinned (OpenSpec.ofChange descBackSpec)

/-- ITS FALSE NEIGHBOUR: 'it returns false'. Refute it at one input. -/
def descBackWrong : ChangeSpec := { name := "descBack", fn := fun _ => fun
  | [d1, d2] => { results := [.lit (.bool false)], args := [d1, d2] }
  | _ => none }
def DescBackWrongFalsely : Prop := descBackRow.holds Try.pinned (OpenSpec.ofChange descBackWrong)

/-- 'plugkeep.DescOne': WHATEVER THE INPUT: true; the input reads as it did. -/
def descOneSpec : ChangeSpec := { name := "descOne", fn := fun _ => fun
  | [d1, d2] => { results := [.lit (.bool true)], args := [d1, d2] }
  | _ => none }
def descOneRow : OpenClaim := { program := "ytggciahanpafoaa", sum := "2c3d70346c8d84096840a9ed469d89bfcc79644a50d3f44c76910c53d98a383e", func := "plugtree/plugkeep.DescOne", spec := "descOne", inPlace := ["internal/abi.NoEscape", "internal/bytealg.MakeNoZero"], unfollowed := true, recurses := true, plainKeys := false, apart := false }
def DescOneSaid : Prop := descOneRow.holds Try.pinned (OpenSpec.ofChange descOneSpec)

/-- ITS FALSE NEIGHBOUR: 'it returns false'. Refute it at one input. -/
def descOneWrong : ChangeSpec := { name := "descOne", fn := fun _ => fun
  | [d1, d2] => { results := [.lit (.bool false)], args := [d1, d2] }
  | _ => none }
def DescOneWrongFalsely : Prop := descOneRow.holds Try.pinned (OpenSpec.ofChange descOneWrong)

/- THE SECOND FORM. 'bulk': how many values and letters a reading holds, each counted each time it is reached (what is shared counts as often as it is met; a slice's spare places count too). A statement '..UptoSaid' is the law's where the arguments, and the package variables that the reading takes, are together of bulk at most 1048576: NARROWER than '..Said'. Prove '..Said' where nothing that the law and all that it calls make is longer than what came in: it says more and counts as full. Else prove '..UptoSaid'. A law counts once. -/
mutual
def uptoBulk {H : Type} : DataW H → Nat
  | .lit (.string bytes) => bytes.length + 1
  | .lit _ => 1
  | .nil => 1
  | .ptr d => uptoBulk d + 1
  | .slice elems spare => uptoBulkAll elems + uptoBulkAll spare + 1
  | .agg parts => uptoBulkAll parts + 1
  | .iface _ d => uptoBulk d + 1
  | .map entries => uptoBulkEntries entries + 1
  | .held _ => 1
def uptoBulkAll {H : Type} : List (DataW H) → Nat
  | [] => 0
  | d :: r => uptoBulk d + uptoBulkAll r
def uptoBulkEntries {H : Type} : List (Lit × DataW H) → Nat
  | [] => 0
  | x :: r => uptoBulkEntry x + uptoBulkEntries r
def uptoBulkEntry {H : Type} : Lit × DataW H → Nat
  | (.string bytes, d) => bytes.length + uptoBulk d + 1
  | (_, d) => uptoBulk d + 1
 end
def uptoSmall : (H : Type) → List (DataW H) → Bool := fun _ ds => decide (uptoBulkAll ds ≤ 1048576)
def OpenSpec.upto (s : _root_.Go.ChangeSpec) : _root_.Go.OpenSpec := { _root_.Go.OpenSpec.ofChange s with cond := some uptoSmall }

/-- 'plugkeep.DescNames', WHERE WHAT IT READS IS OF BULK AT MOST 1048576: true; the input reads as it did. -/
def descNamesUptoRow : OpenClaim := { program := "ytggciahanpafoaa", sum := "2c3d70346c8d84096840a9ed469d89bfcc79644a50d3f44c76910c53d98a383e", func := "plugtree/plugkeep.DescNames", spec := "descNames", unfollowed := true, recurses := true, plainKeys := false, apart := false, narrowed := true }
def DescNamesUptoSaid : Prop := descNamesUptoRow.holds Try.pinned (OpenSpec.upto descNamesSpec)

/-- 'plugkeep.DescPieces', WHERE WHAT IT READS IS OF BULK AT MOST 1048576: true; the input reads as it did. -/
def descPiecesUptoRow : OpenClaim := { program := "ytggciahanpafoaa", sum := "2c3d70346c8d84096840a9ed469d89bfcc79644a50d3f44c76910c53d98a383e", func := "plugtree/plugkeep.DescPieces", spec := "descPieces", inPlace := ["internal/abi.NoEscape", "internal/bytealg.MakeNoZero"], plainKeys := false, apart := false, narrowed := true }
def DescPiecesUptoSaid : Prop := descPiecesUptoRow.holds Try.pinned (OpenSpec.upto descPiecesSpec)

/-- 'plugkeep.DescLong', WHERE WHAT IT READS IS OF BULK AT MOST 1048576: true; the input reads as it did. -/
def descLongUptoRow : OpenClaim := { program := "ytggciahanpafoaa", sum := "2c3d70346c8d84096840a9ed469d89bfcc79644a50d3f44c76910c53d98a383e", func := "plugtree/plugkeep.DescLong", spec := "descLong", inPlace := ["internal/abi.NoEscape", "internal/bytealg.MakeNoZero"], plainKeys := false, apart := false, narrowed := true }
def DescLongUptoSaid : Prop := descLongUptoRow.holds Try.pinned (OpenSpec.upto descLongSpec)

/-- 'plugkeep.DescCut', WHERE WHAT IT READS IS OF BULK AT MOST 1048576: true; the input reads as it did. -/
def descCutUptoRow : OpenClaim := { program := "ytggciahanpafoaa", sum := "2c3d70346c8d84096840a9ed469d89bfcc79644a50d3f44c76910c53d98a383e", func := "plugtree/plugkeep.DescCut", spec := "descCut", inPlace := ["internal/abi.NoEscape", "internal/bytealg.MakeNoZero"], unfollowed := true, recurses := true, plainKeys := false, apart := false, narrowed := true }
def DescCutUptoSaid : Prop := descCutUptoRow.holds Try.pinned (OpenSpec.upto descCutSpec)

/-- 'plugkeep.DescOwn', WHERE WHAT IT READS IS OF BULK AT MOST 1048576: true; the input reads as it did. -/
def descOwnUptoRow : OpenClaim := { program := "ytggciahanpafoaa", sum := "2c3d70346c8d84096840a9ed469d89bfcc79644a50d3f44c76910c53d98a383e", func := "plugtree/plugkeep.DescOwn", spec := "descOwn", inPlace := ["internal/abi.NoEscape", "internal/bytealg.MakeNoZero"], unfollowed := true, recurses := true, plainKeys := false, apart := false, narrowed := true }
def DescOwnUptoSaid : Prop := descOwnUptoRow.holds Try.pinned (OpenSpec.upto descOwnSpec)

/-- 'plugkeep.DescBack', WHERE WHAT IT READS IS OF BULK AT MOST 1048576: true; the input reads as it did. -/
def descBackUptoRow : OpenClaim := { program := "ytggciahanpafoaa", sum := "2c3d70346c8d84096840a9ed469d89bfcc79644a50d3f44c76910c53d98a383e", func := "plugtree/plugkeep.DescBack", spec := "descBack", inPlace := ["internal/abi.NoEscape", "internal/bytealg.MakeNoZero"], unfollowed := true, recurses := true, plainKeys := false, apart := false, narrowed := true }
def DescBackUptoSaid : Prop := descBackUptoRow.holds Try.pinned (OpenSpec.upto descBackSpec)

/-- 'plugkeep.DescOne', WHERE WHAT IT READS IS OF BULK AT MOST 1048576: true; the input reads as it did. -/
def descOneUptoRow : OpenClaim := { program := "ytggciahanpafoaa", sum := "2c3d70346c8d84096840a9ed469d89bfcc79644a50d3f44c76910c53d98a383e", func := "plugtree/plugkeep.DescOne", spec := "descOne", inPlace := ["internal/abi.NoEscape", "internal/bytealg.MakeNoZero"], unfollowed := true, recurses := true, plainKeys := false, apart := false, narrowed := true }
def DescOneUptoSaid : Prop := descOneUptoRow.holds Try.pinned (OpenSpec.upto descOneSpec)

end Rows
end Go.Proofs.Ytggciahanpafoaa
