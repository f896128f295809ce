/-
  No cell of these rows narrows 'for every input' (looked for: loops, veiled, ifaces, maps, wideKeys, modest, calm, conditions, laid).
  DERIVED. THE GIVEN ROWS OF THIS SEAT. 10 by the template 'for every input the law returns true; each argument reads behind the call as it read before'; 0 by the template 'total and deterministic' (their statements: YtmddfpmchcmgiaaTotals.lean).
  GIVEN WITH THE SEED: the statements are not yours to turn. If you find one false, say at which input.
  Laid BY PROGRAM, IN A SANDBOX (cutbox-rows.mjs): the forced cells as the released guide's own fill.sh prints them over the translation 3cdcd4b5cf5dc484… (all of the seat's roots in one cut). By AI agents, Wed Nov 11 2026. No macro, syntax, notation, axiom, sorry.
-/
import Derived.Test.YtmddfpmchcmgiaaChecked
import GoSem.Claim
import GoSem.ClaimJoined
import GoSem.ClaimMapViews
import Derived.JoinedTies
import Derived.KernelRfl
namespace Go.Proofs.Ytmddfpmchcmgiaa
/- THE CELL 'sum', in the pinned program and in every row, IS THE sha256 OF THE DUMP (.gsa) THAT YtmddfpmchcmgiaaProg.lean LOADS. Nothing in Lean hashes anything: it is a label: what it is worth is what the hold of that sum in a sandbox is worth. -/
noncomputable def Try.pinned : Pinned := { name := "ytmddfpmchcmgiaa", sum := "3cdcd4b5cf5dc484c14be9e9e726b4cdbe834de3581f28d8f351ba5e89a5623e", checked := Try.checked }
namespace Rows
def none {H : Type} : Left H := { results := [], args := [] }

/-- 'plugkeep.DescLong': WHATEVER THE INPUT: true; the input reads as it did. -/
def descLongSpec : ChangeSpec := { name := "descLong", fn := fun _ => fun
  | [d] => { results := [.lit (.bool true)], args := [d] }
  | _ => none }
def descLongRow : OpenClaim := { program := "ytmddfpmchcmgiaa", sum := "3cdcd4b5cf5dc484c14be9e9e726b4cdbe834de3581f28d8f351ba5e89a5623e", func := "plugtree/plugkeep.DescLong", spec := "descLong", inPlace := ["internal/abi.NoEscape", "internal/bytealg.MakeNoZero"], plainKeys := false, apart := false }
def DescLongSaid : Prop := descLongRow.holds Try.pinned (OpenSpec.ofChange descLongSpec)

/-- ITS FALSE NEIGHBOUR: 'it returns false'. Refute it at one input. -/
def descLongWrong : ChangeSpec := { name := "descLong", fn := fun _ => fun
  | [d] => { results := [.lit (.bool false)], args := [d] }
  | _ => none }
def DescLongWrongFalsely : Prop := descLongRow.holds Try.pinned (OpenSpec.ofChange descLongWrong)

/-- 'plugkeep.DescCut': WHATEVER THE INPUT: true; the input reads as it did. -/
def descCutSpec : ChangeSpec := { name := "descCut", fn := fun _ => fun
  | [d1, d2] => { results := [.lit (.bool true)], args := [d1, d2] }
  | _ => none }
def descCutRow : OpenClaim := { program := "ytmddfpmchcmgiaa", sum := "3cdcd4b5cf5dc484c14be9e9e726b4cdbe834de3581f28d8f351ba5e89a5623e", func := "plugtree/plugkeep.DescCut", spec := "descCut", inPlace := ["internal/abi.NoEscape", "internal/bytealg.MakeNoZero"], unfollowed := true, recurses := true, plainKeys := false, apart := false }
def DescCutSaid : Prop := descCutRow.holds Try.pinned (OpenSpec.ofChange descCutSpec)

/-- ITS FALSE NEIGHBOUR: 'it returns false'. Refute it at one input. -/
def descCutWrong : ChangeSpec := { name := "descCut", fn := fun _ => fun
  | [d1, d2] => { results := [.lit (.bool false)], args := [d1, d2] }
  | _ => none }
def DescCutWrongFalsely : Prop := descCutRow.holds Try.pinned (OpenSpec.ofChange descCutWrong)

/-- 'plugkeep.DescOwn': WHATEVER THE INPUT: true; the input reads as it did. -/
def descOwnSpec : ChangeSpec := { name := "descOwn", fn := fun _ => fun
  | [d] => { results := [.lit (.bool true)], args := [d] }
  | _ => none }
def descOwnRow : OpenClaim := { program := "ytmddfpmchcmgiaa", sum := "3cdcd4b5cf5dc484c14be9e9e726b4cdbe834de3581f28d8f351ba5e89a5623e", func := "plugtree/plugkeep.DescOwn", spec := "descOwn", inPlace := ["internal/abi.NoEscape", "internal/bytealg.MakeNoZero"], unfollowed := true, recurses := true, plainKeys := false, apart := false }
def DescOwnSaid : Prop := descOwnRow.holds Try.pinned (OpenSpec.ofChange descOwnSpec)

/-- ITS FALSE NEIGHBOUR: 'it returns false'. Refute it at one input. -/
def descOwnWrong : ChangeSpec := { name := "descOwn", fn := fun _ => fun
  | [d] => { results := [.lit (.bool false)], args := [d] }
  | _ => none }
def DescOwnWrongFalsely : Prop := descOwnRow.holds Try.pinned (OpenSpec.ofChange descOwnWrong)

/-- 'plugkeep.DescBack': WHATEVER THE INPUT: true; the input reads as it did. -/
def descBackSpec : ChangeSpec := { name := "descBack", fn := fun _ => fun
  | [d1, d2] => { results := [.lit (.bool true)], args := [d1, d2] }
  | _ => none }
def descBackRow : OpenClaim := { program := "ytmddfpmchcmgiaa", sum := "3cdcd4b5cf5dc484c14be9e9e726b4cdbe834de3581f28d8f351ba5e89a5623e", func := "plugtree/plugkeep.DescBack", spec := "descBack", inPlace := ["internal/abi.NoEscape", "internal/bytealg.MakeNoZero"], unfollowed := true, recurses := true, plainKeys := false, apart := false }
def DescBackSaid : Prop := descBackRow.holds Try.pinned (OpenSpec.ofChange descBackSpec)

/-- ITS FALSE NEIGHBOUR: 'it returns false'. Refute it at one input. -/
def descBackWrong : ChangeSpec := { name := "descBack", fn := fun _ => fun
  | [d1, d2] => { results := [.lit (.bool false)], args := [d1, d2] }
  | _ => none }
def DescBackWrongFalsely : Prop := descBackRow.holds Try.pinned (OpenSpec.ofChange descBackWrong)

/-- 'plugkeep.DescOne': WHATEVER THE INPUT: true; the input reads as it did. -/
def descOneSpec : ChangeSpec := { name := "descOne", fn := fun _ => fun
  | [d1, d2] => { results := [.lit (.bool true)], args := [d1, d2] }
  | _ => none }
def descOneRow : OpenClaim := { program := "ytmddfpmchcmgiaa", sum := "3cdcd4b5cf5dc484c14be9e9e726b4cdbe834de3581f28d8f351ba5e89a5623e", func := "plugtree/plugkeep.DescOne", spec := "descOne", inPlace := ["internal/abi.NoEscape", "internal/bytealg.MakeNoZero"], unfollowed := true, recurses := true, plainKeys := false, apart := false }
def DescOneSaid : Prop := descOneRow.holds Try.pinned (OpenSpec.ofChange descOneSpec)

/-- ITS FALSE NEIGHBOUR: 'it returns false'. Refute it at one input. -/
def descOneWrong : ChangeSpec := { name := "descOne", fn := fun _ => fun
  | [d1, d2] => { results := [.lit (.bool false)], args := [d1, d2] }
  | _ => none }
def DescOneWrongFalsely : Prop := descOneRow.holds Try.pinned (OpenSpec.ofChange descOneWrong)

/-- 'plugkeep.GadgetKeeps': WHATEVER THE INPUT: true; the input reads as it did. -/
def gadgetKeepsSpec : ChangeSpec := { name := "gadgetKeeps", fn := fun _ => fun
  | [d1, d2, d3] => { results := [.lit (.bool true)], args := [d1, d2, d3] }
  | _ => none }
def gadgetKeepsRow : OpenClaim := { program := "ytmddfpmchcmgiaa", sum := "3cdcd4b5cf5dc484c14be9e9e726b4cdbe834de3581f28d8f351ba5e89a5623e", func := "plugtree/plugkeep.GadgetKeeps", spec := "gadgetKeeps", inPlace := ["internal/abi.NoEscape", "internal/bytealg.MakeNoZero"], unfollowed := true, recurses := true, plainKeys := false, apart := false }
def GadgetKeepsSaid : Prop := gadgetKeepsRow.holds Try.pinned (OpenSpec.ofChange gadgetKeepsSpec)

/-- ITS FALSE NEIGHBOUR: 'it returns false'. Refute it at one input. -/
def gadgetKeepsWrong : ChangeSpec := { name := "gadgetKeeps", fn := fun _ => fun
  | [d1, d2, d3] => { results := [.lit (.bool false)], args := [d1, d2, d3] }
  | _ => none }
def GadgetKeepsWrongFalsely : Prop := gadgetKeepsRow.holds Try.pinned (OpenSpec.ofChange gadgetKeepsWrong)

/-- 'plugkeep.GadgetPath': WHATEVER THE INPUT: true; the input reads as it did. -/
def gadgetPathSpec : ChangeSpec := { name := "gadgetPath", fn := fun _ => fun
  | [d1, d2] => { results := [.lit (.bool true)], args := [d1, d2] }
  | _ => none }
def gadgetPathRow : OpenClaim := { program := "ytmddfpmchcmgiaa", sum := "3cdcd4b5cf5dc484c14be9e9e726b4cdbe834de3581f28d8f351ba5e89a5623e", func := "plugtree/plugkeep.GadgetPath", spec := "gadgetPath", inPlace := ["internal/abi.NoEscape", "internal/bytealg.MakeNoZero"], unfollowed := true, recurses := true, plainKeys := false, apart := false }
def GadgetPathSaid : Prop := gadgetPathRow.holds Try.pinned (OpenSpec.ofChange gadgetPathSpec)

/-- ITS FALSE NEIGHBOUR: 'it returns false'. Refute it at one input. -/
def gadgetPathWrong : ChangeSpec := { name := "gadgetPath", fn := fun _ => fun
  | [d1, d2] => { results := [.lit (.bool false)], args := [d1, d2] }
  | _ => none }
def GadgetPathWrongFalsely : Prop := gadgetPathRow.holds Try.pinned (OpenSpec.ofChange gadgetPathWrong)

/-- 'plugkeep.GadgetHalts': WHATEVER THE INPUT: true; the input reads as it did. -/
def gadgetHaltsSpec : ChangeSpec := { name := "gadgetHalts", fn := fun _ => fun
  | [d1, d2, d3] => { results := [.lit (.bool true)], args := [d1, d2, d3] }
  | _ => none }
def gadgetHaltsRow : OpenClaim := { program := "ytmddfpmchcmgiaa", sum := "3cdcd4b5cf5dc484c14be9e9e726b4cdbe834de3581f28d8f351ba5e89a5623e", func := "plugtree/plugkeep.GadgetHalts", spec := "gadgetHalts", inPlace := ["internal/abi.NoEscape", "internal/bytealg.MakeNoZero"], unfollowed := true, recurses := true, plainKeys := false, apart := false }
def GadgetHaltsSaid : Prop := gadgetHaltsRow.holds Try.pinned (OpenSpec.ofChange gadgetHaltsSpec)

/-- ITS FALSE NEIGHBOUR: 'it returns false'. Refute it at one input. -/
def gadgetHaltsWrong : ChangeSpec := { name := "gadgetHalts", fn := fun _ => fun
  | [d1, d2, d3] => { results := [.lit (.bool false)], args := [d1, d2, d3] }
  | _ => none }
def GadgetHaltsWrongFalsely : Prop := gadgetHaltsRow.holds Try.pinned (OpenSpec.ofChange gadgetHaltsWrong)

/-- 'plugkeep.GadgetShort': WHATEVER THE INPUT: true; the input reads as it did. -/
def gadgetShortSpec : ChangeSpec := { name := "gadgetShort", fn := fun _ => fun
  | [d1, d2, d3, d4, d5] => { results := [.lit (.bool true)], args := [d1, d2, d3, d4, d5] }
  | _ => none }
def gadgetShortRow : OpenClaim := { program := "ytmddfpmchcmgiaa", sum := "3cdcd4b5cf5dc484c14be9e9e726b4cdbe834de3581f28d8f351ba5e89a5623e", func := "plugtree/plugkeep.GadgetShort", spec := "gadgetShort", inPlace := ["internal/abi.NoEscape", "internal/bytealg.MakeNoZero"], unfollowed := true, recurses := true, plainKeys := false, apart := false }
def GadgetShortSaid : Prop := gadgetShortRow.holds Try.pinned (OpenSpec.ofChange gadgetShortSpec)

/-- ITS FALSE NEIGHBOUR: 'it returns false'. Refute it at one input. -/
def gadgetShortWrong : ChangeSpec := { name := "gadgetShort", fn := fun _ => fun
  | [d1, d2, d3, d4, d5] => { results := [.lit (.bool false)], args := [d1, d2, d3, d4, d5] }
  | _ => none }
def GadgetShortWrongFalsely : Prop := gadgetShortRow.holds Try.pinned (OpenSpec.ofChange gadgetShortWrong)

/-- 'plugkeep.GadgetTells': WHATEVER THE INPUT: true; the input reads as it did. -/
def gadgetTellsSpec : ChangeSpec := { name := "gadgetTells", fn := fun _ => fun
  | [d1, d2, d3] => { results := [.lit (.bool true)], args := [d1, d2, d3] }
  | _ => none }
def gadgetTellsRow : OpenClaim := { program := "ytmddfpmchcmgiaa", sum := "3cdcd4b5cf5dc484c14be9e9e726b4cdbe834de3581f28d8f351ba5e89a5623e", func := "plugtree/plugkeep.GadgetTells", spec := "gadgetTells", inPlace := ["internal/abi.NoEscape", "internal/bytealg.MakeNoZero"], unfollowed := true, recurses := true, plainKeys := false, apart := false }
def GadgetTellsSaid : Prop := gadgetTellsRow.holds Try.pinned (OpenSpec.ofChange gadgetTellsSpec)

/-- ITS FALSE NEIGHBOUR: 'it returns false'. Refute it at one input. -/
def gadgetTellsWrong : ChangeSpec := { name := "gadgetTells", fn := fun _ => fun
  | [d1, d2, d3] => { results := [.lit (.bool false)], args := [d1, d2, d3] }
  | _ => none }
def GadgetTellsWrongFalsely : Prop := gadgetTellsRow.holds Try.pinned (OpenSpec.ofChange gadgetTellsWrong)

/- THE SECOND FORM. 'bulk': how many values and letters a reading holds, each counted each time it is reached (what is shared counts as often as it is met; a slice's spare places count too). A statement '..UptoSaid' is the law's where the arguments, and the package variables that the reading takes, are together of bulk at most 1048576: NARROWER than '..Said'. Prove '..Said' where nothing that the law and all that it calls make is longer than what came in: it says more and counts as full. Else prove '..UptoSaid'. A law counts once. -/
mutual
def uptoBulk {H : Type} : DataW H → Nat
  | .lit (.string bytes) => bytes.length + 1
  | .lit _ => 1
  | .nil => 1
  | .ptr d => uptoBulk d + 1
  | .slice elems spare => uptoBulkAll elems + uptoBulkAll spare + 1
  | .agg parts => uptoBulkAll parts + 1
  | .iface _ d => uptoBulk d + 1
  | .map entries => uptoBulkEntries entries + 1
  | .held _ => 1
def uptoBulkAll {H : Type} : List (DataW H) → Nat
  | [] => 0
  | d :: r => uptoBulk d + uptoBulkAll r
def uptoBulkEntries {H : Type} : List (Lit × DataW H) → Nat
  | [] => 0
  | x :: r => uptoBulkEntry x + uptoBulkEntries r
def uptoBulkEntry {H : Type} : Lit × DataW H → Nat
  | (.string bytes, d) => bytes.length + uptoBulk d + 1
  | (_, d) => uptoBulk d + 1
 end
def uptoSmall : (H : Type) → List (DataW H) → Bool := fun _ ds => decide (uptoBulkAll ds ≤ 1048576)
def OpenSpec.upto (s : _root_.Go.ChangeSpec) : _root_.Go.OpenSpec := { _root_.Go.OpenSpec.ofChange s with cond := some uptoSmall }

/-- 'plugkeep.DescLong', WHERE WHAT IT READS IS OF BULK AT MOST 1048576: true; the input reads as it did. -/
def descLongUptoRow : OpenClaim := { program := "ytmddfpmchcmgiaa", sum := "3cdcd4b5cf5dc484c14be9e9e726b4cdbe834de3581f28d8f351ba5e89a5623e", func := "plugtree/plugkeep.DescLong", spec := "descLong", inPlace := ["internal/abi.NoEscape", "internal/bytealg.MakeNoZero"], plainKeys := false, apart := false, narrowed := true }
def DescLongUptoSaid : Prop := descLongUptoRow.holds Try.pinned (OpenSpec.upto descLongSpec)

/-- 'plugkeep.DescCut', WHERE WHAT IT READS IS OF BULK AT MOST 1048576: true; the input reads as it did. -/
def descCutUptoRow : OpenClaim := { program := "ytmddfpmchcmgiaa", sum := "3cdcd4b5cf5dc484c14be9e9e726b4cdbe834de3581f28d8f351ba5e89a5623e", func := "plugtree/plugkeep.DescCut", spec := "descCut", inPlace := ["internal/abi.NoEscape", "internal/bytealg.MakeNoZero"], unfollowed := true, recurses := true, plainKeys := false, apart := false, narrowed := true }
def DescCutUptoSaid : Prop := descCutUptoRow.holds Try.pinned (OpenSpec.upto descCutSpec)

/-- 'plugkeep.DescOwn', WHERE WHAT IT READS IS OF BULK AT MOST 1048576: true; the input reads as it did. -/
def descOwnUptoRow : OpenClaim := { program := "ytmddfpmchcmgiaa", sum := "3cdcd4b5cf5dc484c14be9e9e726b4cdbe834de3581f28d8f351ba5e89a5623e", func := "plugtree/plugkeep.DescOwn", spec := "descOwn", inPlace := ["internal/abi.NoEscape", "internal/bytealg.MakeNoZero"], unfollowed := true, recurses := true, plainKeys := false, apart := false, narrowed := true }
def DescOwnUptoSaid : Prop := descOwnUptoRow.holds Try.pinned (OpenSpec.upto descOwnSpec)

/-- 'plugkeep.DescBack', WHERE WHAT IT READS IS OF BULK AT MOST 1048576: true; the input reads as it did. -/
def descBackUptoRow : OpenClaim := { program := "ytmddfpmchcmgiaa", sum := "3cdcd4b5cf5dc484c14be9e9e726b4cdbe834de3581f28d8f351ba5e89a5623e", func := "plugtree/plugkeep.DescBack", spec := "descBack", inPlace := ["internal/abi.NoEscape", "internal/bytealg.MakeNoZero"], unfollowed := true, recurses := true, plainKeys := false, apart := false, narrowed := true }
def DescBackUptoSaid : Prop := descBackUptoRow.holds Try.pinned (OpenSpec.upto descBackSpec)

/-- 'plugkeep.DescOne', WHERE WHAT IT READS IS OF BULK AT MOST 1048576: true; the input reads as it did. -/
def descOneUptoRow : OpenClaim := { program := "ytmddfpmchcmgiaa", sum := "3cdcd4b5cf5dc484c14be9e9e726b4cdbe834de3581f28d8f351ba5e89a5623e", func := "plugtree/plugkeep.DescOne", spec := "descOne", inPlace := ["internal/abi.NoEscape", "internal/bytealg.MakeNoZero"], unfollowed := true, recurses := true, plainKeys := false, apart := false, narrowed := true }
def DescOneUptoSaid : Prop := descOneUptoRow.holds Try.pinned (OpenSpec.upto descOneSpec)

/-- 'plugkeep.GadgetKeeps', WHERE WHAT IT READS IS OF BULK AT MOST 1048576: true; the input reads as it did. -/
def gadgetKeepsUptoRow : OpenClaim := { program := "ytmddfpmchcmgiaa", sum := "3cdcd4b5cf5dc484c14be9e9e726b4cdbe834de3581f28d8f351ba5e89a5623e", func := "plugtree/plugkeep.GadgetKeeps", spec := "gadgetKeeps", inPlace := ["internal/abi.NoEscape", "internal/bytealg.MakeNoZero"], unfollowed := true, recurses := true, plainKeys := false, apart := false, narrowed := true }
def GadgetKeepsUptoSaid : Prop := gadgetKeepsUptoRow.holds Try.pinned (OpenSpec.upto gadgetKeepsSpec)

/-- 'plugkeep.GadgetPath', WHERE WHAT IT READS IS OF BULK AT MOST 1048576: true; the input reads as it did. -/
def gadgetPathUptoRow : OpenClaim := { program := "ytmddfpmchcmgiaa", sum := "3cdcd4b5cf5dc484c14be9e9e726b4cdbe834de3581f28d8f351ba5e89a5623e", func := "plugtree/plugkeep.GadgetPath", spec := "gadgetPath", inPlace := ["internal/abi.NoEscape", "internal/bytealg.MakeNoZero"], unfollowed := true, recurses := true, plainKeys := false, apart := false, narrowed := true }
def GadgetPathUptoSaid : Prop := gadgetPathUptoRow.holds Try.pinned (OpenSpec.upto gadgetPathSpec)

/-- 'plugkeep.GadgetHalts', WHERE WHAT IT READS IS OF BULK AT MOST 1048576: true; the input reads as it did. -/
def gadgetHaltsUptoRow : OpenClaim := { program := "ytmddfpmchcmgiaa", sum := "3cdcd4b5cf5dc484c14be9e9e726b4cdbe834de3581f28d8f351ba5e89a5623e", func := "plugtree/plugkeep.GadgetHalts", spec := "gadgetHalts", inPlace := ["internal/abi.NoEscape", "internal/bytealg.MakeNoZero"], unfollowed := true, recurses := true, plainKeys := false, apart := false, narrowed := true }
def GadgetHaltsUptoSaid : Prop := gadgetHaltsUptoRow.holds Try.pinned (OpenSpec.upto gadgetHaltsSpec)

/-- 'plugkeep.GadgetShort', WHERE WHAT IT READS IS OF BULK AT MOST 1048576: true; the input reads as it did. -/
def gadgetShortUptoRow : OpenClaim := { program := "ytmddfpmchcmgiaa", sum := "3cdcd4b5cf5dc484c14be9e9e726b4cdbe834de3581f28d8f351ba5e89a5623e", func := "plugtree/plugkeep.GadgetShort", spec := "gadgetShort", inPlace := ["internal/abi.NoEscape", "internal/bytealg.MakeNoZero"], unfollowed := true, recurses := true, plainKeys := false, apart := false, narrowed := true }
def GadgetShortUptoSaid : Prop := gadgetShortUptoRow.holds Try.pinned (OpenSpec.upto gadgetShortSpec)

/-- 'plugkeep.GadgetTells', WHERE WHAT IT READS IS OF BULK AT MOST 1048576: true; the input reads as it did. -/
def gadgetTellsUptoRow : OpenClaim := { program := "ytmddfpmchcmgiaa", sum := "3cdcd4b5cf5dc484c14be9e9e726b4cdbe834de3581f28d8f351ba5e89a5623e", func := "plugtree/plugkeep.GadgetTells", spec := "gadgetTells", inPlace := ["internal/abi.NoEscape", "internal/bytealg.MakeNoZero"], unfollowed := true, recurses := true, plainKeys := false, apart := false, narrowed := true }
def GadgetTellsUptoSaid : Prop := gadgetTellsUptoRow.holds Try.pinned (OpenSpec.upto gadgetTellsSpec)

end Rows
end Go.Proofs.Ytmddfpmchcmgiaa
