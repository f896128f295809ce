/-
  NARROWER THAN 'FOR EVERY INPUT', by the rows' own cells (each row's printed sentence says how): LaneJoins: laid · LaneFlips: laid · LanePoles: laid · LaneBack: laid · LaneOne: laid · LaneRuns: laid · LaneLong: laid.
  DERIVED. THE GIVEN ROWS OF THIS SEAT. 7 by the template 'for every input the law returns true; each argument reads behind the call as it read before'; 0 by the template 'total and deterministic' (their statements: YtjjpnbelahcfiaaDoorTotals.lean).
  GIVEN WITH THE SEED: the statements are not yours to turn. If you find one false, say at which input.
  Laid BY PROGRAM, IN A SANDBOX (cutbox-rows.mjs): the forced cells as the released guide's own fill.sh prints them over the translation 8130b2803b21190d… (all of the seat's roots in one cut). By AI agents, Wed Nov 11 2026. No macro, syntax, notation, axiom, sorry.
-/
import Derived.Test.YtjjpnbelahcfiaaDoorChecked
import GoSem.PinnedTables
import GoSem.Claim
import GoSem.ClaimJoined
import GoSem.ClaimMapViews
import Derived.JoinedTies
import Derived.KernelRfl
namespace Go.Proofs.YtjjpnbelahcfiaaDoor
/- THE CELL 'sum', in the pinned program and in every row, IS THE sha256 OF THE DUMP (.gsa) THAT YtjjpnbelahcfiaaDoorProg.lean LOADS. Nothing in Lean hashes anything: it is a label: what it is worth is what the hold of that sum in a sandbox is worth. -/
noncomputable def Tryd.pinned : Pinned := { name := "ytjjpnbelahcfiaadoor", sum := "8130b2803b21190de4eb247c4a622087589981e111700bee4b61df0393eb3d36", checked := Tryd.checked }
namespace Rows
def none {H : Type} : Left H := { results := [], args := [] }

/- WHAT THE LISTED PACKAGE-LEVEL VARIABLES READ AS WHEN THE CALL BEGINS. Each datum BY PROGRAM (the guide's laid-datum.mjs) off the statement by which the dump's own 'gosem.cut.vars' lays the variable. In a bare row this is a premise. The card (YtjjpnbelahcfiaaDoorCards.lean) ties it to the program's text. -/
def laid_unicode_utf8_acceptRanges {H : Type} : DataW H := .agg [.agg [.lit (.int .u8 128), .lit (.int .u8 191)], .agg [.lit (.int .u8 160), .lit (.int .u8 191)], .agg [.lit (.int .u8 128), .lit (.int .u8 159)], .agg [.lit (.int .u8 144), .lit (.int .u8 191)], .agg [.lit (.int .u8 128), .lit (.int .u8 143)], .agg [.lit (.int .u8 0), .lit (.int .u8 0)], .agg [.lit (.int .u8 0), .lit (.int .u8 0)], .agg [.lit (.int .u8 0), .lit (.int .u8 0)], .agg [.lit (.int .u8 0), .lit (.int .u8 0)], .agg [.lit (.int .u8 0), .lit (.int .u8 0)], .agg [.lit (.int .u8 0), .lit (.int .u8 0)], .agg [.lit (.int .u8 0), .lit (.int .u8 0)], .agg [.lit (.int .u8 0), .lit (.int .u8 0)], .agg [.lit (.int .u8 0), .lit (.int .u8 0)], .agg [.lit (.int .u8 0), .lit (.int .u8 0)], .agg [.lit (.int .u8 0), .lit (.int .u8 0)]]
/-- One of Go's own tables, pinned by name: the form's constant. -/
def laid_unicode_utf8_first : DataW Unit := Go.Pinned.utf8First

/-- 'plugkeep.LaneJoins': WHATEVER THE INPUT: true; the input reads as it did. -/
def laneJoinsSpec : ChangeSpec := { name := "laneJoins", fn := fun _ => fun
  | [d1, d2, d3] => { results := [.lit (.bool true)], args := [d1, d2, d3] }
  | _ => none }
def laneJoinsRow : OpenClaim := { program := "ytjjpnbelahcfiaadoor", sum := "8130b2803b21190de4eb247c4a622087589981e111700bee4b61df0393eb3d36", func := "plugtree/plugkeep.LaneJoins", spec := "laneJoins", inPlace := ["internal/bytealg.IndexByteString", "internal/bytealg.IndexString", "internal/abi.NoEscape"], named := ["unicode/utf8.first", "unicode/utf8.acceptRanges", "internal/bytealg.MaxLen"], apart := false, laid := [("unicode/utf8.acceptRanges", laid_unicode_utf8_acceptRanges), ("unicode/utf8.first", laid_unicode_utf8_first)] }
def LaneJoinsSaid : Prop := laneJoinsRow.holds Tryd.pinned (OpenSpec.ofChange laneJoinsSpec)

/-- ITS FALSE NEIGHBOUR: 'it returns false'. Refute it at one input. -/
def laneJoinsWrong : ChangeSpec := { name := "laneJoins", fn := fun _ => fun
  | [d1, d2, d3] => { results := [.lit (.bool false)], args := [d1, d2, d3] }
  | _ => none }
def LaneJoinsWrongFalsely : Prop := laneJoinsRow.holds Tryd.pinned (OpenSpec.ofChange laneJoinsWrong)

/-- 'plugkeep.LaneFlips': WHATEVER THE INPUT: true; the input reads as it did. -/
def laneFlipsSpec : ChangeSpec := { name := "laneFlips", fn := fun _ => fun
  | [d1, d2, d3] => { results := [.lit (.bool true)], args := [d1, d2, d3] }
  | _ => none }
def laneFlipsRow : OpenClaim := { program := "ytjjpnbelahcfiaadoor", sum := "8130b2803b21190de4eb247c4a622087589981e111700bee4b61df0393eb3d36", func := "plugtree/plugkeep.LaneFlips", spec := "laneFlips", inPlace := ["internal/bytealg.IndexByteString", "internal/bytealg.IndexString", "internal/abi.NoEscape"], named := ["unicode/utf8.first", "unicode/utf8.acceptRanges", "internal/bytealg.MaxLen"], apart := false, laid := [("unicode/utf8.acceptRanges", laid_unicode_utf8_acceptRanges), ("unicode/utf8.first", laid_unicode_utf8_first)] }
def LaneFlipsSaid : Prop := laneFlipsRow.holds Tryd.pinned (OpenSpec.ofChange laneFlipsSpec)

/-- ITS FALSE NEIGHBOUR: 'it returns false'. Refute it at one input. -/
def laneFlipsWrong : ChangeSpec := { name := "laneFlips", fn := fun _ => fun
  | [d1, d2, d3] => { results := [.lit (.bool false)], args := [d1, d2, d3] }
  | _ => none }
def LaneFlipsWrongFalsely : Prop := laneFlipsRow.holds Tryd.pinned (OpenSpec.ofChange laneFlipsWrong)

/-- 'plugkeep.LanePoles': WHATEVER THE INPUT: true; the input reads as it did. -/
def lanePolesSpec : ChangeSpec := { name := "lanePoles", fn := fun _ => fun
  | [d1, d2] => { results := [.lit (.bool true)], args := [d1, d2] }
  | _ => none }
def lanePolesRow : OpenClaim := { program := "ytjjpnbelahcfiaadoor", sum := "8130b2803b21190de4eb247c4a622087589981e111700bee4b61df0393eb3d36", func := "plugtree/plugkeep.LanePoles", spec := "lanePoles", inPlace := ["internal/bytealg.IndexByteString", "internal/bytealg.IndexString", "internal/abi.NoEscape"], named := ["unicode/utf8.first", "unicode/utf8.acceptRanges", "internal/bytealg.MaxLen"], apart := false, laid := [("unicode/utf8.acceptRanges", laid_unicode_utf8_acceptRanges), ("unicode/utf8.first", laid_unicode_utf8_first)] }
def LanePolesSaid : Prop := lanePolesRow.holds Tryd.pinned (OpenSpec.ofChange lanePolesSpec)

/-- ITS FALSE NEIGHBOUR: 'it returns false'. Refute it at one input. -/
def lanePolesWrong : ChangeSpec := { name := "lanePoles", fn := fun _ => fun
  | [d1, d2] => { results := [.lit (.bool false)], args := [d1, d2] }
  | _ => none }
def LanePolesWrongFalsely : Prop := lanePolesRow.holds Tryd.pinned (OpenSpec.ofChange lanePolesWrong)

/-- 'plugkeep.LaneBack': WHATEVER THE INPUT: true; the input reads as it did. -/
def laneBackSpec : ChangeSpec := { name := "laneBack", fn := fun _ => fun
  | [d1, d2, d3] => { results := [.lit (.bool true)], args := [d1, d2, d3] }
  | _ => none }
def laneBackRow : OpenClaim := { program := "ytjjpnbelahcfiaadoor", sum := "8130b2803b21190de4eb247c4a622087589981e111700bee4b61df0393eb3d36", func := "plugtree/plugkeep.LaneBack", spec := "laneBack", inPlace := ["internal/abi.NoEscape", "internal/bytealg.IndexByteString", "internal/bytealg.IndexString"], named := ["unicode/utf8.first", "unicode/utf8.acceptRanges", "internal/bytealg.MaxLen"], apart := false, laid := [("unicode/utf8.acceptRanges", laid_unicode_utf8_acceptRanges), ("unicode/utf8.first", laid_unicode_utf8_first)] }
def LaneBackSaid : Prop := laneBackRow.holds Tryd.pinned (OpenSpec.ofChange laneBackSpec)

/-- ITS FALSE NEIGHBOUR: 'it returns false'. Refute it at one input. -/
def laneBackWrong : ChangeSpec := { name := "laneBack", fn := fun _ => fun
  | [d1, d2, d3] => { results := [.lit (.bool false)], args := [d1, d2, d3] }
  | _ => none }
def LaneBackWrongFalsely : Prop := laneBackRow.holds Tryd.pinned (OpenSpec.ofChange laneBackWrong)

/-- 'plugkeep.LaneOne': WHATEVER THE INPUT: true; the input reads as it did. -/
def laneOneSpec : ChangeSpec := { name := "laneOne", fn := fun _ => fun
  | [d1, d2, d3] => { results := [.lit (.bool true)], args := [d1, d2, d3] }
  | _ => none }
def laneOneRow : OpenClaim := { program := "ytjjpnbelahcfiaadoor", sum := "8130b2803b21190de4eb247c4a622087589981e111700bee4b61df0393eb3d36", func := "plugtree/plugkeep.LaneOne", spec := "laneOne", inPlace := ["internal/bytealg.IndexByteString", "internal/bytealg.IndexString", "internal/abi.NoEscape"], named := ["unicode/utf8.first", "unicode/utf8.acceptRanges", "internal/bytealg.MaxLen"], apart := false, laid := [("unicode/utf8.acceptRanges", laid_unicode_utf8_acceptRanges), ("unicode/utf8.first", laid_unicode_utf8_first)] }
def LaneOneSaid : Prop := laneOneRow.holds Tryd.pinned (OpenSpec.ofChange laneOneSpec)

/-- ITS FALSE NEIGHBOUR: 'it returns false'. Refute it at one input. -/
def laneOneWrong : ChangeSpec := { name := "laneOne", fn := fun _ => fun
  | [d1, d2, d3] => { results := [.lit (.bool false)], args := [d1, d2, d3] }
  | _ => none }
def LaneOneWrongFalsely : Prop := laneOneRow.holds Tryd.pinned (OpenSpec.ofChange laneOneWrong)

/-- 'plugkeep.LaneRuns': WHATEVER THE INPUT: true; the input reads as it did. -/
def laneRunsSpec : ChangeSpec := { name := "laneRuns", fn := fun _ => fun
  | [d1, d2] => { results := [.lit (.bool true)], args := [d1, d2] }
  | _ => none }
def laneRunsRow : OpenClaim := { program := "ytjjpnbelahcfiaadoor", sum := "8130b2803b21190de4eb247c4a622087589981e111700bee4b61df0393eb3d36", func := "plugtree/plugkeep.LaneRuns", spec := "laneRuns", inPlace := ["internal/bytealg.IndexByteString", "internal/bytealg.IndexString", "internal/abi.NoEscape"], named := ["unicode/utf8.first", "unicode/utf8.acceptRanges", "internal/bytealg.MaxLen"], apart := false, laid := [("unicode/utf8.acceptRanges", laid_unicode_utf8_acceptRanges), ("unicode/utf8.first", laid_unicode_utf8_first)] }
def LaneRunsSaid : Prop := laneRunsRow.holds Tryd.pinned (OpenSpec.ofChange laneRunsSpec)

/-- ITS FALSE NEIGHBOUR: 'it returns false'. Refute it at one input. -/
def laneRunsWrong : ChangeSpec := { name := "laneRuns", fn := fun _ => fun
  | [d1, d2] => { results := [.lit (.bool false)], args := [d1, d2] }
  | _ => none }
def LaneRunsWrongFalsely : Prop := laneRunsRow.holds Tryd.pinned (OpenSpec.ofChange laneRunsWrong)

/-- 'plugkeep.LaneLong': WHATEVER THE INPUT: true; the input reads as it did. -/
def laneLongSpec : ChangeSpec := { name := "laneLong", fn := fun _ => fun
  | [d] => { results := [.lit (.bool true)], args := [d] }
  | _ => none }
def laneLongRow : OpenClaim := { program := "ytjjpnbelahcfiaadoor", sum := "8130b2803b21190de4eb247c4a622087589981e111700bee4b61df0393eb3d36", func := "plugtree/plugkeep.LaneLong", spec := "laneLong", inPlace := ["internal/bytealg.IndexByteString", "internal/bytealg.IndexString", "internal/abi.NoEscape", "internal/bytealg.CountString"], named := ["unicode/utf8.first", "unicode/utf8.acceptRanges", "internal/bytealg.MaxLen"], apart := false, laid := [("unicode/utf8.acceptRanges", laid_unicode_utf8_acceptRanges), ("unicode/utf8.first", laid_unicode_utf8_first)] }
def LaneLongSaid : Prop := laneLongRow.holds Tryd.pinned (OpenSpec.ofChange laneLongSpec)

/-- ITS FALSE NEIGHBOUR: 'it returns false'. Refute it at one input. -/
def laneLongWrong : ChangeSpec := { name := "laneLong", fn := fun _ => fun
  | [d] => { results := [.lit (.bool false)], args := [d] }
  | _ => none }
def LaneLongWrongFalsely : Prop := laneLongRow.holds Tryd.pinned (OpenSpec.ofChange laneLongWrong)

/- THE SECOND FORM. 'bulk': how many values and letters a reading holds, each counted each time it is reached (what is shared counts as often as it is met; a slice's spare places count too). A statement '..UptoSaid' is the law's where the arguments, and the package variables that the reading takes, are together of bulk at most 1048576: NARROWER than '..Said'. Prove '..Said' where nothing that the law and all that it calls make is longer than what came in: it says more and counts as full. Else prove '..UptoSaid'. A law counts once. -/
mutual
def uptoBulk {H : Type} : DataW H → Nat
  | .lit (.string bytes) => bytes.length + 1
  | .lit _ => 1
  | .nil => 1
  | .ptr d => uptoBulk d + 1
  | .slice elems spare => uptoBulkAll elems + uptoBulkAll spare + 1
  | .agg parts => uptoBulkAll parts + 1
  | .iface _ d => uptoBulk d + 1
  | .map entries => uptoBulkEntries entries + 1
  | .held _ => 1
def uptoBulkAll {H : Type} : List (DataW H) → Nat
  | [] => 0
  | d :: r => uptoBulk d + uptoBulkAll r
def uptoBulkEntries {H : Type} : List (Lit × DataW H) → Nat
  | [] => 0
  | x :: r => uptoBulkEntry x + uptoBulkEntries r
def uptoBulkEntry {H : Type} : Lit × DataW H → Nat
  | (.string bytes, d) => bytes.length + uptoBulk d + 1
  | (_, d) => uptoBulk d + 1
 end
def uptoSmall : (H : Type) → List (DataW H) → Bool := fun _ ds => decide (uptoBulkAll ds ≤ 1048576)
def OpenSpec.upto (s : _root_.Go.ChangeSpec) : _root_.Go.OpenSpec := { _root_.Go.OpenSpec.ofChange s with cond := some uptoSmall }

/-- 'plugkeep.LaneJoins', WHERE WHAT IT READS IS OF BULK AT MOST 1048576: true; the input reads as it did. -/
def laneJoinsUptoRow : OpenClaim := { program := "ytjjpnbelahcfiaadoor", sum := "8130b2803b21190de4eb247c4a622087589981e111700bee4b61df0393eb3d36", func := "plugtree/plugkeep.LaneJoins", spec := "laneJoins", inPlace := ["internal/bytealg.IndexByteString", "internal/bytealg.IndexString", "internal/abi.NoEscape"], named := ["unicode/utf8.first", "unicode/utf8.acceptRanges", "internal/bytealg.MaxLen"], apart := false, laid := [("unicode/utf8.acceptRanges", laid_unicode_utf8_acceptRanges), ("unicode/utf8.first", laid_unicode_utf8_first)], narrowed := true }
def LaneJoinsUptoSaid : Prop := laneJoinsUptoRow.holds Tryd.pinned (OpenSpec.upto laneJoinsSpec)

/-- 'plugkeep.LaneFlips', WHERE WHAT IT READS IS OF BULK AT MOST 1048576: true; the input reads as it did. -/
def laneFlipsUptoRow : OpenClaim := { program := "ytjjpnbelahcfiaadoor", sum := "8130b2803b21190de4eb247c4a622087589981e111700bee4b61df0393eb3d36", func := "plugtree/plugkeep.LaneFlips", spec := "laneFlips", inPlace := ["internal/bytealg.IndexByteString", "internal/bytealg.IndexString", "internal/abi.NoEscape"], named := ["unicode/utf8.first", "unicode/utf8.acceptRanges", "internal/bytealg.MaxLen"], apart := false, laid := [("unicode/utf8.acceptRanges", laid_unicode_utf8_acceptRanges), ("unicode/utf8.first", laid_unicode_utf8_first)], narrowed := true }
def LaneFlipsUptoSaid : Prop := laneFlipsUptoRow.holds Tryd.pinned (OpenSpec.upto laneFlipsSpec)

/-- 'plugkeep.LanePoles', WHERE WHAT IT READS IS OF BULK AT MOST 1048576: true; the input reads as it did. -/
def lanePolesUptoRow : OpenClaim := { program := "ytjjpnbelahcfiaadoor", sum := "8130b2803b21190de4eb247c4a622087589981e111700bee4b61df0393eb3d36", func := "plugtree/plugkeep.LanePoles", spec := "lanePoles", inPlace := ["internal/bytealg.IndexByteString", "internal/bytealg.IndexString", "internal/abi.NoEscape"], named := ["unicode/utf8.first", "unicode/utf8.acceptRanges", "internal/bytealg.MaxLen"], apart := false, laid := [("unicode/utf8.acceptRanges", laid_unicode_utf8_acceptRanges), ("unicode/utf8.first", laid_unicode_utf8_first)], narrowed := true }
def LanePolesUptoSaid : Prop := lanePolesUptoRow.holds Tryd.pinned (OpenSpec.upto lanePolesSpec)

/-- 'plugkeep.LaneBack', WHERE WHAT IT READS IS OF BULK AT MOST 1048576: true; the input reads as it did. -/
def laneBackUptoRow : OpenClaim := { program := "ytjjpnbelahcfiaadoor", sum := "8130b2803b21190de4eb247c4a622087589981e111700bee4b61df0393eb3d36", func := "plugtree/plugkeep.LaneBack", spec := "laneBack", inPlace := ["internal/abi.NoEscape", "internal/bytealg.IndexByteString", "internal/bytealg.IndexString"], named := ["unicode/utf8.first", "unicode/utf8.acceptRanges", "internal/bytealg.MaxLen"], apart := false, laid := [("unicode/utf8.acceptRanges", laid_unicode_utf8_acceptRanges), ("unicode/utf8.first", laid_unicode_utf8_first)], narrowed := true }
def LaneBackUptoSaid : Prop := laneBackUptoRow.holds Tryd.pinned (OpenSpec.upto laneBackSpec)

/-- 'plugkeep.LaneOne', WHERE WHAT IT READS IS OF BULK AT MOST 1048576: true; the input reads as it did. -/
def laneOneUptoRow : OpenClaim := { program := "ytjjpnbelahcfiaadoor", sum := "8130b2803b21190de4eb247c4a622087589981e111700bee4b61df0393eb3d36", func := "plugtree/plugkeep.LaneOne", spec := "laneOne", inPlace := ["internal/bytealg.IndexByteString", "internal/bytealg.IndexString", "internal/abi.NoEscape"], named := ["unicode/utf8.first", "unicode/utf8.acceptRanges", "internal/bytealg.MaxLen"], apart := false, laid := [("unicode/utf8.acceptRanges", laid_unicode_utf8_acceptRanges), ("unicode/utf8.first", laid_unicode_utf8_first)], narrowed := true }
def LaneOneUptoSaid : Prop := laneOneUptoRow.holds Tryd.pinned (OpenSpec.upto laneOneSpec)

/-- 'plugkeep.LaneRuns', WHERE WHAT IT READS IS OF BULK AT MOST 1048576: true; the input reads as it did. -/
def laneRunsUptoRow : OpenClaim := { program := "ytjjpnbelahcfiaadoor", sum := "8130b2803b21190de4eb247c4a622087589981e111700bee4b61df0393eb3d36", func := "plugtree/plugkeep.LaneRuns", spec := "laneRuns", inPlace := ["internal/bytealg.IndexByteString", "internal/bytealg.IndexString", "internal/abi.NoEscape"], named := ["unicode/utf8.first", "unicode/utf8.acceptRanges", "internal/bytealg.MaxLen"], apart := false, laid := [("unicode/utf8.acceptRanges", laid_unicode_utf8_acceptRanges), ("unicode/utf8.first", laid_unicode_utf8_first)], narrowed := true }
def LaneRunsUptoSaid : Prop := laneRunsUptoRow.holds Tryd.pinned (OpenSpec.upto laneRunsSpec)

/-- 'plugkeep.LaneLong', WHERE WHAT IT READS IS OF BULK AT MOST 1048576: true; the input reads as it did. -/
def laneLongUptoRow : OpenClaim := { program := "ytjjpnbelahcfiaadoor", sum := "8130b2803b21190de4eb247c4a622087589981e111700bee4b61df0393eb3d36", func := "plugtree/plugkeep.LaneLong", spec := "laneLong", inPlace := ["internal/bytealg.IndexByteString", "internal/bytealg.IndexString", "internal/abi.NoEscape", "internal/bytealg.CountString"], named := ["unicode/utf8.first", "unicode/utf8.acceptRanges", "internal/bytealg.MaxLen"], apart := false, laid := [("unicode/utf8.acceptRanges", laid_unicode_utf8_acceptRanges), ("unicode/utf8.first", laid_unicode_utf8_first)], narrowed := true }
def LaneLongUptoSaid : Prop := laneLongUptoRow.holds Tryd.pinned (OpenSpec.upto laneLongSpec)

end Rows
end Go.Proofs.YtjjpnbelahcfiaaDoor
