/-
  NARROWER THAN 'FOR EVERY INPUT', by the rows' own cells (each row's printed sentence says how): PhyOne: laid · PhyAgain: laid · PhyCuts: laid · PhyBack: laid · PhyTorn: laid.
  DERIVED. THE GIVEN ROWS OF THIS SEAT. 5 by the template 'for every input the law returns true; each argument reads behind the call as it read before'; 0 by the template 'total and deterministic' (their statements: YtmajeonfblcfnaaDoorTotals.lean).
  GIVEN WITH THE SEED: the statements are not yours to turn. If you find one false, say at which input.
  Laid BY PROGRAM, IN A SANDBOX (cutbox-rows.mjs): the forced cells as the released guide's own fill.sh prints them over the translation 521fd33b3bf1a68d… (all of the seat's roots in one cut). By AI agents, Wed Nov 11 2026. No macro, syntax, notation, axiom, sorry.
-/
import Derived.Test.YtmajeonfblcfnaaDoorChecked
import GoSem.PinnedTables
import GoSem.Claim
import GoSem.ClaimJoined
import GoSem.ClaimMapViews
import Derived.JoinedTies
import Derived.KernelRfl
namespace Go.Proofs.YtmajeonfblcfnaaDoor
/- THE CELL 'sum', in the pinned program and in every row, IS THE sha256 OF THE DUMP (.gsa) THAT YtmajeonfblcfnaaDoorProg.lean LOADS. Nothing in Lean hashes anything: it is a label: what it is worth is what the hold of that sum in a sandbox is worth. -/
noncomputable def Tryd.pinned : Pinned := { name := "ytmajeonfblcfnaadoor", sum := "521fd33b3bf1a68dca9cb93f07fe1da441c5bcc60726c9904628002aa92acbdd", checked := Tryd.checked }
namespace Rows
def none {H : Type} : Left H := { results := [], args := [] }

/- WHAT THE LISTED PACKAGE-LEVEL VARIABLES READ AS WHEN THE CALL BEGINS. Each datum BY PROGRAM (the guide's laid-datum.mjs) off the statement by which the dump's own 'gosem.cut.vars' lays the variable. In a bare row this is a premise. The card (YtmajeonfblcfnaaDoorCards.lean) ties it to the program's text. -/
def laid_unicode_utf8_acceptRanges {H : Type} : DataW H := .agg [.agg [.lit (.int .u8 128), .lit (.int .u8 191)], .agg [.lit (.int .u8 160), .lit (.int .u8 191)], .agg [.lit (.int .u8 128), .lit (.int .u8 159)], .agg [.lit (.int .u8 144), .lit (.int .u8 191)], .agg [.lit (.int .u8 128), .lit (.int .u8 143)], .agg [.lit (.int .u8 0), .lit (.int .u8 0)], .agg [.lit (.int .u8 0), .lit (.int .u8 0)], .agg [.lit (.int .u8 0), .lit (.int .u8 0)], .agg [.lit (.int .u8 0), .lit (.int .u8 0)], .agg [.lit (.int .u8 0), .lit (.int .u8 0)], .agg [.lit (.int .u8 0), .lit (.int .u8 0)], .agg [.lit (.int .u8 0), .lit (.int .u8 0)], .agg [.lit (.int .u8 0), .lit (.int .u8 0)], .agg [.lit (.int .u8 0), .lit (.int .u8 0)], .agg [.lit (.int .u8 0), .lit (.int .u8 0)], .agg [.lit (.int .u8 0), .lit (.int .u8 0)]]
/-- One of Go's own tables, pinned by name: the form's constant. -/
def laid_unicode_utf8_first : DataW Unit := Go.Pinned.utf8First

/-- 'plugkeep.PhyOne': WHATEVER THE INPUT: true; the input reads as it did. -/
def phyOneSpec : ChangeSpec := { name := "phyOne", fn := fun _ => fun
  | [d1, d2] => { results := [.lit (.bool true)], args := [d1, d2] }
  | _ => none }
def phyOneRow : OpenClaim := { program := "ytmajeonfblcfnaadoor", sum := "521fd33b3bf1a68dca9cb93f07fe1da441c5bcc60726c9904628002aa92acbdd", func := "plugtree/plugkeep.PhyOne", spec := "phyOne", inPlace := ["internal/abi.NoEscape", "internal/bytealg.IndexByteString", "internal/bytealg.IndexString"], named := ["unicode/utf8.first", "unicode/utf8.acceptRanges", "internal/bytealg.MaxLen"], apart := false, laid := [("unicode/utf8.acceptRanges", laid_unicode_utf8_acceptRanges), ("unicode/utf8.first", laid_unicode_utf8_first)] }
def PhyOneSaid : Prop := phyOneRow.holds Tryd.pinned (OpenSpec.ofChange phyOneSpec)

/-- ITS FALSE NEIGHBOUR: 'it returns false'. Refute it at one input. -/
def phyOneWrong : ChangeSpec := { name := "phyOne", fn := fun _ => fun
  | [d1, d2] => { results := [.lit (.bool false)], args := [d1, d2] }
  | _ => none }
def PhyOneWrongFalsely : Prop := phyOneRow.holds Tryd.pinned (OpenSpec.ofChange phyOneWrong)

/-- 'plugkeep.PhyAgain': WHATEVER THE INPUT: true; the input reads as it did. -/
def phyAgainSpec : ChangeSpec := { name := "phyAgain", fn := fun _ => fun
  | [d1, d2, d3] => { results := [.lit (.bool true)], args := [d1, d2, d3] }
  | _ => none }
def phyAgainRow : OpenClaim := { program := "ytmajeonfblcfnaadoor", sum := "521fd33b3bf1a68dca9cb93f07fe1da441c5bcc60726c9904628002aa92acbdd", func := "plugtree/plugkeep.PhyAgain", spec := "phyAgain", inPlace := ["internal/abi.NoEscape", "internal/bytealg.IndexByteString", "internal/bytealg.IndexString"], named := ["unicode/utf8.first", "unicode/utf8.acceptRanges", "internal/bytealg.MaxLen"], apart := false, laid := [("unicode/utf8.acceptRanges", laid_unicode_utf8_acceptRanges), ("unicode/utf8.first", laid_unicode_utf8_first)] }
def PhyAgainSaid : Prop := phyAgainRow.holds Tryd.pinned (OpenSpec.ofChange phyAgainSpec)

/-- ITS FALSE NEIGHBOUR: 'it returns false'. Refute it at one input. -/
def phyAgainWrong : ChangeSpec := { name := "phyAgain", fn := fun _ => fun
  | [d1, d2, d3] => { results := [.lit (.bool false)], args := [d1, d2, d3] }
  | _ => none }
def PhyAgainWrongFalsely : Prop := phyAgainRow.holds Tryd.pinned (OpenSpec.ofChange phyAgainWrong)

/-- 'plugkeep.PhyCuts': WHATEVER THE INPUT: true; the input reads as it did. -/
def phyCutsSpec : ChangeSpec := { name := "phyCuts", fn := fun _ => fun
  | [d1, d2, d3] => { results := [.lit (.bool true)], args := [d1, d2, d3] }
  | _ => none }
def phyCutsRow : OpenClaim := { program := "ytmajeonfblcfnaadoor", sum := "521fd33b3bf1a68dca9cb93f07fe1da441c5bcc60726c9904628002aa92acbdd", func := "plugtree/plugkeep.PhyCuts", spec := "phyCuts", inPlace := ["internal/bytealg.IndexByteString", "internal/bytealg.IndexString", "internal/abi.NoEscape"], named := ["unicode/utf8.first", "unicode/utf8.acceptRanges", "internal/bytealg.MaxLen"], apart := false, laid := [("unicode/utf8.acceptRanges", laid_unicode_utf8_acceptRanges), ("unicode/utf8.first", laid_unicode_utf8_first)] }
def PhyCutsSaid : Prop := phyCutsRow.holds Tryd.pinned (OpenSpec.ofChange phyCutsSpec)

/-- ITS FALSE NEIGHBOUR: 'it returns false'. Refute it at one input. -/
def phyCutsWrong : ChangeSpec := { name := "phyCuts", fn := fun _ => fun
  | [d1, d2, d3] => { results := [.lit (.bool false)], args := [d1, d2, d3] }
  | _ => none }
def PhyCutsWrongFalsely : Prop := phyCutsRow.holds Tryd.pinned (OpenSpec.ofChange phyCutsWrong)

/-- 'plugkeep.PhyBack': WHATEVER THE INPUT: true; the input reads as it did. -/
def phyBackSpec : ChangeSpec := { name := "phyBack", fn := fun _ => fun
  | [d1, d2] => { results := [.lit (.bool true)], args := [d1, d2] }
  | _ => none }
def phyBackRow : OpenClaim := { program := "ytmajeonfblcfnaadoor", sum := "521fd33b3bf1a68dca9cb93f07fe1da441c5bcc60726c9904628002aa92acbdd", func := "plugtree/plugkeep.PhyBack", spec := "phyBack", inPlace := ["internal/abi.NoEscape", "internal/bytealg.IndexByteString", "internal/bytealg.IndexString", "internal/bytealg.MakeNoZero"], named := ["unicode/utf8.first", "unicode/utf8.acceptRanges", "internal/bytealg.MaxLen"], apart := false, laid := [("unicode/utf8.acceptRanges", laid_unicode_utf8_acceptRanges), ("unicode/utf8.first", laid_unicode_utf8_first)] }
def PhyBackSaid : Prop := phyBackRow.holds Tryd.pinned (OpenSpec.ofChange phyBackSpec)

/-- ITS FALSE NEIGHBOUR: 'it returns false'. Refute it at one input. -/
def phyBackWrong : ChangeSpec := { name := "phyBack", fn := fun _ => fun
  | [d1, d2] => { results := [.lit (.bool false)], args := [d1, d2] }
  | _ => none }
def PhyBackWrongFalsely : Prop := phyBackRow.holds Tryd.pinned (OpenSpec.ofChange phyBackWrong)

/-- 'plugkeep.PhyTorn': WHATEVER THE INPUT: true; the input reads as it did. -/
def phyTornSpec : ChangeSpec := { name := "phyTorn", fn := fun _ => fun
  | [d1, d2] => { results := [.lit (.bool true)], args := [d1, d2] }
  | _ => none }
def phyTornRow : OpenClaim := { program := "ytmajeonfblcfnaadoor", sum := "521fd33b3bf1a68dca9cb93f07fe1da441c5bcc60726c9904628002aa92acbdd", func := "plugtree/plugkeep.PhyTorn", spec := "phyTorn", inPlace := ["internal/abi.NoEscape", "internal/bytealg.IndexByteString", "internal/bytealg.IndexString", "internal/bytealg.CountString"], named := ["unicode/utf8.first", "unicode/utf8.acceptRanges", "internal/bytealg.MaxLen"], apart := false, laid := [("unicode/utf8.acceptRanges", laid_unicode_utf8_acceptRanges), ("unicode/utf8.first", laid_unicode_utf8_first)] }
def PhyTornSaid : Prop := phyTornRow.holds Tryd.pinned (OpenSpec.ofChange phyTornSpec)

/-- ITS FALSE NEIGHBOUR: 'it returns false'. Refute it at one input. -/
def phyTornWrong : ChangeSpec := { name := "phyTorn", fn := fun _ => fun
  | [d1, d2] => { results := [.lit (.bool false)], args := [d1, d2] }
  | _ => none }
def PhyTornWrongFalsely : Prop := phyTornRow.holds Tryd.pinned (OpenSpec.ofChange phyTornWrong)

/- THE SECOND FORM. 'bulk': how many values and letters a reading holds, each counted each time it is reached (what is shared counts as often as it is met; a slice's spare places count too). A statement '..UptoSaid' is the law's where the arguments, and the package variables that the reading takes, are together of bulk at most 1048576: NARROWER than '..Said'. Prove '..Said' where nothing that the law and all that it calls make is longer than what came in: it says more and counts as full. Else prove '..UptoSaid'. A law counts once. -/
mutual
def uptoBulk {H : Type} : DataW H → Nat
  | .lit (.string bytes) => bytes.length + 1
  | .lit _ => 1
  | .nil => 1
  | .ptr d => uptoBulk d + 1
  | .slice elems spare => uptoBulkAll elems + uptoBulkAll spare + 1
  | .agg parts => uptoBulkAll parts + 1
  | .iface _ d => uptoBulk d + 1
  | .map entries => uptoBulkEntries entries + 1
  | .held _ => 1
def uptoBulkAll {H : Type} : List (DataW H) → Nat
  | [] => 0
  | d :: r => uptoBulk d + uptoBulkAll r
def uptoBulkEntries {H : Type} : List (Lit × DataW H) → Nat
  | [] => 0
  | x :: r => uptoBulkEntry x + uptoBulkEntries r
def uptoBulkEntry {H : Type} : Lit × DataW H → Nat
  | (.string bytes, d) => bytes.length + uptoBulk d + 1
  | (_, d) => uptoBulk d + 1
 end
def uptoSmall : (H : Type) → List (DataW H) → Bool := fun _ ds => decide (uptoBulkAll ds ≤ 1048576)
def OpenSpec.upto (s : _root_.Go.ChangeSpec) : _root_.Go.OpenSpec := { _root_.Go.OpenSpec.ofChange s with cond := some uptoSmall }

/-- 'plugkeep.PhyOne', WHERE WHAT IT READS IS OF BULK AT MOST 1048576: true; the input reads as it did. -/
def phyOneUptoRow : OpenClaim := { program := "ytmajeonfblcfnaadoor", sum := "521fd33b3bf1a68dca9cb93f07fe1da441c5bcc60726c9904628002aa92acbdd", func := "plugtree/plugkeep.PhyOne", spec := "phyOne", inPlace := ["internal/abi.NoEscape", "internal/bytealg.IndexByteString", "internal/bytealg.IndexString"], named := ["unicode/utf8.first", "unicode/utf8.acceptRanges", "internal/bytealg.MaxLen"], apart := false, laid := [("unicode/utf8.acceptRanges", laid_unicode_utf8_acceptRanges), ("unicode/utf8.first", laid_unicode_utf8_first)], narrowed := true }
def PhyOneUptoSaid : Prop := phyOneUptoRow.holds Tryd.pinned (OpenSpec.upto phyOneSpec)

/-- 'plugkeep.PhyAgain', WHERE WHAT IT READS IS OF BULK AT MOST 1048576: true; the input reads as it did. -/
def phyAgainUptoRow : OpenClaim := { program := "ytmajeonfblcfnaadoor", sum := "521fd33b3bf1a68dca9cb93f07fe1da441c5bcc60726c9904628002aa92acbdd", func := "plugtree/plugkeep.PhyAgain", spec := "phyAgain", inPlace := ["internal/abi.NoEscape", "internal/bytealg.IndexByteString", "internal/bytealg.IndexString"], named := ["unicode/utf8.first", "unicode/utf8.acceptRanges", "internal/bytealg.MaxLen"], apart := false, laid := [("unicode/utf8.acceptRanges", laid_unicode_utf8_acceptRanges), ("unicode/utf8.first", laid_unicode_utf8_first)], narrowed := true }
def PhyAgainUptoSaid : Prop := phyAgainUptoRow.holds Tryd.pinned (OpenSpec.upto phyAgainSpec)

/-- 'plugkeep.PhyCuts', WHERE WHAT IT READS IS OF BULK AT MOST 1048576: true; the input reads as it did. -/
def phyCutsUptoRow : OpenClaim := { program := "ytmajeonfblcfnaadoor", sum := "521fd33b3bf1a68dca9cb93f07fe1da441c5bcc60726c9904628002aa92acbdd", func := "plugtree/plugkeep.PhyCuts", spec := "phyCuts", inPlace := ["internal/bytealg.IndexByteString", "internal/bytealg.IndexString", "internal/abi.NoEscape"], named := ["unicode/utf8.first", "unicode/utf8.acceptRanges", "internal/bytealg.MaxLen"], apart := false, laid := [("unicode/utf8.acceptRanges", laid_unicode_utf8_acceptRanges), ("unicode/utf8.first", laid_unicode_utf8_first)], narrowed := true }
def PhyCutsUptoSaid : Prop := phyCutsUptoRow.holds Tryd.pinned (OpenSpec.upto phyCutsSpec)

/-- 'plugkeep.PhyBack', WHERE WHAT IT READS IS OF BULK AT MOST 1048576: true; the input reads as it did. -/
def phyBackUptoRow : OpenClaim := { program := "ytmajeonfblcfnaadoor", sum := "521fd33b3bf1a68dca9cb93f07fe1da441c5bcc60726c9904628002aa92acbdd", func := "plugtree/plugkeep.PhyBack", spec := "phyBack", inPlace := ["internal/abi.NoEscape", "internal/bytealg.IndexByteString", "internal/bytealg.IndexString", "internal/bytealg.MakeNoZero"], named := ["unicode/utf8.first", "unicode/utf8.acceptRanges", "internal/bytealg.MaxLen"], apart := false, laid := [("unicode/utf8.acceptRanges", laid_unicode_utf8_acceptRanges), ("unicode/utf8.first", laid_unicode_utf8_first)], narrowed := true }
def PhyBackUptoSaid : Prop := phyBackUptoRow.holds Tryd.pinned (OpenSpec.upto phyBackSpec)

/-- 'plugkeep.PhyTorn', WHERE WHAT IT READS IS OF BULK AT MOST 1048576: true; the input reads as it did. -/
def phyTornUptoRow : OpenClaim := { program := "ytmajeonfblcfnaadoor", sum := "521fd33b3bf1a68dca9cb93f07fe1da441c5bcc60726c9904628002aa92acbdd", func := "plugtree/plugkeep.PhyTorn", spec := "phyTorn", inPlace := ["internal/abi.NoEscape", "internal/bytealg.IndexByteString", "internal/bytealg.IndexString", "internal/bytealg.CountString"], named := ["unicode/utf8.first", "unicode/utf8.acceptRanges", "internal/bytealg.MaxLen"], apart := false, laid := [("unicode/utf8.acceptRanges", laid_unicode_utf8_acceptRanges), ("unicode/utf8.first", laid_unicode_utf8_first)], narrowed := true }
def PhyTornUptoSaid : Prop := phyTornUptoRow.holds Tryd.pinned (OpenSpec.upto phyTornSpec)

end Rows
end Go.Proofs.YtmajeonfblcfnaaDoor
