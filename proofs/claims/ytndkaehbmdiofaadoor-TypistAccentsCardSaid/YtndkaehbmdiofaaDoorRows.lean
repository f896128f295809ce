/-
  NARROWER THAN 'FOR EVERY INPUT', by the rows' own cells (each row's printed sentence says how): TypistWords: laid · TypistCaps: laid · TypistRepeats: laid · TypistCuts: laid · TypistAccents: laid · TypistUtf: laid.
  DERIVED. THE GIVEN ROWS OF THIS SEAT. 6 by the template 'for every input the law returns true; each argument reads behind the call as it read before'; 0 by the template 'total and deterministic' (their statements: YtndkaehbmdiofaaDoorTotals.lean).
  GIVEN WITH THE SEED: the statements are not yours to turn. If you find one false, say at which input.
  Laid BY PROGRAM, IN A SANDBOX (cutbox-rows.mjs): the forced cells as the released guide's own fill.sh prints them over the translation d5e375e5e5da390c… (all of the seat's roots in one cut). By AI agents, Wed Nov 11 2026. No macro, syntax, notation, axiom, sorry.
-/
import Derived.Test.YtndkaehbmdiofaaDoorChecked
import GoSem.PinnedTables
import GoSem.Claim
import GoSem.ClaimJoined
import GoSem.ClaimMapViews
import Derived.JoinedTies
import Derived.KernelRfl
namespace Go.Proofs.YtndkaehbmdiofaaDoor
/- THE CELL 'sum', in the pinned program and in every row, IS THE sha256 OF THE DUMP (.gsa) THAT YtndkaehbmdiofaaDoorProg.lean LOADS. Nothing in Lean hashes anything: it is a label: what it is worth is what the hold of that sum in a sandbox is worth. -/
noncomputable def Tryd.pinned : Pinned := { name := "ytndkaehbmdiofaadoor", sum := "d5e375e5e5da390ca138ebb6ebffa608b53b6e57e6a793c8dbfa547de9db7dbc", checked := Tryd.checked }
namespace Rows
def none {H : Type} : Left H := { results := [], args := [] }

/- WHAT THE LISTED PACKAGE-LEVEL VARIABLES READ AS WHEN THE CALL BEGINS. Each datum BY PROGRAM (the guide's laid-datum.mjs) off the statement by which the dump's own 'gosem.cut.vars' lays the variable. In a bare row this is a premise. The card (YtndkaehbmdiofaaDoorCards.lean) ties it to the program's text. -/
def laid_unicode_utf8_acceptRanges {H : Type} : DataW H := .agg [.agg [.lit (.int .u8 128), .lit (.int .u8 191)], .agg [.lit (.int .u8 160), .lit (.int .u8 191)], .agg [.lit (.int .u8 128), .lit (.int .u8 159)], .agg [.lit (.int .u8 144), .lit (.int .u8 191)], .agg [.lit (.int .u8 128), .lit (.int .u8 143)], .agg [.lit (.int .u8 0), .lit (.int .u8 0)], .agg [.lit (.int .u8 0), .lit (.int .u8 0)], .agg [.lit (.int .u8 0), .lit (.int .u8 0)], .agg [.lit (.int .u8 0), .lit (.int .u8 0)], .agg [.lit (.int .u8 0), .lit (.int .u8 0)], .agg [.lit (.int .u8 0), .lit (.int .u8 0)], .agg [.lit (.int .u8 0), .lit (.int .u8 0)], .agg [.lit (.int .u8 0), .lit (.int .u8 0)], .agg [.lit (.int .u8 0), .lit (.int .u8 0)], .agg [.lit (.int .u8 0), .lit (.int .u8 0)], .agg [.lit (.int .u8 0), .lit (.int .u8 0)]]
/-- One of Go's own tables, pinned by name: the form's constant. -/
def laid_unicode_utf8_first : DataW Unit := Go.Pinned.utf8First

/-- 'plugkeep.TypistWords': WHATEVER THE INPUT: true; the input reads as it did. -/
def typistWordsSpec : ChangeSpec := { name := "typistWords", fn := fun _ => fun
  | [d1, d2] => { results := [.lit (.bool true)], args := [d1, d2] }
  | _ => none }
def typistWordsRow : OpenClaim := { program := "ytndkaehbmdiofaadoor", sum := "d5e375e5e5da390ca138ebb6ebffa608b53b6e57e6a793c8dbfa547de9db7dbc", func := "plugtree/plugkeep.TypistWords", spec := "typistWords", inPlace := ["internal/bytealg.IndexByteString", "internal/bytealg.IndexString"], named := ["unicode/utf8.first", "unicode/utf8.acceptRanges", "internal/bytealg.MaxLen"], apart := false, laid := [("unicode/utf8.acceptRanges", laid_unicode_utf8_acceptRanges), ("unicode/utf8.first", laid_unicode_utf8_first)] }
def TypistWordsSaid : Prop := typistWordsRow.holds Tryd.pinned (OpenSpec.ofChange typistWordsSpec)

/-- ITS FALSE NEIGHBOUR: 'it returns false'. Refute it at one input. -/
def typistWordsWrong : ChangeSpec := { name := "typistWords", fn := fun _ => fun
  | [d1, d2] => { results := [.lit (.bool false)], args := [d1, d2] }
  | _ => none }
def TypistWordsWrongFalsely : Prop := typistWordsRow.holds Tryd.pinned (OpenSpec.ofChange typistWordsWrong)

/-- 'plugkeep.TypistCaps': WHATEVER THE INPUT: true; the input reads as it did. -/
def typistCapsSpec : ChangeSpec := { name := "typistCaps", fn := fun _ => fun
  | [d1, d2] => { results := [.lit (.bool true)], args := [d1, d2] }
  | _ => none }
def typistCapsRow : OpenClaim := { program := "ytndkaehbmdiofaadoor", sum := "d5e375e5e5da390ca138ebb6ebffa608b53b6e57e6a793c8dbfa547de9db7dbc", func := "plugtree/plugkeep.TypistCaps", spec := "typistCaps", inPlace := ["internal/bytealg.IndexByteString", "internal/bytealg.IndexString"], named := ["unicode/utf8.first", "unicode/utf8.acceptRanges", "internal/bytealg.MaxLen"], apart := false, laid := [("unicode/utf8.acceptRanges", laid_unicode_utf8_acceptRanges), ("unicode/utf8.first", laid_unicode_utf8_first)] }
def TypistCapsSaid : Prop := typistCapsRow.holds Tryd.pinned (OpenSpec.ofChange typistCapsSpec)

/-- ITS FALSE NEIGHBOUR: 'it returns false'. Refute it at one input. -/
def typistCapsWrong : ChangeSpec := { name := "typistCaps", fn := fun _ => fun
  | [d1, d2] => { results := [.lit (.bool false)], args := [d1, d2] }
  | _ => none }
def TypistCapsWrongFalsely : Prop := typistCapsRow.holds Tryd.pinned (OpenSpec.ofChange typistCapsWrong)

/-- 'plugkeep.TypistRepeats': WHATEVER THE INPUT: true; the input reads as it did. -/
def typistRepeatsSpec : ChangeSpec := { name := "typistRepeats", fn := fun _ => fun
  | [d1, d2] => { results := [.lit (.bool true)], args := [d1, d2] }
  | _ => none }
def typistRepeatsRow : OpenClaim := { program := "ytndkaehbmdiofaadoor", sum := "d5e375e5e5da390ca138ebb6ebffa608b53b6e57e6a793c8dbfa547de9db7dbc", func := "plugtree/plugkeep.TypistRepeats", spec := "typistRepeats", inPlace := ["internal/bytealg.IndexByteString", "internal/bytealg.IndexString"], named := ["unicode/utf8.first", "unicode/utf8.acceptRanges", "internal/bytealg.MaxLen"], apart := false, laid := [("unicode/utf8.acceptRanges", laid_unicode_utf8_acceptRanges), ("unicode/utf8.first", laid_unicode_utf8_first)] }
def TypistRepeatsSaid : Prop := typistRepeatsRow.holds Tryd.pinned (OpenSpec.ofChange typistRepeatsSpec)

/-- ITS FALSE NEIGHBOUR: 'it returns false'. Refute it at one input. -/
def typistRepeatsWrong : ChangeSpec := { name := "typistRepeats", fn := fun _ => fun
  | [d1, d2] => { results := [.lit (.bool false)], args := [d1, d2] }
  | _ => none }
def TypistRepeatsWrongFalsely : Prop := typistRepeatsRow.holds Tryd.pinned (OpenSpec.ofChange typistRepeatsWrong)

/-- 'plugkeep.TypistCuts': WHATEVER THE INPUT: true; the input reads as it did. -/
def typistCutsSpec : ChangeSpec := { name := "typistCuts", fn := fun _ => fun
  | [d1, d2, d3] => { results := [.lit (.bool true)], args := [d1, d2, d3] }
  | _ => none }
def typistCutsRow : OpenClaim := { program := "ytndkaehbmdiofaadoor", sum := "d5e375e5e5da390ca138ebb6ebffa608b53b6e57e6a793c8dbfa547de9db7dbc", func := "plugtree/plugkeep.TypistCuts", spec := "typistCuts", inPlace := ["internal/bytealg.IndexByteString", "internal/bytealg.IndexString"], named := ["unicode/utf8.first", "unicode/utf8.acceptRanges", "internal/bytealg.MaxLen"], apart := false, laid := [("unicode/utf8.acceptRanges", laid_unicode_utf8_acceptRanges), ("unicode/utf8.first", laid_unicode_utf8_first)] }
def TypistCutsSaid : Prop := typistCutsRow.holds Tryd.pinned (OpenSpec.ofChange typistCutsSpec)

/-- ITS FALSE NEIGHBOUR: 'it returns false'. Refute it at one input. -/
def typistCutsWrong : ChangeSpec := { name := "typistCuts", fn := fun _ => fun
  | [d1, d2, d3] => { results := [.lit (.bool false)], args := [d1, d2, d3] }
  | _ => none }
def TypistCutsWrongFalsely : Prop := typistCutsRow.holds Tryd.pinned (OpenSpec.ofChange typistCutsWrong)

/-- 'plugkeep.TypistAccents': WHATEVER THE INPUT: true; the input reads as it did. -/
def typistAccentsSpec : ChangeSpec := { name := "typistAccents", fn := fun _ => fun
  | [d1, d2] => { results := [.lit (.bool true)], args := [d1, d2] }
  | _ => none }
def typistAccentsRow : OpenClaim := { program := "ytndkaehbmdiofaadoor", sum := "d5e375e5e5da390ca138ebb6ebffa608b53b6e57e6a793c8dbfa547de9db7dbc", func := "plugtree/plugkeep.TypistAccents", spec := "typistAccents", inPlace := ["internal/bytealg.IndexByteString", "internal/bytealg.IndexString"], named := ["unicode/utf8.first", "unicode/utf8.acceptRanges", "internal/bytealg.MaxLen"], apart := false, laid := [("unicode/utf8.acceptRanges", laid_unicode_utf8_acceptRanges), ("unicode/utf8.first", laid_unicode_utf8_first)] }
def TypistAccentsSaid : Prop := typistAccentsRow.holds Tryd.pinned (OpenSpec.ofChange typistAccentsSpec)

/-- ITS FALSE NEIGHBOUR: 'it returns false'. Refute it at one input. -/
def typistAccentsWrong : ChangeSpec := { name := "typistAccents", fn := fun _ => fun
  | [d1, d2] => { results := [.lit (.bool false)], args := [d1, d2] }
  | _ => none }
def TypistAccentsWrongFalsely : Prop := typistAccentsRow.holds Tryd.pinned (OpenSpec.ofChange typistAccentsWrong)

/-- 'plugkeep.TypistUtf': WHATEVER THE INPUT: true; the input reads as it did. -/
def typistUtfSpec : ChangeSpec := { name := "typistUtf", fn := fun _ => fun
  | [d1, d2] => { results := [.lit (.bool true)], args := [d1, d2] }
  | _ => none }
def typistUtfRow : OpenClaim := { program := "ytndkaehbmdiofaadoor", sum := "d5e375e5e5da390ca138ebb6ebffa608b53b6e57e6a793c8dbfa547de9db7dbc", func := "plugtree/plugkeep.TypistUtf", spec := "typistUtf", inPlace := ["internal/bytealg.IndexByteString", "internal/bytealg.IndexString"], named := ["unicode/utf8.first", "unicode/utf8.acceptRanges", "internal/bytealg.MaxLen"], apart := false, laid := [("unicode/utf8.acceptRanges", laid_unicode_utf8_acceptRanges), ("unicode/utf8.first", laid_unicode_utf8_first)] }
def TypistUtfSaid : Prop := typistUtfRow.holds Tryd.pinned (OpenSpec.ofChange typistUtfSpec)

/-- ITS FALSE NEIGHBOUR: 'it returns false'. Refute it at one input. -/
def typistUtfWrong : ChangeSpec := { name := "typistUtf", fn := fun _ => fun
  | [d1, d2] => { results := [.lit (.bool false)], args := [d1, d2] }
  | _ => none }
def TypistUtfWrongFalsely : Prop := typistUtfRow.holds Tryd.pinned (OpenSpec.ofChange typistUtfWrong)

/- THE SECOND FORM. 'bulk': how many values and letters a reading holds, each counted each time it is reached (what is shared counts as often as it is met; a slice's spare places count too). A statement '..UptoSaid' is the law's where the arguments, and the package variables that the reading takes, are together of bulk at most 1048576: NARROWER than '..Said'. Prove '..Said' where nothing that the law and all that it calls make is longer than what came in: it says more and counts as full. Else prove '..UptoSaid'. A law counts once. -/
mutual
def uptoBulk {H : Type} : DataW H → Nat
  | .lit (.string bytes) => bytes.length + 1
  | .lit _ => 1
  | .nil => 1
  | .ptr d => uptoBulk d + 1
  | .slice elems spare => uptoBulkAll elems + uptoBulkAll spare + 1
  | .agg parts => uptoBulkAll parts + 1
  | .iface _ d => uptoBulk d + 1
  | .map entries => uptoBulkEntries entries + 1
  | .held _ => 1
def uptoBulkAll {H : Type} : List (DataW H) → Nat
  | [] => 0
  | d :: r => uptoBulk d + uptoBulkAll r
def uptoBulkEntries {H : Type} : List (Lit × DataW H) → Nat
  | [] => 0
  | x :: r => uptoBulkEntry x + uptoBulkEntries r
def uptoBulkEntry {H : Type} : Lit × DataW H → Nat
  | (.string bytes, d) => bytes.length + uptoBulk d + 1
  | (_, d) => uptoBulk d + 1
 end
def uptoSmall : (H : Type) → List (DataW H) → Bool := fun _ ds => decide (uptoBulkAll ds ≤ 1048576)
def OpenSpec.upto (s : _root_.Go.ChangeSpec) : _root_.Go.OpenSpec := { _root_.Go.OpenSpec.ofChange s with cond := some uptoSmall }

/-- 'plugkeep.TypistWords', WHERE WHAT IT READS IS OF BULK AT MOST 1048576: true; the input reads as it did. -/
def typistWordsUptoRow : OpenClaim := { program := "ytndkaehbmdiofaadoor", sum := "d5e375e5e5da390ca138ebb6ebffa608b53b6e57e6a793c8dbfa547de9db7dbc", func := "plugtree/plugkeep.TypistWords", spec := "typistWords", inPlace := ["internal/bytealg.IndexByteString", "internal/bytealg.IndexString"], named := ["unicode/utf8.first", "unicode/utf8.acceptRanges", "internal/bytealg.MaxLen"], apart := false, laid := [("unicode/utf8.acceptRanges", laid_unicode_utf8_acceptRanges), ("unicode/utf8.first", laid_unicode_utf8_first)], narrowed := true }
def TypistWordsUptoSaid : Prop := typistWordsUptoRow.holds Tryd.pinned (OpenSpec.upto typistWordsSpec)

/-- 'plugkeep.TypistCaps', WHERE WHAT IT READS IS OF BULK AT MOST 1048576: true; the input reads as it did. -/
def typistCapsUptoRow : OpenClaim := { program := "ytndkaehbmdiofaadoor", sum := "d5e375e5e5da390ca138ebb6ebffa608b53b6e57e6a793c8dbfa547de9db7dbc", func := "plugtree/plugkeep.TypistCaps", spec := "typistCaps", inPlace := ["internal/bytealg.IndexByteString", "internal/bytealg.IndexString"], named := ["unicode/utf8.first", "unicode/utf8.acceptRanges", "internal/bytealg.MaxLen"], apart := false, laid := [("unicode/utf8.acceptRanges", laid_unicode_utf8_acceptRanges), ("unicode/utf8.first", laid_unicode_utf8_first)], narrowed := true }
def TypistCapsUptoSaid : Prop := typistCapsUptoRow.holds Tryd.pinned (OpenSpec.upto typistCapsSpec)

/-- 'plugkeep.TypistRepeats', WHERE WHAT IT READS IS OF BULK AT MOST 1048576: true; the input reads as it did. -/
def typistRepeatsUptoRow : OpenClaim := { program := "ytndkaehbmdiofaadoor", sum := "d5e375e5e5da390ca138ebb6ebffa608b53b6e57e6a793c8dbfa547de9db7dbc", func := "plugtree/plugkeep.TypistRepeats", spec := "typistRepeats", inPlace := ["internal/bytealg.IndexByteString", "internal/bytealg.IndexString"], named := ["unicode/utf8.first", "unicode/utf8.acceptRanges", "internal/bytealg.MaxLen"], apart := false, laid := [("unicode/utf8.acceptRanges", laid_unicode_utf8_acceptRanges), ("unicode/utf8.first", laid_unicode_utf8_first)], narrowed := true }
def TypistRepeatsUptoSaid : Prop := typistRepeatsUptoRow.holds Tryd.pinned (OpenSpec.upto typistRepeatsSpec)

/-- 'plugkeep.TypistCuts', WHERE WHAT IT READS IS OF BULK AT MOST 1048576: true; the input reads as it did. -/
def typistCutsUptoRow : OpenClaim := { program := "ytndkaehbmdiofaadoor", sum := "d5e375e5e5da390ca138ebb6ebffa608b53b6e57e6a793c8dbfa547de9db7dbc", func := "plugtree/plugkeep.TypistCuts", spec := "typistCuts", inPlace := ["internal/bytealg.IndexByteString", "internal/bytealg.IndexString"], named := ["unicode/utf8.first", "unicode/utf8.acceptRanges", "internal/bytealg.MaxLen"], apart := false, laid := [("unicode/utf8.acceptRanges", laid_unicode_utf8_acceptRanges), ("unicode/utf8.first", laid_unicode_utf8_first)], narrowed := true }
def TypistCutsUptoSaid : Prop := typistCutsUptoRow.holds Tryd.pinned (OpenSpec.upto typistCutsSpec)

/-- 'plugkeep.TypistAccents', WHERE WHAT IT READS IS OF BULK AT MOST 1048576: true; the input reads as it did. -/
def typistAccentsUptoRow : OpenClaim := { program := "ytndkaehbmdiofaadoor", sum := "d5e375e5e5da390ca138ebb6ebffa608b53b6e57e6a793c8dbfa547de9db7dbc", func := "plugtree/plugkeep.TypistAccents", spec := "typistAccents", inPlace := ["internal/bytealg.IndexByteString", "internal/bytealg.IndexString"], named := ["unicode/utf8.first", "unicode/utf8.acceptRanges", "internal/bytealg.MaxLen"], apart := false, laid := [("unicode/utf8.acceptRanges", laid_unicode_utf8_acceptRanges), ("unicode/utf8.first", laid_unicode_utf8_first)], narrowed := true }
def TypistAccentsUptoSaid : Prop := typistAccentsUptoRow.holds Tryd.pinned (OpenSpec.upto typistAccentsSpec)

/-- 'plugkeep.TypistUtf', WHERE WHAT IT READS IS OF BULK AT MOST 1048576: true; the input reads as it did. -/
def typistUtfUptoRow : OpenClaim := { program := "ytndkaehbmdiofaadoor", sum := "d5e375e5e5da390ca138ebb6ebffa608b53b6e57e6a793c8dbfa547de9db7dbc", func := "plugtree/plugkeep.TypistUtf", spec := "typistUtf", inPlace := ["internal/bytealg.IndexByteString", "internal/bytealg.IndexString"], named := ["unicode/utf8.first", "unicode/utf8.acceptRanges", "internal/bytealg.MaxLen"], apart := false, laid := [("unicode/utf8.acceptRanges", laid_unicode_utf8_acceptRanges), ("unicode/utf8.first", laid_unicode_utf8_first)], narrowed := true }
def TypistUtfUptoSaid : Prop := typistUtfUptoRow.holds Tryd.pinned (OpenSpec.upto typistUtfSpec)

end Rows
end Go.Proofs.YtndkaehbmdiofaaDoor
