/-
  No cell of these rows narrows 'for every input' (looked for: loops, veiled, ifaces, maps, wideKeys, modest, calm, conditions, laid).
  DERIVED. THE GIVEN ROWS OF THIS SEAT. 6 by the template 'for every input the law returns true; each argument reads behind the call as it read before'; 0 by the template 'total and deterministic' (their statements: YtmnfajndklmpbaaTotals.lean).
  GIVEN WITH THE SEED: the statements are not yours to turn. If you find one false, say at which input.
  Laid BY PROGRAM, IN A SANDBOX (cutbox-rows.mjs): the forced cells as the released guide's own fill.sh prints them over the translation 004d40f2cc070245… (all of the seat's roots in one cut). By AI agents, Wed Nov 11 2026. No macro, syntax, notation, axiom, sorry.
-/
import Derived.Test.YtmnfajndklmpbaaChecked
import GoSem.Claim
import GoSem.ClaimJoined
import GoSem.ClaimMapViews
import Derived.JoinedTies
import Derived.KernelRfl
namespace Go.Proofs.Ytmnfajndklmpbaa
/- THE CELL 'sum', in the pinned program and in every row, IS THE sha256 OF THE DUMP (.gsa) THAT YtmnfajndklmpbaaProg.lean LOADS. Nothing in Lean hashes anything: it is a label: what it is worth is what the hold of that sum in a sandbox is worth. -/
noncomputable def Try.pinned : Pinned := { name := "ytmnfajndklmpbaa", sum := "004d40f2cc0702459c1e950594b613fb0a0aaef4e051e7888202a1a9afab6c3e", checked := Try.checked }
namespace Rows
def none {H : Type} : Left H := { results := [], args := [] }

/-- 'plugkeep.SlotsKeep': WHATEVER THE INPUT: true; the input reads as it did. -/
def slotsKeepSpec : ChangeSpec := { name := "slotsKeep", fn := fun _ => fun
  | [d1, d2] => { results := [.lit (.bool true)], args := [d1, d2] }
  | _ => none }
def slotsKeepRow : OpenClaim := { program := "ytmnfajndklmpbaa", sum := "004d40f2cc0702459c1e950594b613fb0a0aaef4e051e7888202a1a9afab6c3e", func := "plugtree/plugkeep.SlotsKeep", spec := "slotsKeep", apart := false }
def SlotsKeepSaid : Prop := slotsKeepRow.holds Try.pinned (OpenSpec.ofChange slotsKeepSpec)

/-- ITS FALSE NEIGHBOUR: 'it returns false'. Refute it at one input. -/
def slotsKeepWrong : ChangeSpec := { name := "slotsKeep", fn := fun _ => fun
  | [d1, d2] => { results := [.lit (.bool false)], args := [d1, d2] }
  | _ => none }
def SlotsKeepWrongFalsely : Prop := slotsKeepRow.holds Try.pinned (OpenSpec.ofChange slotsKeepWrong)

/-- 'plugkeep.SlotsRight': WHATEVER THE INPUT: true; the input reads as it did. -/
def slotsRightSpec : ChangeSpec := { name := "slotsRight", fn := fun _ => fun
  | [d] => { results := [.lit (.bool true)], args := [d] }
  | _ => none }
def slotsRightRow : OpenClaim := { program := "ytmnfajndklmpbaa", sum := "004d40f2cc0702459c1e950594b613fb0a0aaef4e051e7888202a1a9afab6c3e", func := "plugtree/plugkeep.SlotsRight", spec := "slotsRight", apart := false }
def SlotsRightSaid : Prop := slotsRightRow.holds Try.pinned (OpenSpec.ofChange slotsRightSpec)

/-- ITS FALSE NEIGHBOUR: 'it returns false'. Refute it at one input. -/
def slotsRightWrong : ChangeSpec := { name := "slotsRight", fn := fun _ => fun
  | [d] => { results := [.lit (.bool false)], args := [d] }
  | _ => none }
def SlotsRightWrongFalsely : Prop := slotsRightRow.holds Try.pinned (OpenSpec.ofChange slotsRightWrong)

/-- 'plugkeep.SlotsBack': WHATEVER THE INPUT: true; the input reads as it did. -/
def slotsBackSpec : ChangeSpec := { name := "slotsBack", fn := fun _ => fun
  | [d] => { results := [.lit (.bool true)], args := [d] }
  | _ => none }
def slotsBackRow : OpenClaim := { program := "ytmnfajndklmpbaa", sum := "004d40f2cc0702459c1e950594b613fb0a0aaef4e051e7888202a1a9afab6c3e", func := "plugtree/plugkeep.SlotsBack", spec := "slotsBack", apart := false }
def SlotsBackSaid : Prop := slotsBackRow.holds Try.pinned (OpenSpec.ofChange slotsBackSpec)

/-- ITS FALSE NEIGHBOUR: 'it returns false'. Refute it at one input. -/
def slotsBackWrong : ChangeSpec := { name := "slotsBack", fn := fun _ => fun
  | [d] => { results := [.lit (.bool false)], args := [d] }
  | _ => none }
def SlotsBackWrongFalsely : Prop := slotsBackRow.holds Try.pinned (OpenSpec.ofChange slotsBackWrong)

/-- 'plugkeep.SlotsTwice': WHATEVER THE INPUT: true; the input reads as it did. -/
def slotsTwiceSpec : ChangeSpec := { name := "slotsTwice", fn := fun _ => fun
  | [d1, d2, d3, d4] => { results := [.lit (.bool true)], args := [d1, d2, d3, d4] }
  | _ => none }
def slotsTwiceRow : OpenClaim := { program := "ytmnfajndklmpbaa", sum := "004d40f2cc0702459c1e950594b613fb0a0aaef4e051e7888202a1a9afab6c3e", func := "plugtree/plugkeep.SlotsTwice", spec := "slotsTwice", apart := false }
def SlotsTwiceSaid : Prop := slotsTwiceRow.holds Try.pinned (OpenSpec.ofChange slotsTwiceSpec)

/-- ITS FALSE NEIGHBOUR: 'it returns false'. Refute it at one input. -/
def slotsTwiceWrong : ChangeSpec := { name := "slotsTwice", fn := fun _ => fun
  | [d1, d2, d3, d4] => { results := [.lit (.bool false)], args := [d1, d2, d3, d4] }
  | _ => none }
def SlotsTwiceWrongFalsely : Prop := slotsTwiceRow.holds Try.pinned (OpenSpec.ofChange slotsTwiceWrong)

/-- 'plugkeep.SlotsFull': WHATEVER THE INPUT: true; the input reads as it did. -/
def slotsFullSpec : ChangeSpec := { name := "slotsFull", fn := fun _ => fun
  | [d] => { results := [.lit (.bool true)], args := [d] }
  | _ => none }
def slotsFullRow : OpenClaim := { program := "ytmnfajndklmpbaa", sum := "004d40f2cc0702459c1e950594b613fb0a0aaef4e051e7888202a1a9afab6c3e", func := "plugtree/plugkeep.SlotsFull", spec := "slotsFull", apart := false }
def SlotsFullSaid : Prop := slotsFullRow.holds Try.pinned (OpenSpec.ofChange slotsFullSpec)

/-- ITS FALSE NEIGHBOUR: 'it returns false'. Refute it at one input. -/
def slotsFullWrong : ChangeSpec := { name := "slotsFull", fn := fun _ => fun
  | [d] => { results := [.lit (.bool false)], args := [d] }
  | _ => none }
def SlotsFullWrongFalsely : Prop := slotsFullRow.holds Try.pinned (OpenSpec.ofChange slotsFullWrong)

/-- 'plugkeep.SlotsHeal': WHATEVER THE INPUT: true; the input reads as it did. -/
def slotsHealSpec : ChangeSpec := { name := "slotsHeal", fn := fun _ => fun
  | [d1, d2, d3, d4] => { results := [.lit (.bool true)], args := [d1, d2, d3, d4] }
  | _ => none }
def slotsHealRow : OpenClaim := { program := "ytmnfajndklmpbaa", sum := "004d40f2cc0702459c1e950594b613fb0a0aaef4e051e7888202a1a9afab6c3e", func := "plugtree/plugkeep.SlotsHeal", spec := "slotsHeal", apart := false }
def SlotsHealSaid : Prop := slotsHealRow.holds Try.pinned (OpenSpec.ofChange slotsHealSpec)

/-- ITS FALSE NEIGHBOUR: 'it returns false'. Refute it at one input. -/
def slotsHealWrong : ChangeSpec := { name := "slotsHeal", fn := fun _ => fun
  | [d1, d2, d3, d4] => { results := [.lit (.bool false)], args := [d1, d2, d3, d4] }
  | _ => none }
def SlotsHealWrongFalsely : Prop := slotsHealRow.holds Try.pinned (OpenSpec.ofChange slotsHealWrong)

/- THE SECOND FORM. 'bulk': how many values and letters a reading holds, each counted each time it is reached (what is shared counts as often as it is met; a slice's spare places count too). A statement '..UptoSaid' is the law's where the arguments, and the package variables that the reading takes, are together of bulk at most 1048576: NARROWER than '..Said'. Prove '..Said' where nothing that the law and all that it calls make is longer than what came in: it says more and counts as full. Else prove '..UptoSaid'. A law counts once. -/
mutual
def uptoBulk {H : Type} : DataW H → Nat
  | .lit (.string bytes) => bytes.length + 1
  | .lit _ => 1
  | .nil => 1
  | .ptr d => uptoBulk d + 1
  | .slice elems spare => uptoBulkAll elems + uptoBulkAll spare + 1
  | .agg parts => uptoBulkAll parts + 1
  | .iface _ d => uptoBulk d + 1
  | .map entries => uptoBulkEntries entries + 1
  | .held _ => 1
def uptoBulkAll {H : Type} : List (DataW H) → Nat
  | [] => 0
  | d :: r => uptoBulk d + uptoBulkAll r
def uptoBulkEntries {H : Type} : List (Lit × DataW H) → Nat
  | [] => 0
  | x :: r => uptoBulkEntry x + uptoBulkEntries r
def uptoBulkEntry {H : Type} : Lit × DataW H → Nat
  | (.string bytes, d) => bytes.length + uptoBulk d + 1
  | (_, d) => uptoBulk d + 1
 end
def uptoSmall : (H : Type) → List (DataW H) → Bool := fun _ ds => decide (uptoBulkAll ds ≤ 1048576)
def OpenSpec.upto (s : _root_.Go.ChangeSpec) : _root_.Go.OpenSpec := { _root_.Go.OpenSpec.ofChange s with cond := some uptoSmall }

/-- 'plugkeep.SlotsKeep', WHERE WHAT IT READS IS OF BULK AT MOST 1048576: true; the input reads as it did. -/
def slotsKeepUptoRow : OpenClaim := { program := "ytmnfajndklmpbaa", sum := "004d40f2cc0702459c1e950594b613fb0a0aaef4e051e7888202a1a9afab6c3e", func := "plugtree/plugkeep.SlotsKeep", spec := "slotsKeep", apart := false, narrowed := true }
def SlotsKeepUptoSaid : Prop := slotsKeepUptoRow.holds Try.pinned (OpenSpec.upto slotsKeepSpec)

/-- 'plugkeep.SlotsRight', WHERE WHAT IT READS IS OF BULK AT MOST 1048576: true; the input reads as it did. -/
def slotsRightUptoRow : OpenClaim := { program := "ytmnfajndklmpbaa", sum := "004d40f2cc0702459c1e950594b613fb0a0aaef4e051e7888202a1a9afab6c3e", func := "plugtree/plugkeep.SlotsRight", spec := "slotsRight", apart := false, narrowed := true }
def SlotsRightUptoSaid : Prop := slotsRightUptoRow.holds Try.pinned (OpenSpec.upto slotsRightSpec)

/-- 'plugkeep.SlotsBack', WHERE WHAT IT READS IS OF BULK AT MOST 1048576: true; the input reads as it did. -/
def slotsBackUptoRow : OpenClaim := { program := "ytmnfajndklmpbaa", sum := "004d40f2cc0702459c1e950594b613fb0a0aaef4e051e7888202a1a9afab6c3e", func := "plugtree/plugkeep.SlotsBack", spec := "slotsBack", apart := false, narrowed := true }
def SlotsBackUptoSaid : Prop := slotsBackUptoRow.holds Try.pinned (OpenSpec.upto slotsBackSpec)

/-- 'plugkeep.SlotsTwice', WHERE WHAT IT READS IS OF BULK AT MOST 1048576: true; the input reads as it did. -/
def slotsTwiceUptoRow : OpenClaim := { program := "ytmnfajndklmpbaa", sum := "004d40f2cc0702459c1e950594b613fb0a0aaef4e051e7888202a1a9afab6c3e", func := "plugtree/plugkeep.SlotsTwice", spec := "slotsTwice", apart := false, narrowed := true }
def SlotsTwiceUptoSaid : Prop := slotsTwiceUptoRow.holds Try.pinned (OpenSpec.upto slotsTwiceSpec)

/-- 'plugkeep.SlotsFull', WHERE WHAT IT READS IS OF BULK AT MOST 1048576: true; the input reads as it did. -/
def slotsFullUptoRow : OpenClaim := { program := "ytmnfajndklmpbaa", sum := "004d40f2cc0702459c1e950594b613fb0a0aaef4e051e7888202a1a9afab6c3e", func := "plugtree/plugkeep.SlotsFull", spec := "slotsFull", apart := false, narrowed := true }
def SlotsFullUptoSaid : Prop := slotsFullUptoRow.holds Try.pinned (OpenSpec.upto slotsFullSpec)

/-- 'plugkeep.SlotsHeal', WHERE WHAT IT READS IS OF BULK AT MOST 1048576: true; the input reads as it did. -/
def slotsHealUptoRow : OpenClaim := { program := "ytmnfajndklmpbaa", sum := "004d40f2cc0702459c1e950594b613fb0a0aaef4e051e7888202a1a9afab6c3e", func := "plugtree/plugkeep.SlotsHeal", spec := "slotsHeal", apart := false, narrowed := true }
def SlotsHealUptoSaid : Prop := slotsHealUptoRow.holds Try.pinned (OpenSpec.upto slotsHealSpec)

end Rows
end Go.Proofs.Ytmnfajndklmpbaa
