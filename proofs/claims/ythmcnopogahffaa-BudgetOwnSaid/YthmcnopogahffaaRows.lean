/-
  No cell of these rows narrows 'for every input' (looked for: loops, veiled, ifaces, maps, wideKeys, modest, calm, conditions, laid).
  DERIVED. THE GIVEN ROWS OF THIS SEAT. 6 by the template 'for every input the law returns true; each argument reads behind the call as it read before'; 0 by the template 'total and deterministic' (their statements: YthmcnopogahffaaTotals.lean).
  GIVEN WITH THE SEED: the statements are not yours to turn. If you find one false, say at which input.
  Laid BY PROGRAM, IN A SANDBOX (cutbox-rows.mjs): the forced cells as the released guide's own fill.sh prints them over the translation 05f6e9c105abbd41… (all of the seat's roots in one cut). By AI agents, Wed Nov 11 2026. No macro, syntax, notation, axiom, sorry.
-/
import Derived.Test.YthmcnopogahffaaChecked
import GoSem.Claim
import GoSem.ClaimJoined
import GoSem.ClaimMapViews
import Derived.JoinedTies
import Derived.KernelRfl
namespace Go.Proofs.Ythmcnopogahffaa
/- THE CELL 'sum', in the pinned program and in every row, IS THE sha256 OF THE DUMP (.gsa) THAT YthmcnopogahffaaProg.lean LOADS. Nothing in Lean hashes anything: it is a label: what it is worth is what the hold of that sum in a sandbox is worth. -/
noncomputable def Try.pinned : Pinned := { name := "ythmcnopogahffaa", sum := "05f6e9c105abbd415999d2559bc7f41ebbcdb8681a805c5b5f07bb15476f91a4", checked := Try.checked }
namespace Rows
def none {H : Type} : Left H := { results := [], args := [] }

/-- 'plugkeep.BudgetKraft': WHATEVER THE INPUT: true; the input reads as it did. -/
def budgetKraftSpec : ChangeSpec := { name := "budgetKraft", fn := fun _ => fun
  | [d1, d2] => { results := [.lit (.bool true)], args := [d1, d2] }
  | _ => none }
def budgetKraftRow : OpenClaim := { program := "ythmcnopogahffaa", sum := "05f6e9c105abbd415999d2559bc7f41ebbcdb8681a805c5b5f07bb15476f91a4", func := "plugtree/plugkeep.BudgetKraft", spec := "budgetKraft", unfollowed := true, recurses := true, apart := false }
def BudgetKraftSaid : Prop := budgetKraftRow.holds Try.pinned (OpenSpec.ofChange budgetKraftSpec)

/-- ITS FALSE NEIGHBOUR: 'it returns false'. Refute it at one input. -/
def budgetKraftWrong : ChangeSpec := { name := "budgetKraft", fn := fun _ => fun
  | [d1, d2] => { results := [.lit (.bool false)], args := [d1, d2] }
  | _ => none }
def BudgetKraftWrongFalsely : Prop := budgetKraftRow.holds Try.pinned (OpenSpec.ofChange budgetKraftWrong)

/-- 'plugkeep.BudgetApart': WHATEVER THE INPUT: true; the input reads as it did. -/
def budgetApartSpec : ChangeSpec := { name := "budgetApart", fn := fun _ => fun
  | [d1, d2] => { results := [.lit (.bool true)], args := [d1, d2] }
  | _ => none }
def budgetApartRow : OpenClaim := { program := "ythmcnopogahffaa", sum := "05f6e9c105abbd415999d2559bc7f41ebbcdb8681a805c5b5f07bb15476f91a4", func := "plugtree/plugkeep.BudgetApart", spec := "budgetApart", unfollowed := true, recurses := true, apart := false }
def BudgetApartSaid : Prop := budgetApartRow.holds Try.pinned (OpenSpec.ofChange budgetApartSpec)

/-- ITS FALSE NEIGHBOUR: 'it returns false'. Refute it at one input. -/
def budgetApartWrong : ChangeSpec := { name := "budgetApart", fn := fun _ => fun
  | [d1, d2] => { results := [.lit (.bool false)], args := [d1, d2] }
  | _ => none }
def BudgetApartWrongFalsely : Prop := budgetApartRow.holds Try.pinned (OpenSpec.ofChange budgetApartWrong)

/-- 'plugkeep.BudgetOther': WHATEVER THE INPUT: true; the input reads as it did. -/
def budgetOtherSpec : ChangeSpec := { name := "budgetOther", fn := fun _ => fun
  | [d1, d2, d3] => { results := [.lit (.bool true)], args := [d1, d2, d3] }
  | _ => none }
def budgetOtherRow : OpenClaim := { program := "ythmcnopogahffaa", sum := "05f6e9c105abbd415999d2559bc7f41ebbcdb8681a805c5b5f07bb15476f91a4", func := "plugtree/plugkeep.BudgetOther", spec := "budgetOther", unfollowed := true, recurses := true, apart := false }
def BudgetOtherSaid : Prop := budgetOtherRow.holds Try.pinned (OpenSpec.ofChange budgetOtherSpec)

/-- ITS FALSE NEIGHBOUR: 'it returns false'. Refute it at one input. -/
def budgetOtherWrong : ChangeSpec := { name := "budgetOther", fn := fun _ => fun
  | [d1, d2, d3] => { results := [.lit (.bool false)], args := [d1, d2, d3] }
  | _ => none }
def BudgetOtherWrongFalsely : Prop := budgetOtherRow.holds Try.pinned (OpenSpec.ofChange budgetOtherWrong)

/-- 'plugkeep.BudgetFewer': WHATEVER THE INPUT: true; the input reads as it did. -/
def budgetFewerSpec : ChangeSpec := { name := "budgetFewer", fn := fun _ => fun
  | [d1, d2, d3] => { results := [.lit (.bool true)], args := [d1, d2, d3] }
  | _ => none }
def budgetFewerRow : OpenClaim := { program := "ythmcnopogahffaa", sum := "05f6e9c105abbd415999d2559bc7f41ebbcdb8681a805c5b5f07bb15476f91a4", func := "plugtree/plugkeep.BudgetFewer", spec := "budgetFewer", unfollowed := true, recurses := true, apart := false }
def BudgetFewerSaid : Prop := budgetFewerRow.holds Try.pinned (OpenSpec.ofChange budgetFewerSpec)

/-- ITS FALSE NEIGHBOUR: 'it returns false'. Refute it at one input. -/
def budgetFewerWrong : ChangeSpec := { name := "budgetFewer", fn := fun _ => fun
  | [d1, d2, d3] => { results := [.lit (.bool false)], args := [d1, d2, d3] }
  | _ => none }
def BudgetFewerWrongFalsely : Prop := budgetFewerRow.holds Try.pinned (OpenSpec.ofChange budgetFewerWrong)

/-- 'plugkeep.BudgetEven': WHATEVER THE INPUT: true; the input reads as it did. -/
def budgetEvenSpec : ChangeSpec := { name := "budgetEven", fn := fun _ => fun
  | [d1, d2, d3, d4] => { results := [.lit (.bool true)], args := [d1, d2, d3, d4] }
  | _ => none }
def budgetEvenRow : OpenClaim := { program := "ythmcnopogahffaa", sum := "05f6e9c105abbd415999d2559bc7f41ebbcdb8681a805c5b5f07bb15476f91a4", func := "plugtree/plugkeep.BudgetEven", spec := "budgetEven", unfollowed := true, recurses := true, apart := false }
def BudgetEvenSaid : Prop := budgetEvenRow.holds Try.pinned (OpenSpec.ofChange budgetEvenSpec)

/-- ITS FALSE NEIGHBOUR: 'it returns false'. Refute it at one input. -/
def budgetEvenWrong : ChangeSpec := { name := "budgetEven", fn := fun _ => fun
  | [d1, d2, d3, d4] => { results := [.lit (.bool false)], args := [d1, d2, d3, d4] }
  | _ => none }
def BudgetEvenWrongFalsely : Prop := budgetEvenRow.holds Try.pinned (OpenSpec.ofChange budgetEvenWrong)

/-- 'plugkeep.BudgetOwn': WHATEVER THE INPUT: true; the input reads as it did. -/
def budgetOwnSpec : ChangeSpec := { name := "budgetOwn", fn := fun _ => fun
  | [d1, d2] => { results := [.lit (.bool true)], args := [d1, d2] }
  | _ => none }
def budgetOwnRow : OpenClaim := { program := "ythmcnopogahffaa", sum := "05f6e9c105abbd415999d2559bc7f41ebbcdb8681a805c5b5f07bb15476f91a4", func := "plugtree/plugkeep.BudgetOwn", spec := "budgetOwn", unfollowed := true, recurses := true, apart := false }
def BudgetOwnSaid : Prop := budgetOwnRow.holds Try.pinned (OpenSpec.ofChange budgetOwnSpec)

/-- ITS FALSE NEIGHBOUR: 'it returns false'. Refute it at one input. -/
def budgetOwnWrong : ChangeSpec := { name := "budgetOwn", fn := fun _ => fun
  | [d1, d2] => { results := [.lit (.bool false)], args := [d1, d2] }
  | _ => none }
def BudgetOwnWrongFalsely : Prop := budgetOwnRow.holds Try.pinned (OpenSpec.ofChange budgetOwnWrong)

/- THE SECOND FORM. 'bulk': how many values and letters a reading holds, each counted each time it is reached (what is shared counts as often as it is met; a slice's spare places count too). A statement '..UptoSaid' is the law's where the arguments, and the package variables that the reading takes, are together of bulk at most 1048576: NARROWER than '..Said'. Prove '..Said' where nothing that the law and all that it calls make is longer than what came in: it says more and counts as full. Else prove '..UptoSaid'. A law counts once. -/
mutual
def uptoBulk {H : Type} : DataW H → Nat
  | .lit (.string bytes) => bytes.length + 1
  | .lit _ => 1
  | .nil => 1
  | .ptr d => uptoBulk d + 1
  | .slice elems spare => uptoBulkAll elems + uptoBulkAll spare + 1
  | .agg parts => uptoBulkAll parts + 1
  | .iface _ d => uptoBulk d + 1
  | .map entries => uptoBulkEntries entries + 1
  | .held _ => 1
def uptoBulkAll {H : Type} : List (DataW H) → Nat
  | [] => 0
  | d :: r => uptoBulk d + uptoBulkAll r
def uptoBulkEntries {H : Type} : List (Lit × DataW H) → Nat
  | [] => 0
  | x :: r => uptoBulkEntry x + uptoBulkEntries r
def uptoBulkEntry {H : Type} : Lit × DataW H → Nat
  | (.string bytes, d) => bytes.length + uptoBulk d + 1
  | (_, d) => uptoBulk d + 1
 end
def uptoSmall : (H : Type) → List (DataW H) → Bool := fun _ ds => decide (uptoBulkAll ds ≤ 1048576)
def OpenSpec.upto (s : _root_.Go.ChangeSpec) : _root_.Go.OpenSpec := { _root_.Go.OpenSpec.ofChange s with cond := some uptoSmall }

/-- 'plugkeep.BudgetKraft', WHERE WHAT IT READS IS OF BULK AT MOST 1048576: true; the input reads as it did. -/
def budgetKraftUptoRow : OpenClaim := { program := "ythmcnopogahffaa", sum := "05f6e9c105abbd415999d2559bc7f41ebbcdb8681a805c5b5f07bb15476f91a4", func := "plugtree/plugkeep.BudgetKraft", spec := "budgetKraft", unfollowed := true, recurses := true, apart := false, narrowed := true }
def BudgetKraftUptoSaid : Prop := budgetKraftUptoRow.holds Try.pinned (OpenSpec.upto budgetKraftSpec)

/-- 'plugkeep.BudgetApart', WHERE WHAT IT READS IS OF BULK AT MOST 1048576: true; the input reads as it did. -/
def budgetApartUptoRow : OpenClaim := { program := "ythmcnopogahffaa", sum := "05f6e9c105abbd415999d2559bc7f41ebbcdb8681a805c5b5f07bb15476f91a4", func := "plugtree/plugkeep.BudgetApart", spec := "budgetApart", unfollowed := true, recurses := true, apart := false, narrowed := true }
def BudgetApartUptoSaid : Prop := budgetApartUptoRow.holds Try.pinned (OpenSpec.upto budgetApartSpec)

/-- 'plugkeep.BudgetOther', WHERE WHAT IT READS IS OF BULK AT MOST 1048576: true; the input reads as it did. -/
def budgetOtherUptoRow : OpenClaim := { program := "ythmcnopogahffaa", sum := "05f6e9c105abbd415999d2559bc7f41ebbcdb8681a805c5b5f07bb15476f91a4", func := "plugtree/plugkeep.BudgetOther", spec := "budgetOther", unfollowed := true, recurses := true, apart := false, narrowed := true }
def BudgetOtherUptoSaid : Prop := budgetOtherUptoRow.holds Try.pinned (OpenSpec.upto budgetOtherSpec)

/-- 'plugkeep.BudgetFewer', WHERE WHAT IT READS IS OF BULK AT MOST 1048576: true; the input reads as it did. -/
def budgetFewerUptoRow : OpenClaim := { program := "ythmcnopogahffaa", sum := "05f6e9c105abbd415999d2559bc7f41ebbcdb8681a805c5b5f07bb15476f91a4", func := "plugtree/plugkeep.BudgetFewer", spec := "budgetFewer", unfollowed := true, recurses := true, apart := false, narrowed := true }
def BudgetFewerUptoSaid : Prop := budgetFewerUptoRow.holds Try.pinned (OpenSpec.upto budgetFewerSpec)

/-- 'plugkeep.BudgetEven', WHERE WHAT IT READS IS OF BULK AT MOST 1048576: true; the input reads as it did. -/
def budgetEvenUptoRow : OpenClaim := { program := "ythmcnopogahffaa", sum := "05f6e9c105abbd415999d2559bc7f41ebbcdb8681a805c5b5f07bb15476f91a4", func := "plugtree/plugkeep.BudgetEven", spec := "budgetEven", unfollowed := true, recurses := true, apart := false, narrowed := true }
def BudgetEvenUptoSaid : Prop := budgetEvenUptoRow.holds Try.pinned (OpenSpec.upto budgetEvenSpec)

/-- 'plugkeep.BudgetOwn', WHERE WHAT IT READS IS OF BULK AT MOST 1048576: true; the input reads as it did. -/
def budgetOwnUptoRow : OpenClaim := { program := "ythmcnopogahffaa", sum := "05f6e9c105abbd415999d2559bc7f41ebbcdb8681a805c5b5f07bb15476f91a4", func := "plugtree/plugkeep.BudgetOwn", spec := "budgetOwn", unfollowed := true, recurses := true, apart := false, narrowed := true }
def BudgetOwnUptoSaid : Prop := budgetOwnUptoRow.holds Try.pinned (OpenSpec.upto budgetOwnSpec)

end Rows
end Go.Proofs.Ythmcnopogahffaa
