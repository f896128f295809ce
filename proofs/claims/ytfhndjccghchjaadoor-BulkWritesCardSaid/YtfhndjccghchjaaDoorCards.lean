/-
  DERIVED. GIVEN WITH THE SEED: THE CARDS: each row of YtfhndjccghchjaaDoorRows.lean that lists a variable, with what it lists TIED to the program's text (the seventh form; the later family's looks); each row that meets fmt, with fmt's text TOLD by the authors' own Lean function (tested against real Go, not proved from fmt's source: count such statements apart). THE CARD IS WHAT COUNTS. Prove the row's statement (the work); the ties are given (YtfhndjccghchjaaDoorTie.lean); close each card by the builder's one call (the guide's Derived/Test/ToyasCard.lean, 'card_holds'). Laid BY PROGRAM, IN A SANDBOX (cutbox-door.mjs). By AI agents, Wed Nov 11 2026. No macro, syntax, notation, axiom, sorry.
-/
import Derived.Test.YtfhndjccghchjaaDoorRows
import GoSem.ClaimSeven
namespace Go.Proofs.YtfhndjccghchjaaDoor
namespace Rows

/-- THE TIED CARD OF 'plugkeep.ScsiParts'. -/
def scsiPartsCard : Claim7 := { stood := { row := scsiPartsRow, standIns := [], harness := (true, "f80fe0647ad1ded3d22fb54350a0067f87e794d9c8d4372ea12a53d3137a587e"), looks := true }, kinds := [], alts := [], laidByText := true, laidKinds := [.data, .pinned], laidTests := true, laidLooks := .later }
def ScsiPartsCardSaid : Prop := Claim7.holds Tryd.pinned (.plain (OpenSpec.ofChange scsiPartsSpec)) scsiPartsCard

/-- THE TIED CARD OF 'plugkeep.BulkWrites'. -/
def bulkWritesCard : Claim7 := { stood := { row := bulkWritesRow, standIns := [], harness := (true, "f80fe0647ad1ded3d22fb54350a0067f87e794d9c8d4372ea12a53d3137a587e"), looks := true }, kinds := [], alts := [], laidByText := true, laidKinds := [.data, .pinned], laidTests := true, laidLooks := .later }
def BulkWritesCardSaid : Prop := Claim7.holds Tryd.pinned (.plain (OpenSpec.ofChange bulkWritesSpec)) bulkWritesCard

/-- THE SECOND FORM's CARD OF 'plugkeep.ScsiParts'. -/
def scsiPartsUptoCard : Claim7 := { stood := { row := scsiPartsUptoRow, standIns := [], harness := (true, "f80fe0647ad1ded3d22fb54350a0067f87e794d9c8d4372ea12a53d3137a587e"), looks := true }, kinds := [], alts := [], laidByText := true, laidKinds := [.data, .pinned], laidTests := true, laidLooks := .later }
def ScsiPartsUptoCardSaid : Prop := Claim7.holds Tryd.pinned (.plain (OpenSpec.upto scsiPartsSpec)) scsiPartsUptoCard

/-- THE SECOND FORM's CARD OF 'plugkeep.BulkWrites'. -/
def bulkWritesUptoCard : Claim7 := { stood := { row := bulkWritesUptoRow, standIns := [], harness := (true, "f80fe0647ad1ded3d22fb54350a0067f87e794d9c8d4372ea12a53d3137a587e"), looks := true }, kinds := [], alts := [], laidByText := true, laidKinds := [.data, .pinned], laidTests := true, laidLooks := .later }
def BulkWritesUptoCardSaid : Prop := Claim7.holds Tryd.pinned (.plain (OpenSpec.upto bulkWritesSpec)) bulkWritesUptoCard
end Rows
end Go.Proofs.YtfhndjccghchjaaDoor
