/-
  DERIVED. GIVEN WITH THE SEED: THE CARDS: each row of YtmajeonfblcfnaaDoorRows.lean that lists a variable, with what it lists TIED to the program's text (the seventh form; the later family's looks); each row that meets fmt, with fmt's text TOLD by the authors' own Lean function (tested against real Go, not proved from fmt's source: count such statements apart). THE CARD IS WHAT COUNTS. Prove the row's statement (the work); the ties are given (YtmajeonfblcfnaaDoorTie.lean); close each card by the builder's one call (the guide's Derived/Test/ToyasCard.lean, 'card_holds'). Laid BY PROGRAM, IN A SANDBOX (cutbox-door.mjs). By AI agents, Wed Nov 11 2026. No macro, syntax, notation, axiom, sorry.
-/
import Derived.Test.YtmajeonfblcfnaaDoorRows
import GoSem.ClaimSeven
namespace Go.Proofs.YtmajeonfblcfnaaDoor
namespace Rows

/-- THE TIED CARD OF 'plugkeep.PhyOne'. -/
def phyOneCard : Claim7 := { stood := { row := phyOneRow, standIns := [], harness := (true, "4d9aa201b68cce3dd10d9b2e2ef6546ea1cdd9c7237dc33939076185665b008e"), looks := false }, kinds := [], alts := [], laidByText := true, laidKinds := [.data, .pinned], laidTests := true, laidLooks := .later }
def PhyOneCardSaid : Prop := Claim7.holds Tryd.pinned (.plain (OpenSpec.ofChange phyOneSpec)) phyOneCard

/-- THE TIED CARD OF 'plugkeep.PhyAgain'. -/
def phyAgainCard : Claim7 := { stood := { row := phyAgainRow, standIns := [], harness := (true, "4d9aa201b68cce3dd10d9b2e2ef6546ea1cdd9c7237dc33939076185665b008e"), looks := false }, kinds := [], alts := [], laidByText := true, laidKinds := [.data, .pinned], laidTests := true, laidLooks := .later }
def PhyAgainCardSaid : Prop := Claim7.holds Tryd.pinned (.plain (OpenSpec.ofChange phyAgainSpec)) phyAgainCard

/-- THE TIED CARD OF 'plugkeep.PhyCuts'. -/
def phyCutsCard : Claim7 := { stood := { row := phyCutsRow, standIns := [], harness := (true, "4d9aa201b68cce3dd10d9b2e2ef6546ea1cdd9c7237dc33939076185665b008e"), looks := false }, kinds := [], alts := [], laidByText := true, laidKinds := [.data, .pinned], laidTests := true, laidLooks := .later }
def PhyCutsCardSaid : Prop := Claim7.holds Tryd.pinned (.plain (OpenSpec.ofChange phyCutsSpec)) phyCutsCard

/-- THE TIED CARD OF 'plugkeep.PhyBack'. -/
def phyBackCard : Claim7 := { stood := { row := phyBackRow, standIns := [], harness := (true, "4d9aa201b68cce3dd10d9b2e2ef6546ea1cdd9c7237dc33939076185665b008e"), looks := false }, kinds := [], alts := [], laidByText := true, laidKinds := [.data, .pinned], laidTests := true, laidLooks := .later }
def PhyBackCardSaid : Prop := Claim7.holds Tryd.pinned (.plain (OpenSpec.ofChange phyBackSpec)) phyBackCard

/-- THE TIED CARD OF 'plugkeep.PhyTorn'. -/
def phyTornCard : Claim7 := { stood := { row := phyTornRow, standIns := [], harness := (true, "4d9aa201b68cce3dd10d9b2e2ef6546ea1cdd9c7237dc33939076185665b008e"), looks := false }, kinds := [], alts := [], laidByText := true, laidKinds := [.data, .pinned], laidTests := true, laidLooks := .later }
def PhyTornCardSaid : Prop := Claim7.holds Tryd.pinned (.plain (OpenSpec.ofChange phyTornSpec)) phyTornCard

/-- THE SECOND FORM's CARD OF 'plugkeep.PhyOne'. -/
def phyOneUptoCard : Claim7 := { stood := { row := phyOneUptoRow, standIns := [], harness := (true, "4d9aa201b68cce3dd10d9b2e2ef6546ea1cdd9c7237dc33939076185665b008e"), looks := false }, kinds := [], alts := [], laidByText := true, laidKinds := [.data, .pinned], laidTests := true, laidLooks := .later }
def PhyOneUptoCardSaid : Prop := Claim7.holds Tryd.pinned (.plain (OpenSpec.upto phyOneSpec)) phyOneUptoCard

/-- THE SECOND FORM's CARD OF 'plugkeep.PhyAgain'. -/
def phyAgainUptoCard : Claim7 := { stood := { row := phyAgainUptoRow, standIns := [], harness := (true, "4d9aa201b68cce3dd10d9b2e2ef6546ea1cdd9c7237dc33939076185665b008e"), looks := false }, kinds := [], alts := [], laidByText := true, laidKinds := [.data, .pinned], laidTests := true, laidLooks := .later }
def PhyAgainUptoCardSaid : Prop := Claim7.holds Tryd.pinned (.plain (OpenSpec.upto phyAgainSpec)) phyAgainUptoCard

/-- THE SECOND FORM's CARD OF 'plugkeep.PhyCuts'. -/
def phyCutsUptoCard : Claim7 := { stood := { row := phyCutsUptoRow, standIns := [], harness := (true, "4d9aa201b68cce3dd10d9b2e2ef6546ea1cdd9c7237dc33939076185665b008e"), looks := false }, kinds := [], alts := [], laidByText := true, laidKinds := [.data, .pinned], laidTests := true, laidLooks := .later }
def PhyCutsUptoCardSaid : Prop := Claim7.holds Tryd.pinned (.plain (OpenSpec.upto phyCutsSpec)) phyCutsUptoCard

/-- THE SECOND FORM's CARD OF 'plugkeep.PhyBack'. -/
def phyBackUptoCard : Claim7 := { stood := { row := phyBackUptoRow, standIns := [], harness := (true, "4d9aa201b68cce3dd10d9b2e2ef6546ea1cdd9c7237dc33939076185665b008e"), looks := false }, kinds := [], alts := [], laidByText := true, laidKinds := [.data, .pinned], laidTests := true, laidLooks := .later }
def PhyBackUptoCardSaid : Prop := Claim7.holds Tryd.pinned (.plain (OpenSpec.upto phyBackSpec)) phyBackUptoCard

/-- THE SECOND FORM's CARD OF 'plugkeep.PhyTorn'. -/
def phyTornUptoCard : Claim7 := { stood := { row := phyTornUptoRow, standIns := [], harness := (true, "4d9aa201b68cce3dd10d9b2e2ef6546ea1cdd9c7237dc33939076185665b008e"), looks := false }, kinds := [], alts := [], laidByText := true, laidKinds := [.data, .pinned], laidTests := true, laidLooks := .later }
def PhyTornUptoCardSaid : Prop := Claim7.holds Tryd.pinned (.plain (OpenSpec.upto phyTornSpec)) phyTornUptoCard
end Rows
end Go.Proofs.YtmajeonfblcfnaaDoor
