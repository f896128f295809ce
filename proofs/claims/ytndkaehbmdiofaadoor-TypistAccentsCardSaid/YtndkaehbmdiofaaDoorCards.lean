/-
  DERIVED. GIVEN WITH THE SEED: THE CARDS: each row of YtndkaehbmdiofaaDoorRows.lean that lists a variable, with what it lists TIED to the program's text (the seventh form; the later family's looks); each row that meets fmt, with fmt's text TOLD by the authors' own Lean function (tested against real Go, not proved from fmt's source: count such statements apart). THE CARD IS WHAT COUNTS. Prove the row's statement (the work); the ties are given (YtndkaehbmdiofaaDoorTie.lean); close each card by the builder's one call (the guide's Derived/Test/ToyasCard.lean, 'card_holds'). Laid BY PROGRAM, IN A SANDBOX (cutbox-door.mjs). By AI agents, Wed Nov 11 2026. No macro, syntax, notation, axiom, sorry.
-/
import Derived.Test.YtndkaehbmdiofaaDoorRows
import GoSem.ClaimSeven
namespace Go.Proofs.YtndkaehbmdiofaaDoor
namespace Rows

/-- THE TIED CARD OF 'plugkeep.TypistWords'. -/
def typistWordsCard : Claim7 := { stood := { row := typistWordsRow, standIns := [], harness := (true, "5316bf0210c9dc83d6029b7d722c9c95b38042f58215200eb4cc7b6f66e0ab1d"), looks := false }, kinds := [], alts := [], laidByText := true, laidKinds := [.data, .pinned], laidTests := true, laidLooks := .later }
def TypistWordsCardSaid : Prop := Claim7.holds Tryd.pinned (.plain (OpenSpec.ofChange typistWordsSpec)) typistWordsCard

/-- THE TIED CARD OF 'plugkeep.TypistCaps'. -/
def typistCapsCard : Claim7 := { stood := { row := typistCapsRow, standIns := [], harness := (true, "5316bf0210c9dc83d6029b7d722c9c95b38042f58215200eb4cc7b6f66e0ab1d"), looks := false }, kinds := [], alts := [], laidByText := true, laidKinds := [.data, .pinned], laidTests := true, laidLooks := .later }
def TypistCapsCardSaid : Prop := Claim7.holds Tryd.pinned (.plain (OpenSpec.ofChange typistCapsSpec)) typistCapsCard

/-- THE TIED CARD OF 'plugkeep.TypistRepeats'. -/
def typistRepeatsCard : Claim7 := { stood := { row := typistRepeatsRow, standIns := [], harness := (true, "5316bf0210c9dc83d6029b7d722c9c95b38042f58215200eb4cc7b6f66e0ab1d"), looks := false }, kinds := [], alts := [], laidByText := true, laidKinds := [.data, .pinned], laidTests := true, laidLooks := .later }
def TypistRepeatsCardSaid : Prop := Claim7.holds Tryd.pinned (.plain (OpenSpec.ofChange typistRepeatsSpec)) typistRepeatsCard

/-- THE TIED CARD OF 'plugkeep.TypistCuts'. -/
def typistCutsCard : Claim7 := { stood := { row := typistCutsRow, standIns := [], harness := (true, "5316bf0210c9dc83d6029b7d722c9c95b38042f58215200eb4cc7b6f66e0ab1d"), looks := false }, kinds := [], alts := [], laidByText := true, laidKinds := [.data, .pinned], laidTests := true, laidLooks := .later }
def TypistCutsCardSaid : Prop := Claim7.holds Tryd.pinned (.plain (OpenSpec.ofChange typistCutsSpec)) typistCutsCard

/-- THE TIED CARD OF 'plugkeep.TypistAccents'. -/
def typistAccentsCard : Claim7 := { stood := { row := typistAccentsRow, standIns := [], harness := (true, "5316bf0210c9dc83d6029b7d722c9c95b38042f58215200eb4cc7b6f66e0ab1d"), looks := false }, kinds := [], alts := [], laidByText := true, laidKinds := [.data, .pinned], laidTests := true, laidLooks := .later }
def TypistAccentsCardSaid : Prop := Claim7.holds Tryd.pinned (.plain (OpenSpec.ofChange typistAccentsSpec)) typistAccentsCard

/-- THE TIED CARD OF 'plugkeep.TypistUtf'. -/
def typistUtfCard : Claim7 := { stood := { row := typistUtfRow, standIns := [], harness := (true, "5316bf0210c9dc83d6029b7d722c9c95b38042f58215200eb4cc7b6f66e0ab1d"), looks := false }, kinds := [], alts := [], laidByText := true, laidKinds := [.data, .pinned], laidTests := true, laidLooks := .later }
def TypistUtfCardSaid : Prop := Claim7.holds Tryd.pinned (.plain (OpenSpec.ofChange typistUtfSpec)) typistUtfCard

/-- THE SECOND FORM's CARD OF 'plugkeep.TypistWords'. -/
def typistWordsUptoCard : Claim7 := { stood := { row := typistWordsUptoRow, standIns := [], harness := (true, "5316bf0210c9dc83d6029b7d722c9c95b38042f58215200eb4cc7b6f66e0ab1d"), looks := false }, kinds := [], alts := [], laidByText := true, laidKinds := [.data, .pinned], laidTests := true, laidLooks := .later }
def TypistWordsUptoCardSaid : Prop := Claim7.holds Tryd.pinned (.plain (OpenSpec.upto typistWordsSpec)) typistWordsUptoCard

/-- THE SECOND FORM's CARD OF 'plugkeep.TypistCaps'. -/
def typistCapsUptoCard : Claim7 := { stood := { row := typistCapsUptoRow, standIns := [], harness := (true, "5316bf0210c9dc83d6029b7d722c9c95b38042f58215200eb4cc7b6f66e0ab1d"), looks := false }, kinds := [], alts := [], laidByText := true, laidKinds := [.data, .pinned], laidTests := true, laidLooks := .later }
def TypistCapsUptoCardSaid : Prop := Claim7.holds Tryd.pinned (.plain (OpenSpec.upto typistCapsSpec)) typistCapsUptoCard

/-- THE SECOND FORM's CARD OF 'plugkeep.TypistRepeats'. -/
def typistRepeatsUptoCard : Claim7 := { stood := { row := typistRepeatsUptoRow, standIns := [], harness := (true, "5316bf0210c9dc83d6029b7d722c9c95b38042f58215200eb4cc7b6f66e0ab1d"), looks := false }, kinds := [], alts := [], laidByText := true, laidKinds := [.data, .pinned], laidTests := true, laidLooks := .later }
def TypistRepeatsUptoCardSaid : Prop := Claim7.holds Tryd.pinned (.plain (OpenSpec.upto typistRepeatsSpec)) typistRepeatsUptoCard

/-- THE SECOND FORM's CARD OF 'plugkeep.TypistCuts'. -/
def typistCutsUptoCard : Claim7 := { stood := { row := typistCutsUptoRow, standIns := [], harness := (true, "5316bf0210c9dc83d6029b7d722c9c95b38042f58215200eb4cc7b6f66e0ab1d"), looks := false }, kinds := [], alts := [], laidByText := true, laidKinds := [.data, .pinned], laidTests := true, laidLooks := .later }
def TypistCutsUptoCardSaid : Prop := Claim7.holds Tryd.pinned (.plain (OpenSpec.upto typistCutsSpec)) typistCutsUptoCard

/-- THE SECOND FORM's CARD OF 'plugkeep.TypistAccents'. -/
def typistAccentsUptoCard : Claim7 := { stood := { row := typistAccentsUptoRow, standIns := [], harness := (true, "5316bf0210c9dc83d6029b7d722c9c95b38042f58215200eb4cc7b6f66e0ab1d"), looks := false }, kinds := [], alts := [], laidByText := true, laidKinds := [.data, .pinned], laidTests := true, laidLooks := .later }
def TypistAccentsUptoCardSaid : Prop := Claim7.holds Tryd.pinned (.plain (OpenSpec.upto typistAccentsSpec)) typistAccentsUptoCard

/-- THE SECOND FORM's CARD OF 'plugkeep.TypistUtf'. -/
def typistUtfUptoCard : Claim7 := { stood := { row := typistUtfUptoRow, standIns := [], harness := (true, "5316bf0210c9dc83d6029b7d722c9c95b38042f58215200eb4cc7b6f66e0ab1d"), looks := false }, kinds := [], alts := [], laidByText := true, laidKinds := [.data, .pinned], laidTests := true, laidLooks := .later }
def TypistUtfUptoCardSaid : Prop := Claim7.holds Tryd.pinned (.plain (OpenSpec.upto typistUtfSpec)) typistUtfUptoCard
end Rows
end Go.Proofs.YtndkaehbmdiofaaDoor
