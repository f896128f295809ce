/-
  DERIVED. GIVEN WITH THE SEED: THE CARDS: each row of YtecbcklbmaimgaaDoorRows.lean that lists a variable, with what it lists TIED to the program's text (the seventh form; the later family's looks); each row that meets fmt, with fmt's text TOLD by the authors' own Lean function (tested against real Go, not proved from fmt's source: count such statements apart). THE CARD IS WHAT COUNTS. Prove the row's statement (the work); the ties are given (YtecbcklbmaimgaaDoorTie.lean); close each card by the builder's one call (the guide's Derived/Test/ToyasCard.lean, 'card_holds'). Laid BY PROGRAM, IN A SANDBOX (cutbox-door.mjs). By AI agents, Wed Nov 11 2026. No macro, syntax, notation, axiom, sorry.
-/
import Derived.Test.YtecbcklbmaimgaaDoorRows
import GoSem.ClaimSeven
namespace Go.Proofs.YtecbcklbmaimgaaDoor
namespace Rows

/-- THE TIED CARD OF 'plugkeep.UtfBack'. -/
def utfBackCard : Claim7 := { stood := { row := utfBackRow, standIns := [], harness := (true, "6aeb8ab3f0f7aa03c2978d95e082db58555bca48d32ce8409e6ba178be76627c"), looks := false }, kinds := [], alts := [], laidByText := true, laidKinds := [.data, .pinned], laidTests := true, laidLooks := .later }
def UtfBackCardSaid : Prop := Claim7.holds Tryd.pinned (.plain (OpenSpec.ofChange utfBackSpec)) utfBackCard

/-- THE TIED CARD OF 'plugkeep.UtfGood'. -/
def utfGoodCard : Claim7 := { stood := { row := utfGoodRow, standIns := [], harness := (true, "6aeb8ab3f0f7aa03c2978d95e082db58555bca48d32ce8409e6ba178be76627c"), looks := false }, kinds := [], alts := [], laidByText := true, laidKinds := [.data, .pinned], laidTests := true, laidLooks := .later }
def UtfGoodCardSaid : Prop := Claim7.holds Tryd.pinned (.plain (OpenSpec.ofChange utfGoodSpec)) utfGoodCard

/-- THE SECOND FORM's CARD OF 'plugkeep.UtfBack'. -/
def utfBackUptoCard : Claim7 := { stood := { row := utfBackUptoRow, standIns := [], harness := (true, "6aeb8ab3f0f7aa03c2978d95e082db58555bca48d32ce8409e6ba178be76627c"), looks := false }, kinds := [], alts := [], laidByText := true, laidKinds := [.data, .pinned], laidTests := true, laidLooks := .later }
def UtfBackUptoCardSaid : Prop := Claim7.holds Tryd.pinned (.plain (OpenSpec.upto utfBackSpec)) utfBackUptoCard

/-- THE SECOND FORM's CARD OF 'plugkeep.UtfGood'. -/
def utfGoodUptoCard : Claim7 := { stood := { row := utfGoodUptoRow, standIns := [], harness := (true, "6aeb8ab3f0f7aa03c2978d95e082db58555bca48d32ce8409e6ba178be76627c"), looks := false }, kinds := [], alts := [], laidByText := true, laidKinds := [.data, .pinned], laidTests := true, laidLooks := .later }
def UtfGoodUptoCardSaid : Prop := Claim7.holds Tryd.pinned (.plain (OpenSpec.upto utfGoodSpec)) utfGoodUptoCard
end Rows
end Go.Proofs.YtecbcklbmaimgaaDoor
