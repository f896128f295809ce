/-
  DERIVED. GIVEN WITH THE SEED: THE CARDS: each row of YtmnmlnnhngnfbaaDoorRows.lean that lists a variable, with what it lists TIED to the program's text (the seventh form; the later family's looks); each row that meets fmt, with fmt's text TOLD by the authors' own Lean function (tested against real Go, not proved from fmt's source: count such statements apart). THE CARD IS WHAT COUNTS. Prove the row's statement (the work); the ties are given (YtmnmlnnhngnfbaaDoorTie.lean); close each card by the builder's one call (the guide's Derived/Test/ToyasCard.lean, 'card_holds'). Laid BY PROGRAM, IN A SANDBOX (cutbox-door.mjs). By AI agents, Wed Nov 11 2026. No macro, syntax, notation, axiom, sorry.
-/
import Derived.Test.YtmnmlnnhngnfbaaDoorRows
import GoSem.ClaimSeven
namespace Go.Proofs.YtmnmlnnhngnfbaaDoor
namespace Rows

/-- THE TIED CARD OF 'plugkeep.TalkRefines'. -/
def talkRefinesCard : Claim7 := { stood := { row := talkRefinesRow, standIns := [], harness := (true, "3a6ec59c4c6360e64e51a1b63fc19e88fb6ab09aaa3e17ab8d088b01ac96e2ef"), looks := false }, kinds := [], alts := [], laidByText := true, laidKinds := [.data, .pinned], laidTests := true, laidLooks := .later }
def TalkRefinesCardSaid : Prop := Claim7.holds Tryd.pinned (.plain (OpenSpec.ofChange talkRefinesSpec)) talkRefinesCard

/-- THE TIED CARD OF 'plugkeep.TalkWire'. -/
def talkWireCard : Claim7 := { stood := { row := talkWireRow, standIns := [], harness := (true, "3a6ec59c4c6360e64e51a1b63fc19e88fb6ab09aaa3e17ab8d088b01ac96e2ef"), looks := false }, kinds := [], alts := [], laidByText := true, laidKinds := [.data, .pinned], laidTests := true, laidLooks := .later }
def TalkWireCardSaid : Prop := Claim7.holds Tryd.pinned (.plain (OpenSpec.ofChange talkWireSpec)) talkWireCard

/-- THE TIED CARD OF 'plugkeep.TalkSpied'. -/
def talkSpiedCard : Claim7 := { stood := { row := talkSpiedRow, standIns := [], harness := (true, "3a6ec59c4c6360e64e51a1b63fc19e88fb6ab09aaa3e17ab8d088b01ac96e2ef"), looks := false }, kinds := [], alts := [], laidByText := true, laidKinds := [.data, .pinned], laidTests := true, laidLooks := .later }
def TalkSpiedCardSaid : Prop := Claim7.holds Tryd.pinned (.plain (OpenSpec.ofChange talkSpiedSpec)) talkSpiedCard

/-- THE SECOND FORM's CARD OF 'plugkeep.TalkRefines'. -/
def talkRefinesUptoCard : Claim7 := { stood := { row := talkRefinesUptoRow, standIns := [], harness := (true, "3a6ec59c4c6360e64e51a1b63fc19e88fb6ab09aaa3e17ab8d088b01ac96e2ef"), looks := false }, kinds := [], alts := [], laidByText := true, laidKinds := [.data, .pinned], laidTests := true, laidLooks := .later }
def TalkRefinesUptoCardSaid : Prop := Claim7.holds Tryd.pinned (.plain (OpenSpec.upto talkRefinesSpec)) talkRefinesUptoCard

/-- THE SECOND FORM's CARD OF 'plugkeep.TalkWire'. -/
def talkWireUptoCard : Claim7 := { stood := { row := talkWireUptoRow, standIns := [], harness := (true, "3a6ec59c4c6360e64e51a1b63fc19e88fb6ab09aaa3e17ab8d088b01ac96e2ef"), looks := false }, kinds := [], alts := [], laidByText := true, laidKinds := [.data, .pinned], laidTests := true, laidLooks := .later }
def TalkWireUptoCardSaid : Prop := Claim7.holds Tryd.pinned (.plain (OpenSpec.upto talkWireSpec)) talkWireUptoCard

/-- THE SECOND FORM's CARD OF 'plugkeep.TalkSpied'. -/
def talkSpiedUptoCard : Claim7 := { stood := { row := talkSpiedUptoRow, standIns := [], harness := (true, "3a6ec59c4c6360e64e51a1b63fc19e88fb6ab09aaa3e17ab8d088b01ac96e2ef"), looks := false }, kinds := [], alts := [], laidByText := true, laidKinds := [.data, .pinned], laidTests := true, laidLooks := .later }
def TalkSpiedUptoCardSaid : Prop := Claim7.holds Tryd.pinned (.plain (OpenSpec.upto talkSpiedSpec)) talkSpiedUptoCard
end Rows
end Go.Proofs.YtmnmlnnhngnfbaaDoor
