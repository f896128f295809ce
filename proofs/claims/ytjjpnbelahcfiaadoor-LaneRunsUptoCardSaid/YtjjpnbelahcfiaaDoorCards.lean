/-
  DERIVED. GIVEN WITH THE SEED: THE CARDS: each row of YtjjpnbelahcfiaaDoorRows.lean that lists a variable, with what it lists TIED to the program's text (the seventh form; the later family's looks); each row that meets fmt, with fmt's text TOLD by the authors' own Lean function (tested against real Go, not proved from fmt's source: count such statements apart). THE CARD IS WHAT COUNTS. Prove the row's statement (the work); the ties are given (YtjjpnbelahcfiaaDoorTie.lean); close each card by the builder's one call (the guide's Derived/Test/ToyasCard.lean, 'card_holds'). Laid BY PROGRAM, IN A SANDBOX (cutbox-door.mjs). By AI agents, Wed Nov 11 2026. No macro, syntax, notation, axiom, sorry.
-/
import Derived.Test.YtjjpnbelahcfiaaDoorRows
import GoSem.ClaimSeven
namespace Go.Proofs.YtjjpnbelahcfiaaDoor
namespace Rows

/-- THE TIED CARD OF 'plugkeep.LaneJoins'. -/
def laneJoinsCard : Claim7 := { stood := { row := laneJoinsRow, standIns := [], harness := (true, "3f047c25825320de76e6372b55d096adfdca3b1ba1b8b5baf99b48f30edf1514"), looks := false }, kinds := [], alts := [], laidByText := true, laidKinds := [.data, .pinned], laidTests := true, laidLooks := .later }
def LaneJoinsCardSaid : Prop := Claim7.holds Tryd.pinned (.plain (OpenSpec.ofChange laneJoinsSpec)) laneJoinsCard

/-- THE TIED CARD OF 'plugkeep.LaneFlips'. -/
def laneFlipsCard : Claim7 := { stood := { row := laneFlipsRow, standIns := [], harness := (true, "3f047c25825320de76e6372b55d096adfdca3b1ba1b8b5baf99b48f30edf1514"), looks := false }, kinds := [], alts := [], laidByText := true, laidKinds := [.data, .pinned], laidTests := true, laidLooks := .later }
def LaneFlipsCardSaid : Prop := Claim7.holds Tryd.pinned (.plain (OpenSpec.ofChange laneFlipsSpec)) laneFlipsCard

/-- THE TIED CARD OF 'plugkeep.LanePoles'. -/
def lanePolesCard : Claim7 := { stood := { row := lanePolesRow, standIns := [], harness := (true, "3f047c25825320de76e6372b55d096adfdca3b1ba1b8b5baf99b48f30edf1514"), looks := false }, kinds := [], alts := [], laidByText := true, laidKinds := [.data, .pinned], laidTests := true, laidLooks := .later }
def LanePolesCardSaid : Prop := Claim7.holds Tryd.pinned (.plain (OpenSpec.ofChange lanePolesSpec)) lanePolesCard

/-- THE TIED CARD OF 'plugkeep.LaneBack'. -/
def laneBackCard : Claim7 := { stood := { row := laneBackRow, standIns := [], harness := (true, "3f047c25825320de76e6372b55d096adfdca3b1ba1b8b5baf99b48f30edf1514"), looks := false }, kinds := [], alts := [], laidByText := true, laidKinds := [.data, .pinned], laidTests := true, laidLooks := .later }
def LaneBackCardSaid : Prop := Claim7.holds Tryd.pinned (.plain (OpenSpec.ofChange laneBackSpec)) laneBackCard

/-- THE TIED CARD OF 'plugkeep.LaneOne'. -/
def laneOneCard : Claim7 := { stood := { row := laneOneRow, standIns := [], harness := (true, "3f047c25825320de76e6372b55d096adfdca3b1ba1b8b5baf99b48f30edf1514"), looks := false }, kinds := [], alts := [], laidByText := true, laidKinds := [.data, .pinned], laidTests := true, laidLooks := .later }
def LaneOneCardSaid : Prop := Claim7.holds Tryd.pinned (.plain (OpenSpec.ofChange laneOneSpec)) laneOneCard

/-- THE TIED CARD OF 'plugkeep.LaneRuns'. -/
def laneRunsCard : Claim7 := { stood := { row := laneRunsRow, standIns := [], harness := (true, "3f047c25825320de76e6372b55d096adfdca3b1ba1b8b5baf99b48f30edf1514"), looks := false }, kinds := [], alts := [], laidByText := true, laidKinds := [.data, .pinned], laidTests := true, laidLooks := .later }
def LaneRunsCardSaid : Prop := Claim7.holds Tryd.pinned (.plain (OpenSpec.ofChange laneRunsSpec)) laneRunsCard

/-- THE TIED CARD OF 'plugkeep.LaneLong'. -/
def laneLongCard : Claim7 := { stood := { row := laneLongRow, standIns := [], harness := (true, "3f047c25825320de76e6372b55d096adfdca3b1ba1b8b5baf99b48f30edf1514"), looks := false }, kinds := [], alts := [], laidByText := true, laidKinds := [.data, .pinned], laidTests := true, laidLooks := .later }
def LaneLongCardSaid : Prop := Claim7.holds Tryd.pinned (.plain (OpenSpec.ofChange laneLongSpec)) laneLongCard

/-- THE SECOND FORM's CARD OF 'plugkeep.LaneJoins'. -/
def laneJoinsUptoCard : Claim7 := { stood := { row := laneJoinsUptoRow, standIns := [], harness := (true, "3f047c25825320de76e6372b55d096adfdca3b1ba1b8b5baf99b48f30edf1514"), looks := false }, kinds := [], alts := [], laidByText := true, laidKinds := [.data, .pinned], laidTests := true, laidLooks := .later }
def LaneJoinsUptoCardSaid : Prop := Claim7.holds Tryd.pinned (.plain (OpenSpec.upto laneJoinsSpec)) laneJoinsUptoCard

/-- THE SECOND FORM's CARD OF 'plugkeep.LaneFlips'. -/
def laneFlipsUptoCard : Claim7 := { stood := { row := laneFlipsUptoRow, standIns := [], harness := (true, "3f047c25825320de76e6372b55d096adfdca3b1ba1b8b5baf99b48f30edf1514"), looks := false }, kinds := [], alts := [], laidByText := true, laidKinds := [.data, .pinned], laidTests := true, laidLooks := .later }
def LaneFlipsUptoCardSaid : Prop := Claim7.holds Tryd.pinned (.plain (OpenSpec.upto laneFlipsSpec)) laneFlipsUptoCard

/-- THE SECOND FORM's CARD OF 'plugkeep.LanePoles'. -/
def lanePolesUptoCard : Claim7 := { stood := { row := lanePolesUptoRow, standIns := [], harness := (true, "3f047c25825320de76e6372b55d096adfdca3b1ba1b8b5baf99b48f30edf1514"), looks := false }, kinds := [], alts := [], laidByText := true, laidKinds := [.data, .pinned], laidTests := true, laidLooks := .later }
def LanePolesUptoCardSaid : Prop := Claim7.holds Tryd.pinned (.plain (OpenSpec.upto lanePolesSpec)) lanePolesUptoCard

/-- THE SECOND FORM's CARD OF 'plugkeep.LaneBack'. -/
def laneBackUptoCard : Claim7 := { stood := { row := laneBackUptoRow, standIns := [], harness := (true, "3f047c25825320de76e6372b55d096adfdca3b1ba1b8b5baf99b48f30edf1514"), looks := false }, kinds := [], alts := [], laidByText := true, laidKinds := [.data, .pinned], laidTests := true, laidLooks := .later }
def LaneBackUptoCardSaid : Prop := Claim7.holds Tryd.pinned (.plain (OpenSpec.upto laneBackSpec)) laneBackUptoCard

/-- THE SECOND FORM's CARD OF 'plugkeep.LaneOne'. -/
def laneOneUptoCard : Claim7 := { stood := { row := laneOneUptoRow, standIns := [], harness := (true, "3f047c25825320de76e6372b55d096adfdca3b1ba1b8b5baf99b48f30edf1514"), looks := false }, kinds := [], alts := [], laidByText := true, laidKinds := [.data, .pinned], laidTests := true, laidLooks := .later }
def LaneOneUptoCardSaid : Prop := Claim7.holds Tryd.pinned (.plain (OpenSpec.upto laneOneSpec)) laneOneUptoCard

/-- THE SECOND FORM's CARD OF 'plugkeep.LaneRuns'. -/
def laneRunsUptoCard : Claim7 := { stood := { row := laneRunsUptoRow, standIns := [], harness := (true, "3f047c25825320de76e6372b55d096adfdca3b1ba1b8b5baf99b48f30edf1514"), looks := false }, kinds := [], alts := [], laidByText := true, laidKinds := [.data, .pinned], laidTests := true, laidLooks := .later }
def LaneRunsUptoCardSaid : Prop := Claim7.holds Tryd.pinned (.plain (OpenSpec.upto laneRunsSpec)) laneRunsUptoCard

/-- THE SECOND FORM's CARD OF 'plugkeep.LaneLong'. -/
def laneLongUptoCard : Claim7 := { stood := { row := laneLongUptoRow, standIns := [], harness := (true, "3f047c25825320de76e6372b55d096adfdca3b1ba1b8b5baf99b48f30edf1514"), looks := false }, kinds := [], alts := [], laidByText := true, laidKinds := [.data, .pinned], laidTests := true, laidLooks := .later }
def LaneLongUptoCardSaid : Prop := Claim7.holds Tryd.pinned (.plain (OpenSpec.upto laneLongSpec)) laneLongUptoCard
end Rows
end Go.Proofs.YtjjpnbelahcfiaaDoor
