/-
  DERIVED. GIVEN WITH THE SEED: THE CARDS: each row of YteekckglpinkpaaDoorRows.lean that lists a variable, with what it lists TIED to the program's text (the seventh form; the later family's looks); each row that meets fmt, with fmt's text TOLD by the authors' own Lean function (tested against real Go, not proved from fmt's source: count such statements apart). THE CARD IS WHAT COUNTS. Prove the row's statement (the work); the ties are given (YteekckglpinkpaaDoorTie.lean); close each card by the builder's one call (the guide's Derived/Test/ToyasCard.lean, 'card_holds'). Laid BY PROGRAM, IN A SANDBOX (cutbox-door.mjs). By AI agents, Wed Nov 11 2026. No macro, syntax, notation, axiom, sorry.
-/
import Derived.Test.YteekckglpinkpaaDoorRows
import GoSem.ClaimSeven
namespace Go.Proofs.YteekckglpinkpaaDoor
namespace Rows

/-- THE TIED CARD OF 'plugkeep.RouteFour'. -/
def routeFourCard : Claim7 := { stood := { row := routeFourRow, standIns := [], harness := (true, "82f9db3c3fbe7424d514199c42bf654bd27881228f7edebdd255f241018ebaf9"), looks := true }, kinds := [], alts := [], laidByText := true, laidKinds := [.data, .data, .data], laidTests := true, laidLooks := .later }
def RouteFourCardSaid : Prop := Claim7.holds Tryd.pinned (.plain (OpenSpec.ofChange routeFourSpec)) routeFourCard

/-- THE TIED CARD OF 'plugkeep.RouteMetric'. -/
def routeMetricCard : Claim7 := { stood := { row := routeMetricRow, standIns := [], harness := (true, "82f9db3c3fbe7424d514199c42bf654bd27881228f7edebdd255f241018ebaf9"), looks := true }, kinds := [], alts := [], laidByText := true, laidKinds := [.data, .data, .data], laidTests := true, laidLooks := .later }
def RouteMetricCardSaid : Prop := Claim7.holds Tryd.pinned (.plain (OpenSpec.ofChange routeMetricSpec)) routeMetricCard

/-- THE TIED CARD OF 'plugkeep.RouteMeet'. -/
def routeMeetCard : Claim7 := { stood := { row := routeMeetRow, standIns := [], harness := (true, "82f9db3c3fbe7424d514199c42bf654bd27881228f7edebdd255f241018ebaf9"), looks := true }, kinds := [], alts := [], laidByText := true, laidKinds := [.data, .data, .data], laidTests := true, laidLooks := .later }
def RouteMeetCardSaid : Prop := Claim7.holds Tryd.pinned (.plain (OpenSpec.ofChange routeMeetSpec)) routeMeetCard

/-- THE TIED CARD OF 'plugkeep.RouteUnder'. -/
def routeUnderCard : Claim7 := { stood := { row := routeUnderRow, standIns := [], harness := (true, "82f9db3c3fbe7424d514199c42bf654bd27881228f7edebdd255f241018ebaf9"), looks := true }, kinds := [], alts := [], laidByText := true, laidKinds := [.data, .data, .data], laidTests := true, laidLooks := .later }
def RouteUnderCardSaid : Prop := Claim7.holds Tryd.pinned (.plain (OpenSpec.ofChange routeUnderSpec)) routeUnderCard

/-- THE TIED CARD OF 'plugkeep.RouteOrder'. -/
def routeOrderCard : Claim7 := { stood := { row := routeOrderRow, standIns := [], harness := (true, "82f9db3c3fbe7424d514199c42bf654bd27881228f7edebdd255f241018ebaf9"), looks := true }, kinds := [], alts := [], laidByText := true, laidKinds := [.data, .data, .data], laidTests := true, laidLooks := .later }
def RouteOrderCardSaid : Prop := Claim7.holds Tryd.pinned (.plain (OpenSpec.ofChange routeOrderSpec)) routeOrderCard

/-- THE TIED CARD OF 'plugkeep.RouteBack'. -/
def routeBackCard : Claim7 := { stood := { row := routeBackRow, standIns := [], harness := (true, "82f9db3c3fbe7424d514199c42bf654bd27881228f7edebdd255f241018ebaf9"), looks := true }, kinds := [], alts := [], laidByText := true, laidKinds := [.data, .data, .data, .data, .sentinel, .sentinel, .pinned], laidTests := true, laidLooks := .later }
def RouteBackCardSaid : Prop := Claim7.holds Tryd.pinned (.plain (OpenSpec.ofChange routeBackSpec)) routeBackCard

/-- THE SECOND FORM's CARD OF 'plugkeep.RouteFour'. -/
def routeFourUptoCard : Claim7 := { stood := { row := routeFourUptoRow, standIns := [], harness := (true, "82f9db3c3fbe7424d514199c42bf654bd27881228f7edebdd255f241018ebaf9"), looks := true }, kinds := [], alts := [], laidByText := true, laidKinds := [.data, .data, .data], laidTests := true, laidLooks := .later }
def RouteFourUptoCardSaid : Prop := Claim7.holds Tryd.pinned (.plain (OpenSpec.upto routeFourSpec)) routeFourUptoCard

/-- THE SECOND FORM's CARD OF 'plugkeep.RouteMetric'. -/
def routeMetricUptoCard : Claim7 := { stood := { row := routeMetricUptoRow, standIns := [], harness := (true, "82f9db3c3fbe7424d514199c42bf654bd27881228f7edebdd255f241018ebaf9"), looks := true }, kinds := [], alts := [], laidByText := true, laidKinds := [.data, .data, .data], laidTests := true, laidLooks := .later }
def RouteMetricUptoCardSaid : Prop := Claim7.holds Tryd.pinned (.plain (OpenSpec.upto routeMetricSpec)) routeMetricUptoCard

/-- THE SECOND FORM's CARD OF 'plugkeep.RouteMeet'. -/
def routeMeetUptoCard : Claim7 := { stood := { row := routeMeetUptoRow, standIns := [], harness := (true, "82f9db3c3fbe7424d514199c42bf654bd27881228f7edebdd255f241018ebaf9"), looks := true }, kinds := [], alts := [], laidByText := true, laidKinds := [.data, .data, .data], laidTests := true, laidLooks := .later }
def RouteMeetUptoCardSaid : Prop := Claim7.holds Tryd.pinned (.plain (OpenSpec.upto routeMeetSpec)) routeMeetUptoCard

/-- THE SECOND FORM's CARD OF 'plugkeep.RouteUnder'. -/
def routeUnderUptoCard : Claim7 := { stood := { row := routeUnderUptoRow, standIns := [], harness := (true, "82f9db3c3fbe7424d514199c42bf654bd27881228f7edebdd255f241018ebaf9"), looks := true }, kinds := [], alts := [], laidByText := true, laidKinds := [.data, .data, .data], laidTests := true, laidLooks := .later }
def RouteUnderUptoCardSaid : Prop := Claim7.holds Tryd.pinned (.plain (OpenSpec.upto routeUnderSpec)) routeUnderUptoCard

/-- THE SECOND FORM's CARD OF 'plugkeep.RouteOrder'. -/
def routeOrderUptoCard : Claim7 := { stood := { row := routeOrderUptoRow, standIns := [], harness := (true, "82f9db3c3fbe7424d514199c42bf654bd27881228f7edebdd255f241018ebaf9"), looks := true }, kinds := [], alts := [], laidByText := true, laidKinds := [.data, .data, .data], laidTests := true, laidLooks := .later }
def RouteOrderUptoCardSaid : Prop := Claim7.holds Tryd.pinned (.plain (OpenSpec.upto routeOrderSpec)) routeOrderUptoCard

/-- THE SECOND FORM's CARD OF 'plugkeep.RouteBack'. -/
def routeBackUptoCard : Claim7 := { stood := { row := routeBackUptoRow, standIns := [], harness := (true, "82f9db3c3fbe7424d514199c42bf654bd27881228f7edebdd255f241018ebaf9"), looks := true }, kinds := [], alts := [], laidByText := true, laidKinds := [.data, .data, .data, .data, .sentinel, .sentinel, .pinned], laidTests := true, laidLooks := .later }
def RouteBackUptoCardSaid : Prop := Claim7.holds Tryd.pinned (.plain (OpenSpec.upto routeBackSpec)) routeBackUptoCard
end Rows
end Go.Proofs.YteekckglpinkpaaDoor
