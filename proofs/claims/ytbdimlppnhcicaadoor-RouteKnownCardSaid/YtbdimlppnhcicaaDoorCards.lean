/-
  DERIVED. GIVEN WITH THE SEED: THE CARDS: each row of YtbdimlppnhcicaaDoorRows.lean that lists a variable, with what it lists TIED to the program's text (the seventh form; the later family's looks); each row that meets fmt, with fmt's text TOLD by the authors' own Lean function (tested against real Go, not proved from fmt's source: count such statements apart). THE CARD IS WHAT COUNTS. Prove the row's statement (the work); the ties are given (YtbdimlppnhcicaaDoorTie.lean); close each card by the builder's one call (the guide's Derived/Test/ToyasCard.lean, 'card_holds'). Laid BY PROGRAM, IN A SANDBOX (cutbox-door.mjs). By AI agents, Wed Nov 11 2026. No macro, syntax, notation, axiom, sorry.
-/
import Derived.Test.YtbdimlppnhcicaaDoorRows
import GoSem.ClaimSeven
namespace Go.Proofs.YtbdimlppnhcicaaDoor
namespace Rows

/-- THE TIED CARD OF 'sluicewaylaw22.OnionBuilds'. -/
def onionBuildsCard : Claim7 := { stood := { row := onionBuildsRow, standIns := [], harness := (true, "6961b76c40d6eb044f7ee12ccc44c0f762e209a0797d58ac69b91132520cd3cd"), looks := true }, kinds := [], alts := [], laidByText := true, laidKinds := [.data, .data, .data, .sentinel, .sentinel], laidTests := true, laidLooks := .later }
def OnionBuildsCardSaid : Prop := Claim7.holds Tryd.pinned (.plain (OpenSpec.ofChange onionBuildsSpec)) onionBuildsCard

/-- THE TIED CARD OF 'sluicewaylaw22.OnionPeels'. -/
def onionPeelsCard : Claim7 := { stood := { row := onionPeelsRow, standIns := [], harness := (true, "6961b76c40d6eb044f7ee12ccc44c0f762e209a0797d58ac69b91132520cd3cd"), looks := true }, kinds := [], alts := [], laidByText := true, laidKinds := [.data, .data, .data, .sentinel, .sentinel], laidTests := true, laidLooks := .later }
def OnionPeelsCardSaid : Prop := Claim7.holds Tryd.pinned (.plain (OpenSpec.ofChange onionPeelsSpec)) onionPeelsCard

/-- THE TIED CARD OF 'sluicewaylaw22.OnionRoute'. -/
def onionRouteCard : Claim7 := { stood := { row := onionRouteRow, standIns := [], harness := (true, "6961b76c40d6eb044f7ee12ccc44c0f762e209a0797d58ac69b91132520cd3cd"), looks := true }, kinds := [], alts := [], laidByText := true, laidKinds := [.data, .data, .data, .sentinel, .sentinel], laidTests := true, laidLooks := .later }
def OnionRouteCardSaid : Prop := Claim7.holds Tryd.pinned (.plain (OpenSpec.ofChange onionRouteSpec)) onionRouteCard

/-- THE TIED CARD OF 'sluicewaylaw22.OnionBack'. -/
def onionBackCard : Claim7 := { stood := { row := onionBackRow, standIns := [], harness := (true, "6961b76c40d6eb044f7ee12ccc44c0f762e209a0797d58ac69b91132520cd3cd"), looks := true }, kinds := [], alts := [], laidByText := true, laidKinds := [.data, .data, .data, .sentinel, .sentinel], laidTests := true, laidLooks := .later }
def OnionBackCardSaid : Prop := Claim7.holds Tryd.pinned (.plain (OpenSpec.ofChange onionBackSpec)) onionBackCard

/-- THE TIED CARD OF 'sluicewaylaw22.OnionKnown'. -/
def onionKnownCard : Claim7 := { stood := { row := onionKnownRow, standIns := [], harness := (true, "6961b76c40d6eb044f7ee12ccc44c0f762e209a0797d58ac69b91132520cd3cd"), looks := true }, kinds := [], alts := [], laidByText := true, laidKinds := [.data, .data, .data, .sentinel, .sentinel], laidTests := true, laidLooks := .later }
def OnionKnownCardSaid : Prop := Claim7.holds Tryd.pinned (.plain (OpenSpec.ofChange onionKnownSpec)) onionKnownCard

/-- THE TIED CARD OF 'sluicewaylaw26.RouteIs'. -/
def routeIsCard : Claim7 := { stood := { row := routeIsRow, standIns := [], harness := (true, "6961b76c40d6eb044f7ee12ccc44c0f762e209a0797d58ac69b91132520cd3cd"), looks := true }, kinds := [], alts := [], laidByText := true, laidKinds := [.data, .data, .data, .sentinel, .sentinel], laidTests := true, laidLooks := .later }
def RouteIsCardSaid : Prop := Claim7.holds Tryd.pinned (.plain (OpenSpec.ofChange routeIsSpec)) routeIsCard

/-- THE TIED CARD OF 'sluicewaylaw26.RouteBest'. -/
def routeBestCard : Claim7 := { stood := { row := routeBestRow, standIns := [], harness := (true, "6961b76c40d6eb044f7ee12ccc44c0f762e209a0797d58ac69b91132520cd3cd"), looks := true }, kinds := [], alts := [], laidByText := true, laidKinds := [.data, .data, .data, .sentinel, .sentinel], laidTests := true, laidLooks := .later }
def RouteBestCardSaid : Prop := Claim7.holds Tryd.pinned (.plain (OpenSpec.ofChange routeBestSpec)) routeBestCard

/-- THE TIED CARD OF 'sluicewaylaw26.RouteKnown'. -/
def routeKnownCard : Claim7 := { stood := { row := routeKnownRow, standIns := [], harness := (true, "6961b76c40d6eb044f7ee12ccc44c0f762e209a0797d58ac69b91132520cd3cd"), looks := true }, kinds := [], alts := [], laidByText := true, laidKinds := [.data, .data, .data, .sentinel, .sentinel], laidTests := true, laidLooks := .later }
def RouteKnownCardSaid : Prop := Claim7.holds Tryd.pinned (.plain (OpenSpec.ofChange routeKnownSpec)) routeKnownCard

/-- THE SECOND FORM's CARD OF 'sluicewaylaw22.OnionBuilds'. -/
def onionBuildsUptoCard : Claim7 := { stood := { row := onionBuildsUptoRow, standIns := [], harness := (true, "6961b76c40d6eb044f7ee12ccc44c0f762e209a0797d58ac69b91132520cd3cd"), looks := true }, kinds := [], alts := [], laidByText := true, laidKinds := [.data, .data, .data, .sentinel, .sentinel], laidTests := true, laidLooks := .later }
def OnionBuildsUptoCardSaid : Prop := Claim7.holds Tryd.pinned (.plain (OpenSpec.upto onionBuildsSpec)) onionBuildsUptoCard

/-- THE SECOND FORM's CARD OF 'sluicewaylaw22.OnionPeels'. -/
def onionPeelsUptoCard : Claim7 := { stood := { row := onionPeelsUptoRow, standIns := [], harness := (true, "6961b76c40d6eb044f7ee12ccc44c0f762e209a0797d58ac69b91132520cd3cd"), looks := true }, kinds := [], alts := [], laidByText := true, laidKinds := [.data, .data, .data, .sentinel, .sentinel], laidTests := true, laidLooks := .later }
def OnionPeelsUptoCardSaid : Prop := Claim7.holds Tryd.pinned (.plain (OpenSpec.upto onionPeelsSpec)) onionPeelsUptoCard

/-- THE SECOND FORM's CARD OF 'sluicewaylaw22.OnionRoute'. -/
def onionRouteUptoCard : Claim7 := { stood := { row := onionRouteUptoRow, standIns := [], harness := (true, "6961b76c40d6eb044f7ee12ccc44c0f762e209a0797d58ac69b91132520cd3cd"), looks := true }, kinds := [], alts := [], laidByText := true, laidKinds := [.data, .data, .data, .sentinel, .sentinel], laidTests := true, laidLooks := .later }
def OnionRouteUptoCardSaid : Prop := Claim7.holds Tryd.pinned (.plain (OpenSpec.upto onionRouteSpec)) onionRouteUptoCard

/-- THE SECOND FORM's CARD OF 'sluicewaylaw22.OnionBack'. -/
def onionBackUptoCard : Claim7 := { stood := { row := onionBackUptoRow, standIns := [], harness := (true, "6961b76c40d6eb044f7ee12ccc44c0f762e209a0797d58ac69b91132520cd3cd"), looks := true }, kinds := [], alts := [], laidByText := true, laidKinds := [.data, .data, .data, .sentinel, .sentinel], laidTests := true, laidLooks := .later }
def OnionBackUptoCardSaid : Prop := Claim7.holds Tryd.pinned (.plain (OpenSpec.upto onionBackSpec)) onionBackUptoCard

/-- THE SECOND FORM's CARD OF 'sluicewaylaw22.OnionKnown'. -/
def onionKnownUptoCard : Claim7 := { stood := { row := onionKnownUptoRow, standIns := [], harness := (true, "6961b76c40d6eb044f7ee12ccc44c0f762e209a0797d58ac69b91132520cd3cd"), looks := true }, kinds := [], alts := [], laidByText := true, laidKinds := [.data, .data, .data, .sentinel, .sentinel], laidTests := true, laidLooks := .later }
def OnionKnownUptoCardSaid : Prop := Claim7.holds Tryd.pinned (.plain (OpenSpec.upto onionKnownSpec)) onionKnownUptoCard

/-- THE SECOND FORM's CARD OF 'sluicewaylaw26.RouteIs'. -/
def routeIsUptoCard : Claim7 := { stood := { row := routeIsUptoRow, standIns := [], harness := (true, "6961b76c40d6eb044f7ee12ccc44c0f762e209a0797d58ac69b91132520cd3cd"), looks := true }, kinds := [], alts := [], laidByText := true, laidKinds := [.data, .data, .data, .sentinel, .sentinel], laidTests := true, laidLooks := .later }
def RouteIsUptoCardSaid : Prop := Claim7.holds Tryd.pinned (.plain (OpenSpec.upto routeIsSpec)) routeIsUptoCard

/-- THE SECOND FORM's CARD OF 'sluicewaylaw26.RouteBest'. -/
def routeBestUptoCard : Claim7 := { stood := { row := routeBestUptoRow, standIns := [], harness := (true, "6961b76c40d6eb044f7ee12ccc44c0f762e209a0797d58ac69b91132520cd3cd"), looks := true }, kinds := [], alts := [], laidByText := true, laidKinds := [.data, .data, .data, .sentinel, .sentinel], laidTests := true, laidLooks := .later }
def RouteBestUptoCardSaid : Prop := Claim7.holds Tryd.pinned (.plain (OpenSpec.upto routeBestSpec)) routeBestUptoCard

/-- THE SECOND FORM's CARD OF 'sluicewaylaw26.RouteKnown'. -/
def routeKnownUptoCard : Claim7 := { stood := { row := routeKnownUptoRow, standIns := [], harness := (true, "6961b76c40d6eb044f7ee12ccc44c0f762e209a0797d58ac69b91132520cd3cd"), looks := true }, kinds := [], alts := [], laidByText := true, laidKinds := [.data, .data, .data, .sentinel, .sentinel], laidTests := true, laidLooks := .later }
def RouteKnownUptoCardSaid : Prop := Claim7.holds Tryd.pinned (.plain (OpenSpec.upto routeKnownSpec)) routeKnownUptoCard
end Rows
end Go.Proofs.YtbdimlppnhcicaaDoor
