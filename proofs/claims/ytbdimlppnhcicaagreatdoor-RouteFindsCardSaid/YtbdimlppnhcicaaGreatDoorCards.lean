/-
  DERIVED. GIVEN WITH THE SEED: THE CARDS: each row of YtbdimlppnhcicaaGreatDoorRows.lean that lists a variable, with what it lists TIED to the program's text (the seventh form; the later family's looks); each row that meets fmt, with fmt's text TOLD by the authors' own Lean function (tested against real Go, not proved from fmt's source: count such statements apart). THE CARD IS WHAT COUNTS. Prove the row's statement (the work); the ties are given (YtbdimlppnhcicaaGreatDoorTie.lean); close each card by the builder's one call (the guide's Derived/Test/ToyasCard.lean, 'card_holds'). Laid BY PROGRAM, IN A SANDBOX (cutbox-door.mjs). By AI agents, Wed Nov 11 2026. No macro, syntax, notation, axiom, sorry.
-/
import Derived.Test.YtbdimlppnhcicaaGreatDoorRows
import GoSem.ClaimSeven
namespace Go.Proofs.YtbdimlppnhcicaaGreatDoor
namespace Rows

/-- THE TIED CARD OF 'sluicewaylaw22.OnionFails'. -/
def onionFailsCard : Claim7 := { stood := { row := onionFailsRow, standIns := [], harness := (true, "f1e3a06f04bd8f94b0d5f77a596e4799f5c8a99c3522dc31313ca99e90788409"), looks := true }, kinds := [], alts := [], laidByText := true, laidKinds := [.data, .data, .data, .sentinel, .sentinel], laidTests := true, laidLooks := .later }
def OnionFailsCardSaid : Prop := Claim7.holds Tryz.pinned (.plain (OpenSpec.ofChange onionFailsSpec)) onionFailsCard

/-- THE TIED CARD OF 'sluicewaylaw26.RouteFinds'. -/
def routeFindsCard : Claim7 := { stood := { row := routeFindsRow, standIns := [], harness := (true, "f1e3a06f04bd8f94b0d5f77a596e4799f5c8a99c3522dc31313ca99e90788409"), looks := true }, kinds := [], alts := [], laidByText := true, laidKinds := [.data, .data, .data, .sentinel, .sentinel], laidTests := true, laidLooks := .later }
def RouteFindsCardSaid : Prop := Claim7.holds Tryz.pinned (.plain (OpenSpec.ofChange routeFindsSpec)) routeFindsCard

/-- THE TIED CARD OF 'sluicewaylaw26.RouteChecks'. -/
def routeChecksCard : Claim7 := { stood := { row := routeChecksRow, standIns := [], harness := (true, "f1e3a06f04bd8f94b0d5f77a596e4799f5c8a99c3522dc31313ca99e90788409"), looks := true }, kinds := [], alts := [], laidByText := true, laidKinds := [.data, .data, .data, .sentinel, .sentinel], laidTests := true, laidLooks := .later }
def RouteChecksCardSaid : Prop := Claim7.holds Tryz.pinned (.plain (OpenSpec.ofChange routeChecksSpec)) routeChecksCard

/-- THE TIED CARD OF 'sluicewaylaw28.PayerPlays'. -/
def payerPlaysCard : Claim7 := { stood := { row := payerPlaysRow, standIns := [], harness := (true, "f1e3a06f04bd8f94b0d5f77a596e4799f5c8a99c3522dc31313ca99e90788409"), looks := true }, kinds := [], alts := [], laidByText := true, laidKinds := [.data, .data, .data, .sentinel, .sentinel], laidTests := true, laidLooks := .later }
def PayerPlaysCardSaid : Prop := Claim7.holds Tryz.pinned (.plain (OpenSpec.ofChange payerPlaysSpec)) payerPlaysCard

/-- THE TIED CARD OF 'sluicewaylaw28.PayerKnown'. -/
def payerKnownCard : Claim7 := { stood := { row := payerKnownRow, standIns := [], harness := (true, "f1e3a06f04bd8f94b0d5f77a596e4799f5c8a99c3522dc31313ca99e90788409"), looks := true }, kinds := [], alts := [], laidByText := true, laidKinds := [.data, .data, .data, .sentinel, .sentinel], laidTests := true, laidLooks := .later }
def PayerKnownCardSaid : Prop := Claim7.holds Tryz.pinned (.plain (OpenSpec.ofChange payerKnownSpec)) payerKnownCard

/-- THE TIED CARD OF 'sluicewaylaw28.PayerLearns'. -/
def payerLearnsCard : Claim7 := { stood := { row := payerLearnsRow, standIns := [], harness := (true, "f1e3a06f04bd8f94b0d5f77a596e4799f5c8a99c3522dc31313ca99e90788409"), looks := true }, kinds := [], alts := [], laidByText := true, laidKinds := [.data, .data, .data, .sentinel, .sentinel], laidTests := true, laidLooks := .later }
def PayerLearnsCardSaid : Prop := Claim7.holds Tryz.pinned (.plain (OpenSpec.ofChange payerLearnsSpec)) payerLearnsCard

/-- THE TIED CARD OF 'sluicewaylaw28.PayerOnce'. -/
def payerOnceCard : Claim7 := { stood := { row := payerOnceRow, standIns := [], harness := (true, "f1e3a06f04bd8f94b0d5f77a596e4799f5c8a99c3522dc31313ca99e90788409"), looks := true }, kinds := [], alts := [], laidByText := true, laidKinds := [.data, .data, .data, .sentinel, .sentinel], laidTests := true, laidLooks := .later }
def PayerOnceCardSaid : Prop := Claim7.holds Tryz.pinned (.plain (OpenSpec.ofChange payerOnceSpec)) payerOnceCard

/-- THE SECOND FORM's CARD OF 'sluicewaylaw22.OnionFails'. -/
def onionFailsUptoCard : Claim7 := { stood := { row := onionFailsUptoRow, standIns := [], harness := (true, "f1e3a06f04bd8f94b0d5f77a596e4799f5c8a99c3522dc31313ca99e90788409"), looks := true }, kinds := [], alts := [], laidByText := true, laidKinds := [.data, .data, .data, .sentinel, .sentinel], laidTests := true, laidLooks := .later }
def OnionFailsUptoCardSaid : Prop := Claim7.holds Tryz.pinned (.plain (OpenSpec.upto onionFailsSpec)) onionFailsUptoCard

/-- THE SECOND FORM's CARD OF 'sluicewaylaw26.RouteFinds'. -/
def routeFindsUptoCard : Claim7 := { stood := { row := routeFindsUptoRow, standIns := [], harness := (true, "f1e3a06f04bd8f94b0d5f77a596e4799f5c8a99c3522dc31313ca99e90788409"), looks := true }, kinds := [], alts := [], laidByText := true, laidKinds := [.data, .data, .data, .sentinel, .sentinel], laidTests := true, laidLooks := .later }
def RouteFindsUptoCardSaid : Prop := Claim7.holds Tryz.pinned (.plain (OpenSpec.upto routeFindsSpec)) routeFindsUptoCard

/-- THE SECOND FORM's CARD OF 'sluicewaylaw26.RouteChecks'. -/
def routeChecksUptoCard : Claim7 := { stood := { row := routeChecksUptoRow, standIns := [], harness := (true, "f1e3a06f04bd8f94b0d5f77a596e4799f5c8a99c3522dc31313ca99e90788409"), looks := true }, kinds := [], alts := [], laidByText := true, laidKinds := [.data, .data, .data, .sentinel, .sentinel], laidTests := true, laidLooks := .later }
def RouteChecksUptoCardSaid : Prop := Claim7.holds Tryz.pinned (.plain (OpenSpec.upto routeChecksSpec)) routeChecksUptoCard

/-- THE SECOND FORM's CARD OF 'sluicewaylaw28.PayerPlays'. -/
def payerPlaysUptoCard : Claim7 := { stood := { row := payerPlaysUptoRow, standIns := [], harness := (true, "f1e3a06f04bd8f94b0d5f77a596e4799f5c8a99c3522dc31313ca99e90788409"), looks := true }, kinds := [], alts := [], laidByText := true, laidKinds := [.data, .data, .data, .sentinel, .sentinel], laidTests := true, laidLooks := .later }
def PayerPlaysUptoCardSaid : Prop := Claim7.holds Tryz.pinned (.plain (OpenSpec.upto payerPlaysSpec)) payerPlaysUptoCard

/-- THE SECOND FORM's CARD OF 'sluicewaylaw28.PayerKnown'. -/
def payerKnownUptoCard : Claim7 := { stood := { row := payerKnownUptoRow, standIns := [], harness := (true, "f1e3a06f04bd8f94b0d5f77a596e4799f5c8a99c3522dc31313ca99e90788409"), looks := true }, kinds := [], alts := [], laidByText := true, laidKinds := [.data, .data, .data, .sentinel, .sentinel], laidTests := true, laidLooks := .later }
def PayerKnownUptoCardSaid : Prop := Claim7.holds Tryz.pinned (.plain (OpenSpec.upto payerKnownSpec)) payerKnownUptoCard

/-- THE SECOND FORM's CARD OF 'sluicewaylaw28.PayerLearns'. -/
def payerLearnsUptoCard : Claim7 := { stood := { row := payerLearnsUptoRow, standIns := [], harness := (true, "f1e3a06f04bd8f94b0d5f77a596e4799f5c8a99c3522dc31313ca99e90788409"), looks := true }, kinds := [], alts := [], laidByText := true, laidKinds := [.data, .data, .data, .sentinel, .sentinel], laidTests := true, laidLooks := .later }
def PayerLearnsUptoCardSaid : Prop := Claim7.holds Tryz.pinned (.plain (OpenSpec.upto payerLearnsSpec)) payerLearnsUptoCard

/-- THE SECOND FORM's CARD OF 'sluicewaylaw28.PayerOnce'. -/
def payerOnceUptoCard : Claim7 := { stood := { row := payerOnceUptoRow, standIns := [], harness := (true, "f1e3a06f04bd8f94b0d5f77a596e4799f5c8a99c3522dc31313ca99e90788409"), looks := true }, kinds := [], alts := [], laidByText := true, laidKinds := [.data, .data, .data, .sentinel, .sentinel], laidTests := true, laidLooks := .later }
def PayerOnceUptoCardSaid : Prop := Claim7.holds Tryz.pinned (.plain (OpenSpec.upto payerOnceSpec)) payerOnceUptoCard
end Rows
end Go.Proofs.YtbdimlppnhcicaaGreatDoor
