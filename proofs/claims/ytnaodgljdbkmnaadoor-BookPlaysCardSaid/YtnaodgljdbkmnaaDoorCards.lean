/-
  DERIVED. GIVEN WITH THE SEED: THE CARDS: each row of YtnaodgljdbkmnaaDoorRows.lean that lists a variable, with what it lists TIED to the program's text (the seventh form; the later family's looks); each row that meets fmt, with fmt's text TOLD by the authors' own Lean function (tested against real Go, not proved from fmt's source: count such statements apart). THE CARD IS WHAT COUNTS. Prove the row's statement (the work); the ties are given (YtnaodgljdbkmnaaDoorTie.lean); close each card by the builder's one call (the guide's Derived/Test/ToyasCard.lean, 'card_holds'). Laid BY PROGRAM, IN A SANDBOX (cutbox-door.mjs). By AI agents, Wed Nov 11 2026. No macro, syntax, notation, axiom, sorry.
-/
import Derived.Test.YtnaodgljdbkmnaaDoorRows
import GoSem.ClaimSeven
namespace Go.Proofs.YtnaodgljdbkmnaaDoor
namespace Rows

/-- THE TIED CARD OF 'sluicewaylaw15.SeedSecrets'. -/
def seedSecretsCard : Claim7 := { stood := { row := seedSecretsRow, standIns := [], harness := (true, "6116fa7334b074f6eef1eac6db904e81176fd48b7b1d3c9e8deafe839030cfb4"), looks := true }, kinds := [], alts := [], laidByText := true, laidKinds := [.data, .data, .data, .sentinel, .sentinel], laidTests := true, laidLooks := .later }
def SeedSecretsCardSaid : Prop := Claim7.holds Tryd.pinned (.plain (OpenSpec.ofChange seedSecretsSpec)) seedSecretsCard

/-- THE TIED CARD OF 'sluicewaylaw15.SeedTells'. -/
def seedTellsCard : Claim7 := { stood := { row := seedTellsRow, standIns := [], harness := (true, "6116fa7334b074f6eef1eac6db904e81176fd48b7b1d3c9e8deafe839030cfb4"), looks := true }, kinds := [], alts := [], laidByText := true, laidKinds := [.data, .data, .data, .sentinel, .sentinel], laidTests := true, laidLooks := .later }
def SeedTellsCardSaid : Prop := Claim7.holds Tryd.pinned (.plain (OpenSpec.ofChange seedTellsSpec)) seedTellsCard

/-- THE TIED CARD OF 'sluicewaylaw15.SeedPlays'. -/
def seedPlaysCard : Claim7 := { stood := { row := seedPlaysRow, standIns := [], harness := (true, "6116fa7334b074f6eef1eac6db904e81176fd48b7b1d3c9e8deafe839030cfb4"), looks := true }, kinds := [], alts := [], laidByText := true, laidKinds := [.data, .data, .data, .sentinel, .sentinel], laidTests := true, laidLooks := .later }
def SeedPlaysCardSaid : Prop := Claim7.holds Tryd.pinned (.plain (OpenSpec.ofChange seedPlaysSpec)) seedPlaysCard

/-- THE TIED CARD OF 'sluicewaylaw15.SeedNone'. -/
def seedNoneCard : Claim7 := { stood := { row := seedNoneRow, standIns := [], harness := (true, "6116fa7334b074f6eef1eac6db904e81176fd48b7b1d3c9e8deafe839030cfb4"), looks := true }, kinds := [], alts := [], laidByText := true, laidKinds := [.data, .data, .data, .sentinel, .sentinel], laidTests := true, laidLooks := .later }
def SeedNoneCardSaid : Prop := Claim7.holds Tryd.pinned (.plain (OpenSpec.ofChange seedNoneSpec)) seedNoneCard

/-- THE TIED CARD OF 'sluicewaylaw15.SeedKnown'. -/
def seedKnownCard : Claim7 := { stood := { row := seedKnownRow, standIns := [], harness := (true, "6116fa7334b074f6eef1eac6db904e81176fd48b7b1d3c9e8deafe839030cfb4"), looks := true }, kinds := [], alts := [], laidByText := true, laidKinds := [.data, .data, .data, .sentinel, .sentinel], laidTests := true, laidLooks := .later }
def SeedKnownCardSaid : Prop := Claim7.holds Tryd.pinned (.plain (OpenSpec.ofChange seedKnownSpec)) seedKnownCard

/-- THE TIED CARD OF 'sluicewaylaw23.BookOnce'. -/
def bookOnceCard : Claim7 := { stood := { row := bookOnceRow, standIns := [], harness := (true, "6116fa7334b074f6eef1eac6db904e81176fd48b7b1d3c9e8deafe839030cfb4"), looks := true }, kinds := [], alts := [], laidByText := true, laidKinds := [.data, .data, .data, .sentinel, .sentinel], laidTests := true, laidLooks := .later }
def BookOnceCardSaid : Prop := Claim7.holds Tryd.pinned (.plain (OpenSpec.ofChange bookOnceSpec)) bookOnceCard

/-- THE TIED CARD OF 'sluicewaylaw23.BookOrder'. -/
def bookOrderCard : Claim7 := { stood := { row := bookOrderRow, standIns := [], harness := (true, "6116fa7334b074f6eef1eac6db904e81176fd48b7b1d3c9e8deafe839030cfb4"), looks := true }, kinds := [], alts := [], laidByText := true, laidKinds := [.data, .data, .data, .sentinel, .sentinel], laidTests := true, laidLooks := .later }
def BookOrderCardSaid : Prop := Claim7.holds Tryd.pinned (.plain (OpenSpec.ofChange bookOrderSpec)) bookOrderCard

/-- THE TIED CARD OF 'sluicewaylaw23.BookPlays'. -/
def bookPlaysCard : Claim7 := { stood := { row := bookPlaysRow, standIns := [], harness := (true, "6116fa7334b074f6eef1eac6db904e81176fd48b7b1d3c9e8deafe839030cfb4"), looks := true }, kinds := [], alts := [], laidByText := true, laidKinds := [.data, .data, .data, .sentinel, .sentinel], laidTests := true, laidLooks := .later }
def BookPlaysCardSaid : Prop := Claim7.holds Tryd.pinned (.plain (OpenSpec.ofChange bookPlaysSpec)) bookPlaysCard

/-- THE TIED CARD OF 'sluicewaylaw23.BookKnown'. -/
def bookKnownCard : Claim7 := { stood := { row := bookKnownRow, standIns := [], harness := (true, "6116fa7334b074f6eef1eac6db904e81176fd48b7b1d3c9e8deafe839030cfb4"), looks := true }, kinds := [], alts := [], laidByText := true, laidKinds := [.data, .data, .data, .sentinel, .sentinel], laidTests := true, laidLooks := .later }
def BookKnownCardSaid : Prop := Claim7.holds Tryd.pinned (.plain (OpenSpec.ofChange bookKnownSpec)) bookKnownCard

/-- THE SECOND FORM's CARD OF 'sluicewaylaw15.SeedSecrets'. -/
def seedSecretsUptoCard : Claim7 := { stood := { row := seedSecretsUptoRow, standIns := [], harness := (true, "6116fa7334b074f6eef1eac6db904e81176fd48b7b1d3c9e8deafe839030cfb4"), looks := true }, kinds := [], alts := [], laidByText := true, laidKinds := [.data, .data, .data, .sentinel, .sentinel], laidTests := true, laidLooks := .later }
def SeedSecretsUptoCardSaid : Prop := Claim7.holds Tryd.pinned (.plain (OpenSpec.upto seedSecretsSpec)) seedSecretsUptoCard

/-- THE SECOND FORM's CARD OF 'sluicewaylaw15.SeedTells'. -/
def seedTellsUptoCard : Claim7 := { stood := { row := seedTellsUptoRow, standIns := [], harness := (true, "6116fa7334b074f6eef1eac6db904e81176fd48b7b1d3c9e8deafe839030cfb4"), looks := true }, kinds := [], alts := [], laidByText := true, laidKinds := [.data, .data, .data, .sentinel, .sentinel], laidTests := true, laidLooks := .later }
def SeedTellsUptoCardSaid : Prop := Claim7.holds Tryd.pinned (.plain (OpenSpec.upto seedTellsSpec)) seedTellsUptoCard

/-- THE SECOND FORM's CARD OF 'sluicewaylaw15.SeedPlays'. -/
def seedPlaysUptoCard : Claim7 := { stood := { row := seedPlaysUptoRow, standIns := [], harness := (true, "6116fa7334b074f6eef1eac6db904e81176fd48b7b1d3c9e8deafe839030cfb4"), looks := true }, kinds := [], alts := [], laidByText := true, laidKinds := [.data, .data, .data, .sentinel, .sentinel], laidTests := true, laidLooks := .later }
def SeedPlaysUptoCardSaid : Prop := Claim7.holds Tryd.pinned (.plain (OpenSpec.upto seedPlaysSpec)) seedPlaysUptoCard

/-- THE SECOND FORM's CARD OF 'sluicewaylaw15.SeedNone'. -/
def seedNoneUptoCard : Claim7 := { stood := { row := seedNoneUptoRow, standIns := [], harness := (true, "6116fa7334b074f6eef1eac6db904e81176fd48b7b1d3c9e8deafe839030cfb4"), looks := true }, kinds := [], alts := [], laidByText := true, laidKinds := [.data, .data, .data, .sentinel, .sentinel], laidTests := true, laidLooks := .later }
def SeedNoneUptoCardSaid : Prop := Claim7.holds Tryd.pinned (.plain (OpenSpec.upto seedNoneSpec)) seedNoneUptoCard

/-- THE SECOND FORM's CARD OF 'sluicewaylaw15.SeedKnown'. -/
def seedKnownUptoCard : Claim7 := { stood := { row := seedKnownUptoRow, standIns := [], harness := (true, "6116fa7334b074f6eef1eac6db904e81176fd48b7b1d3c9e8deafe839030cfb4"), looks := true }, kinds := [], alts := [], laidByText := true, laidKinds := [.data, .data, .data, .sentinel, .sentinel], laidTests := true, laidLooks := .later }
def SeedKnownUptoCardSaid : Prop := Claim7.holds Tryd.pinned (.plain (OpenSpec.upto seedKnownSpec)) seedKnownUptoCard

/-- THE SECOND FORM's CARD OF 'sluicewaylaw23.BookOnce'. -/
def bookOnceUptoCard : Claim7 := { stood := { row := bookOnceUptoRow, standIns := [], harness := (true, "6116fa7334b074f6eef1eac6db904e81176fd48b7b1d3c9e8deafe839030cfb4"), looks := true }, kinds := [], alts := [], laidByText := true, laidKinds := [.data, .data, .data, .sentinel, .sentinel], laidTests := true, laidLooks := .later }
def BookOnceUptoCardSaid : Prop := Claim7.holds Tryd.pinned (.plain (OpenSpec.upto bookOnceSpec)) bookOnceUptoCard

/-- THE SECOND FORM's CARD OF 'sluicewaylaw23.BookOrder'. -/
def bookOrderUptoCard : Claim7 := { stood := { row := bookOrderUptoRow, standIns := [], harness := (true, "6116fa7334b074f6eef1eac6db904e81176fd48b7b1d3c9e8deafe839030cfb4"), looks := true }, kinds := [], alts := [], laidByText := true, laidKinds := [.data, .data, .data, .sentinel, .sentinel], laidTests := true, laidLooks := .later }
def BookOrderUptoCardSaid : Prop := Claim7.holds Tryd.pinned (.plain (OpenSpec.upto bookOrderSpec)) bookOrderUptoCard

/-- THE SECOND FORM's CARD OF 'sluicewaylaw23.BookPlays'. -/
def bookPlaysUptoCard : Claim7 := { stood := { row := bookPlaysUptoRow, standIns := [], harness := (true, "6116fa7334b074f6eef1eac6db904e81176fd48b7b1d3c9e8deafe839030cfb4"), looks := true }, kinds := [], alts := [], laidByText := true, laidKinds := [.data, .data, .data, .sentinel, .sentinel], laidTests := true, laidLooks := .later }
def BookPlaysUptoCardSaid : Prop := Claim7.holds Tryd.pinned (.plain (OpenSpec.upto bookPlaysSpec)) bookPlaysUptoCard

/-- THE SECOND FORM's CARD OF 'sluicewaylaw23.BookKnown'. -/
def bookKnownUptoCard : Claim7 := { stood := { row := bookKnownUptoRow, standIns := [], harness := (true, "6116fa7334b074f6eef1eac6db904e81176fd48b7b1d3c9e8deafe839030cfb4"), looks := true }, kinds := [], alts := [], laidByText := true, laidKinds := [.data, .data, .data, .sentinel, .sentinel], laidTests := true, laidLooks := .later }
def BookKnownUptoCardSaid : Prop := Claim7.holds Tryd.pinned (.plain (OpenSpec.upto bookKnownSpec)) bookKnownUptoCard
end Rows
end Go.Proofs.YtnaodgljdbkmnaaDoor
