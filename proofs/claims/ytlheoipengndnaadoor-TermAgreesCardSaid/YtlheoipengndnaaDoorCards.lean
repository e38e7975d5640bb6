/-
  DERIVED. GIVEN WITH THE SEED: THE CARDS: each row of YtlheoipengndnaaDoorRows.lean that lists a variable, with what it lists TIED to the program's text (the seventh form; the later family's looks); each row that meets fmt, with fmt's text TOLD by the authors' own Lean function (tested against real Go, not proved from fmt's source: count such statements apart). THE CARD IS WHAT COUNTS. Prove the row's statement (the work); the ties are given (YtlheoipengndnaaDoorTie.lean); close each card by the builder's one call (the guide's Derived/Test/ToyasCard.lean, 'card_holds'). Laid BY PROGRAM, IN A SANDBOX (cutbox-door.mjs). By AI agents, Wed Nov 11 2026. No macro, syntax, notation, axiom, sorry.
-/
import Derived.Test.YtlheoipengndnaaDoorRows
import GoSem.ClaimSeven
namespace Go.Proofs.YtlheoipengndnaaDoor
namespace Rows

/-- THE TIED CARD OF 'sluicewaylaw01.TermOpens'. -/
def termOpensCard : Claim7 := { stood := { row := termOpensRow, standIns := [], harness := (true, "dc08b78529f0bfefc6fa08f7c4de46b7329f8d5d799affcc4a962e92b6bc06e0"), looks := true }, kinds := [], alts := [], laidByText := true, laidKinds := [.data, .data, .data, .sentinel, .sentinel], laidTests := true, laidLooks := .later }
def TermOpensCardSaid : Prop := Claim7.holds Tryd.pinned (.plain (OpenSpec.ofChange termOpensSpec)) termOpensCard

/-- THE TIED CARD OF 'sluicewaylaw01.TermAsks'. -/
def termAsksCard : Claim7 := { stood := { row := termAsksRow, standIns := [], harness := (true, "dc08b78529f0bfefc6fa08f7c4de46b7329f8d5d799affcc4a962e92b6bc06e0"), looks := true }, kinds := [], alts := [], laidByText := true, laidKinds := [.data, .data, .data, .sentinel, .sentinel], laidTests := true, laidLooks := .later }
def TermAsksCardSaid : Prop := Claim7.holds Tryd.pinned (.plain (OpenSpec.ofChange termAsksSpec)) termAsksCard

/-- THE TIED CARD OF 'sluicewaylaw01.TermSigns'. -/
def termSignsCard : Claim7 := { stood := { row := termSignsRow, standIns := [], harness := (true, "dc08b78529f0bfefc6fa08f7c4de46b7329f8d5d799affcc4a962e92b6bc06e0"), looks := true }, kinds := [], alts := [], laidByText := true, laidKinds := [.data, .data, .data, .sentinel, .sentinel], laidTests := true, laidLooks := .later }
def TermSignsCardSaid : Prop := Claim7.holds Tryd.pinned (.plain (OpenSpec.ofChange termSignsSpec)) termSignsCard

/-- THE TIED CARD OF 'sluicewaylaw01.TermMakes'. -/
def termMakesCard : Claim7 := { stood := { row := termMakesRow, standIns := [], harness := (true, "dc08b78529f0bfefc6fa08f7c4de46b7329f8d5d799affcc4a962e92b6bc06e0"), looks := true }, kinds := [], alts := [], laidByText := true, laidKinds := [.data, .data, .data, .sentinel, .sentinel], laidTests := true, laidLooks := .later }
def TermMakesCardSaid : Prop := Claim7.holds Tryd.pinned (.plain (OpenSpec.ofChange termMakesSpec)) termMakesCard

/-- THE TIED CARD OF 'sluicewaylaw01.TermBack'. -/
def termBackCard : Claim7 := { stood := { row := termBackRow, standIns := [], harness := (true, "dc08b78529f0bfefc6fa08f7c4de46b7329f8d5d799affcc4a962e92b6bc06e0"), looks := true }, kinds := [], alts := [], laidByText := true, laidKinds := [.data, .data, .data, .sentinel, .sentinel], laidTests := true, laidLooks := .later }
def TermBackCardSaid : Prop := Claim7.holds Tryd.pinned (.plain (OpenSpec.ofChange termBackSpec)) termBackCard

/-- THE TIED CARD OF 'sluicewaylaw01.TermAgrees'. -/
def termAgreesCard : Claim7 := { stood := { row := termAgreesRow, standIns := [], harness := (true, "dc08b78529f0bfefc6fa08f7c4de46b7329f8d5d799affcc4a962e92b6bc06e0"), looks := true }, kinds := [], alts := [], laidByText := true, laidKinds := [.data, .data, .data, .sentinel, .sentinel], laidTests := true, laidLooks := .later }
def TermAgreesCardSaid : Prop := Claim7.holds Tryd.pinned (.plain (OpenSpec.ofChange termAgreesSpec)) termAgreesCard

/-- THE SECOND FORM's CARD OF 'sluicewaylaw01.TermOpens'. -/
def termOpensUptoCard : Claim7 := { stood := { row := termOpensUptoRow, standIns := [], harness := (true, "dc08b78529f0bfefc6fa08f7c4de46b7329f8d5d799affcc4a962e92b6bc06e0"), looks := true }, kinds := [], alts := [], laidByText := true, laidKinds := [.data, .data, .data, .sentinel, .sentinel], laidTests := true, laidLooks := .later }
def TermOpensUptoCardSaid : Prop := Claim7.holds Tryd.pinned (.plain (OpenSpec.upto termOpensSpec)) termOpensUptoCard

/-- THE SECOND FORM's CARD OF 'sluicewaylaw01.TermAsks'. -/
def termAsksUptoCard : Claim7 := { stood := { row := termAsksUptoRow, standIns := [], harness := (true, "dc08b78529f0bfefc6fa08f7c4de46b7329f8d5d799affcc4a962e92b6bc06e0"), looks := true }, kinds := [], alts := [], laidByText := true, laidKinds := [.data, .data, .data, .sentinel, .sentinel], laidTests := true, laidLooks := .later }
def TermAsksUptoCardSaid : Prop := Claim7.holds Tryd.pinned (.plain (OpenSpec.upto termAsksSpec)) termAsksUptoCard

/-- THE SECOND FORM's CARD OF 'sluicewaylaw01.TermSigns'. -/
def termSignsUptoCard : Claim7 := { stood := { row := termSignsUptoRow, standIns := [], harness := (true, "dc08b78529f0bfefc6fa08f7c4de46b7329f8d5d799affcc4a962e92b6bc06e0"), looks := true }, kinds := [], alts := [], laidByText := true, laidKinds := [.data, .data, .data, .sentinel, .sentinel], laidTests := true, laidLooks := .later }
def TermSignsUptoCardSaid : Prop := Claim7.holds Tryd.pinned (.plain (OpenSpec.upto termSignsSpec)) termSignsUptoCard

/-- THE SECOND FORM's CARD OF 'sluicewaylaw01.TermMakes'. -/
def termMakesUptoCard : Claim7 := { stood := { row := termMakesUptoRow, standIns := [], harness := (true, "dc08b78529f0bfefc6fa08f7c4de46b7329f8d5d799affcc4a962e92b6bc06e0"), looks := true }, kinds := [], alts := [], laidByText := true, laidKinds := [.data, .data, .data, .sentinel, .sentinel], laidTests := true, laidLooks := .later }
def TermMakesUptoCardSaid : Prop := Claim7.holds Tryd.pinned (.plain (OpenSpec.upto termMakesSpec)) termMakesUptoCard

/-- THE SECOND FORM's CARD OF 'sluicewaylaw01.TermBack'. -/
def termBackUptoCard : Claim7 := { stood := { row := termBackUptoRow, standIns := [], harness := (true, "dc08b78529f0bfefc6fa08f7c4de46b7329f8d5d799affcc4a962e92b6bc06e0"), looks := true }, kinds := [], alts := [], laidByText := true, laidKinds := [.data, .data, .data, .sentinel, .sentinel], laidTests := true, laidLooks := .later }
def TermBackUptoCardSaid : Prop := Claim7.holds Tryd.pinned (.plain (OpenSpec.upto termBackSpec)) termBackUptoCard

/-- THE SECOND FORM's CARD OF 'sluicewaylaw01.TermAgrees'. -/
def termAgreesUptoCard : Claim7 := { stood := { row := termAgreesUptoRow, standIns := [], harness := (true, "dc08b78529f0bfefc6fa08f7c4de46b7329f8d5d799affcc4a962e92b6bc06e0"), looks := true }, kinds := [], alts := [], laidByText := true, laidKinds := [.data, .data, .data, .sentinel, .sentinel], laidTests := true, laidLooks := .later }
def TermAgreesUptoCardSaid : Prop := Claim7.holds Tryd.pinned (.plain (OpenSpec.upto termAgreesSpec)) termAgreesUptoCard
end Rows
end Go.Proofs.YtlheoipengndnaaDoor
