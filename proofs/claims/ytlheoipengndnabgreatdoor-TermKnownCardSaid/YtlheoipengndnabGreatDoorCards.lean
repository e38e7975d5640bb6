/-
  DERIVED. GIVEN WITH THE SEED: THE CARDS: each row of YtlheoipengndnabGreatDoorRows.lean that lists a variable, with what it lists TIED to the program's text (the seventh form; the later family's looks); each row that meets fmt, with fmt's text TOLD by the authors' own Lean function (tested against real Go, not proved from fmt's source: count such statements apart). THE CARD IS WHAT COUNTS. Prove the row's statement (the work); the ties are given (YtlheoipengndnabGreatDoorTie.lean); close each card by the builder's one call (the guide's Derived/Test/ToyasCard.lean, 'card_holds'). Laid BY PROGRAM, IN A SANDBOX (cutbox-door.mjs). By AI agents, Wed Nov 11 2026. No macro, syntax, notation, axiom, sorry.
-/
import Derived.Test.YtlheoipengndnabGreatDoorRows
import GoSem.ClaimSeven
namespace Go.Proofs.YtlheoipengndnabGreatDoor
namespace Rows

/-- THE TIED CARD OF 'sluicewaylaw01.TermKnown'. -/
def termKnownCard : Claim7 := { stood := { row := termKnownRow, standIns := [], harness := (true, "5b0cecc0e40216af8ee2e16d9cc0b3f1d289fc0ed7bf24880f37e1c04448bbbc"), looks := true }, kinds := [], alts := [], laidByText := true, laidKinds := [.data, .data, .data, .sentinel, .sentinel], laidTests := true, laidLooks := .later }
def TermKnownCardSaid : Prop := Claim7.holds Tryz.pinned (.plain (OpenSpec.ofChange termKnownSpec)) termKnownCard

/-- THE SECOND FORM's CARD OF 'sluicewaylaw01.TermKnown'. -/
def termKnownUptoCard : Claim7 := { stood := { row := termKnownUptoRow, standIns := [], harness := (true, "5b0cecc0e40216af8ee2e16d9cc0b3f1d289fc0ed7bf24880f37e1c04448bbbc"), looks := true }, kinds := [], alts := [], laidByText := true, laidKinds := [.data, .data, .data, .sentinel, .sentinel], laidTests := true, laidLooks := .later }
def TermKnownUptoCardSaid : Prop := Claim7.holds Tryz.pinned (.plain (OpenSpec.upto termKnownSpec)) termKnownUptoCard
end Rows
end Go.Proofs.YtlheoipengndnabGreatDoor
