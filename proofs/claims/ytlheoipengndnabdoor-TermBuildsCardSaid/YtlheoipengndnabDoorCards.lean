/-
  DERIVED. GIVEN WITH THE SEED: THE CARDS: each row of YtlheoipengndnabDoorRows.lean that lists a variable, with what it lists TIED to the program's text (the seventh form; the later family's looks); each row that meets fmt, with fmt's text TOLD by the authors' own Lean function (tested against real Go, not proved from fmt's source: count such statements apart). THE CARD IS WHAT COUNTS. Prove the row's statement (the work); the ties are given (YtlheoipengndnabDoorTie.lean); close each card by the builder's one call (the guide's Derived/Test/ToyasCard.lean, 'card_holds'). Laid BY PROGRAM, IN A SANDBOX (cutbox-door.mjs). By AI agents, Wed Nov 11 2026. No macro, syntax, notation, axiom, sorry.
-/
import Derived.Test.YtlheoipengndnabDoorRows
import GoSem.ClaimSeven
namespace Go.Proofs.YtlheoipengndnabDoor
namespace Rows

/-- THE TIED CARD OF 'sluicewaylaw01.TermKeys'. -/
def termKeysCard : Claim7 := { stood := { row := termKeysRow, standIns := [], harness := (true, "c352e0633c1187a40d3ee1fbf82b645803211183cd19c0c898ab7b8e876886bf"), looks := true }, kinds := [], alts := [], laidByText := true, laidKinds := [.data, .data, .data, .sentinel, .sentinel], laidTests := true, laidLooks := .later }
def TermKeysCardSaid : Prop := Claim7.holds Tryd.pinned (.plain (OpenSpec.ofChange termKeysSpec)) termKeysCard

/-- THE TIED CARD OF 'sluicewaylaw01.TermBuilds'. -/
def termBuildsCard : Claim7 := { stood := { row := termBuildsRow, standIns := [], harness := (true, "c352e0633c1187a40d3ee1fbf82b645803211183cd19c0c898ab7b8e876886bf"), looks := true }, kinds := [], alts := [], laidByText := true, laidKinds := [.data, .data, .data, .sentinel, .sentinel], laidTests := true, laidLooks := .later }
def TermBuildsCardSaid : Prop := Claim7.holds Tryd.pinned (.plain (OpenSpec.ofChange termBuildsSpec)) termBuildsCard

/-- THE SECOND FORM's CARD OF 'sluicewaylaw01.TermKeys'. -/
def termKeysUptoCard : Claim7 := { stood := { row := termKeysUptoRow, standIns := [], harness := (true, "c352e0633c1187a40d3ee1fbf82b645803211183cd19c0c898ab7b8e876886bf"), looks := true }, kinds := [], alts := [], laidByText := true, laidKinds := [.data, .data, .data, .sentinel, .sentinel], laidTests := true, laidLooks := .later }
def TermKeysUptoCardSaid : Prop := Claim7.holds Tryd.pinned (.plain (OpenSpec.upto termKeysSpec)) termKeysUptoCard

/-- THE SECOND FORM's CARD OF 'sluicewaylaw01.TermBuilds'. -/
def termBuildsUptoCard : Claim7 := { stood := { row := termBuildsUptoRow, standIns := [], harness := (true, "c352e0633c1187a40d3ee1fbf82b645803211183cd19c0c898ab7b8e876886bf"), looks := true }, kinds := [], alts := [], laidByText := true, laidKinds := [.data, .data, .data, .sentinel, .sentinel], laidTests := true, laidLooks := .later }
def TermBuildsUptoCardSaid : Prop := Claim7.holds Tryd.pinned (.plain (OpenSpec.upto termBuildsSpec)) termBuildsUptoCard
end Rows
end Go.Proofs.YtlheoipengndnabDoor
