/-
  DERIVED. GIVEN WITH THE SEED: THE CARDS: each row of YtkhbkckcgfddlaaDoorRows.lean that lists a variable, with what it lists TIED to the program's text (the seventh form; the later family's looks); each row that meets fmt, with fmt's text TOLD by the authors' own Lean function (tested against real Go, not proved from fmt's source: count such statements apart). THE CARD IS WHAT COUNTS. Prove the row's statement (the work); the ties are given (YtkhbkckcgfddlaaDoorTie.lean); close each card by the builder's one call (the guide's Derived/Test/ToyasCard.lean, 'card_holds'). Laid BY PROGRAM, IN A SANDBOX (cutbox-door.mjs). By AI agents, Wed Nov 11 2026. No macro, syntax, notation, axiom, sorry.
-/
import Derived.Test.YtkhbkckcgfddlaaDoorRows
import GoSem.ClaimSeven
namespace Go.Proofs.YtkhbkckcgfddlaaDoor
namespace Rows

/-- THE TIED CARD OF 'sluicewaylaw02.DigestSums'. -/
def digestSumsCard : Claim7 := { stood := { row := digestSumsRow, standIns := [], harness := (true, "fd1a182d4ea3184a6e7990c5c15212ab22808a5ee1eedd9c55366fb82c503404"), looks := false }, kinds := [], alts := [], laidByText := true, laidKinds := [.data], laidTests := true, laidLooks := .later }
def DigestSumsCardSaid : Prop := Claim7.holds Tryd.pinned (.plain (OpenSpec.ofChange digestSumsSpec)) digestSumsCard

/-- THE TIED CARD OF 'sluicewaylaw02.DigestPieces'. -/
def digestPiecesCard : Claim7 := { stood := { row := digestPiecesRow, standIns := [], harness := (true, "fd1a182d4ea3184a6e7990c5c15212ab22808a5ee1eedd9c55366fb82c503404"), looks := false }, kinds := [], alts := [], laidByText := true, laidKinds := [.data], laidTests := true, laidLooks := .later }
def DigestPiecesCardSaid : Prop := Claim7.holds Tryd.pinned (.plain (OpenSpec.ofChange digestPiecesSpec)) digestPiecesCard

/-- THE TIED CARD OF 'sluicewaylaw02.DigestNone'. -/
def digestNoneCard : Claim7 := { stood := { row := digestNoneRow, standIns := [], harness := (true, "fd1a182d4ea3184a6e7990c5c15212ab22808a5ee1eedd9c55366fb82c503404"), looks := false }, kinds := [], alts := [], laidByText := true, laidKinds := [.data], laidTests := true, laidLooks := .later }
def DigestNoneCardSaid : Prop := Claim7.holds Tryd.pinned (.plain (OpenSpec.ofChange digestNoneSpec)) digestNoneCard

/-- THE TIED CARD OF 'sluicewaylaw02.DigestKnown'. -/
def digestKnownCard : Claim7 := { stood := { row := digestKnownRow, standIns := [], harness := (true, "fd1a182d4ea3184a6e7990c5c15212ab22808a5ee1eedd9c55366fb82c503404"), looks := false }, kinds := [], alts := [], laidByText := true, laidKinds := [.data], laidTests := true, laidLooks := .later }
def DigestKnownCardSaid : Prop := Claim7.holds Tryd.pinned (.plain (OpenSpec.ofChange digestKnownSpec)) digestKnownCard

/-- THE SECOND FORM's CARD OF 'sluicewaylaw02.DigestSums'. -/
def digestSumsUptoCard : Claim7 := { stood := { row := digestSumsUptoRow, standIns := [], harness := (true, "fd1a182d4ea3184a6e7990c5c15212ab22808a5ee1eedd9c55366fb82c503404"), looks := false }, kinds := [], alts := [], laidByText := true, laidKinds := [.data], laidTests := true, laidLooks := .later }
def DigestSumsUptoCardSaid : Prop := Claim7.holds Tryd.pinned (.plain (OpenSpec.upto digestSumsSpec)) digestSumsUptoCard

/-- THE SECOND FORM's CARD OF 'sluicewaylaw02.DigestPieces'. -/
def digestPiecesUptoCard : Claim7 := { stood := { row := digestPiecesUptoRow, standIns := [], harness := (true, "fd1a182d4ea3184a6e7990c5c15212ab22808a5ee1eedd9c55366fb82c503404"), looks := false }, kinds := [], alts := [], laidByText := true, laidKinds := [.data], laidTests := true, laidLooks := .later }
def DigestPiecesUptoCardSaid : Prop := Claim7.holds Tryd.pinned (.plain (OpenSpec.upto digestPiecesSpec)) digestPiecesUptoCard

/-- THE SECOND FORM's CARD OF 'sluicewaylaw02.DigestNone'. -/
def digestNoneUptoCard : Claim7 := { stood := { row := digestNoneUptoRow, standIns := [], harness := (true, "fd1a182d4ea3184a6e7990c5c15212ab22808a5ee1eedd9c55366fb82c503404"), looks := false }, kinds := [], alts := [], laidByText := true, laidKinds := [.data], laidTests := true, laidLooks := .later }
def DigestNoneUptoCardSaid : Prop := Claim7.holds Tryd.pinned (.plain (OpenSpec.upto digestNoneSpec)) digestNoneUptoCard

/-- THE SECOND FORM's CARD OF 'sluicewaylaw02.DigestKnown'. -/
def digestKnownUptoCard : Claim7 := { stood := { row := digestKnownUptoRow, standIns := [], harness := (true, "fd1a182d4ea3184a6e7990c5c15212ab22808a5ee1eedd9c55366fb82c503404"), looks := false }, kinds := [], alts := [], laidByText := true, laidKinds := [.data], laidTests := true, laidLooks := .later }
def DigestKnownUptoCardSaid : Prop := Claim7.holds Tryd.pinned (.plain (OpenSpec.upto digestKnownSpec)) digestKnownUptoCard
end Rows
end Go.Proofs.YtkhbkckcgfddlaaDoor
