/-
  No cell of these rows narrows 'for every input' (looked for: loops, veiled, ifaces, maps, wideKeys, modest, calm, conditions, laid).
  DERIVED. THE GIVEN ROWS OF THIS SEAT. 6 by the template 'for every input the law returns true; each argument reads behind the call as it read before'; 0 by the template 'total and deterministic' (their statements: YtmpgbflhhdhbpaaTotals.lean).
  GIVEN WITH THE SEED: the statements are not yours to turn. If you find one false, say at which input.
  Laid BY PROGRAM, IN A SANDBOX (cutbox-rows.mjs): the forced cells as the released guide's own fill.sh prints them over the translation b951a79c705cc43d… (all of the seat's roots in one cut). By AI agents, Wed Nov 11 2026. No macro, syntax, notation, axiom, sorry.
-/
import Derived.Test.YtmpgbflhhdhbpaaChecked
import GoSem.Claim
import GoSem.ClaimJoined
import GoSem.ClaimMapViews
import Derived.JoinedTies
import Derived.KernelRfl
namespace Go.Proofs.Ytmpgbflhhdhbpaa
/- THE CELL 'sum', in the pinned program and in every row, IS THE sha256 OF THE DUMP (.gsa) THAT YtmpgbflhhdhbpaaProg.lean LOADS. Nothing in Lean hashes anything: it is a label: what it is worth is what the hold of that sum in a sandbox is worth. -/
noncomputable def Try.pinned : Pinned := { name := "ytmpgbflhhdhbpaa", sum := "b951a79c705cc43d40b8719342dffa9b00fbf785ef235c849cb61a2756986378", checked := Try.checked }
namespace Rows
def none {H : Type} : Left H := { results := [], args := [] }

/-- 'sluicewaylaw04.MoneyFees': WHATEVER THE INPUT: true; the input reads as it did. -/
def moneyFeesSpec : ChangeSpec := { name := "moneyFees", fn := fun _ => fun
  | [d1, d2, d3] => { results := [.lit (.bool true)], args := [d1, d2, d3] }
  | _ => none }
def moneyFeesRow : OpenClaim := { program := "ytmpgbflhhdhbpaa", sum := "b951a79c705cc43d40b8719342dffa9b00fbf785ef235c849cb61a2756986378", func := "sluiceway/sluicewaylaw04.MoneyFees", spec := "moneyFees", named := ["math/bits.divideError", "math/bits.overflowError"], apart := false }
def MoneyFeesSaid : Prop := moneyFeesRow.holds Try.pinned (OpenSpec.ofChange moneyFeesSpec)

/-- ITS FALSE NEIGHBOUR: 'it returns false'. Refute it at one input. -/
def moneyFeesWrong : ChangeSpec := { name := "moneyFees", fn := fun _ => fun
  | [d1, d2, d3] => { results := [.lit (.bool false)], args := [d1, d2, d3] }
  | _ => none }
def MoneyFeesWrongFalsely : Prop := moneyFeesRow.holds Try.pinned (OpenSpec.ofChange moneyFeesWrong)

/-- 'sluicewaylaw04.MoneyShares': WHATEVER THE INPUT: true; the input reads as it did. -/
def moneySharesSpec : ChangeSpec := { name := "moneyShares", fn := fun _ => fun
  | [d1, d2, d3, d4] => { results := [.lit (.bool true)], args := [d1, d2, d3, d4] }
  | _ => none }
def moneySharesRow : OpenClaim := { program := "ytmpgbflhhdhbpaa", sum := "b951a79c705cc43d40b8719342dffa9b00fbf785ef235c849cb61a2756986378", func := "sluiceway/sluicewaylaw04.MoneyShares", spec := "moneyShares", named := ["math/bits.divideError", "math/bits.overflowError"], apart := false }
def MoneySharesSaid : Prop := moneySharesRow.holds Try.pinned (OpenSpec.ofChange moneySharesSpec)

/-- ITS FALSE NEIGHBOUR: 'it returns false'. Refute it at one input. -/
def moneySharesWrong : ChangeSpec := { name := "moneyShares", fn := fun _ => fun
  | [d1, d2, d3, d4] => { results := [.lit (.bool false)], args := [d1, d2, d3, d4] }
  | _ => none }
def MoneySharesWrongFalsely : Prop := moneySharesRow.holds Try.pinned (OpenSpec.ofChange moneySharesWrong)

/-- 'sluicewaylaw04.MoneyAdds': WHATEVER THE INPUT: true; the input reads as it did. -/
def moneyAddsSpec : ChangeSpec := { name := "moneyAdds", fn := fun _ => fun
  | [d1, d2, d3] => { results := [.lit (.bool true)], args := [d1, d2, d3] }
  | _ => none }
def moneyAddsRow : OpenClaim := { program := "ytmpgbflhhdhbpaa", sum := "b951a79c705cc43d40b8719342dffa9b00fbf785ef235c849cb61a2756986378", func := "sluiceway/sluicewaylaw04.MoneyAdds", spec := "moneyAdds", named := ["math/bits.divideError", "math/bits.overflowError"], apart := false }
def MoneyAddsSaid : Prop := moneyAddsRow.holds Try.pinned (OpenSpec.ofChange moneyAddsSpec)

/-- ITS FALSE NEIGHBOUR: 'it returns false'. Refute it at one input. -/
def moneyAddsWrong : ChangeSpec := { name := "moneyAdds", fn := fun _ => fun
  | [d1, d2, d3] => { results := [.lit (.bool false)], args := [d1, d2, d3] }
  | _ => none }
def MoneyAddsWrongFalsely : Prop := moneyAddsRow.holds Try.pinned (OpenSpec.ofChange moneyAddsWrong)

/-- 'sluicewaylaw04.MoneyBack': WHATEVER THE INPUT: true; the input reads as it did. -/
def moneyBackSpec : ChangeSpec := { name := "moneyBack", fn := fun _ => fun
  | [d1, d2] => { results := [.lit (.bool true)], args := [d1, d2] }
  | _ => none }
def moneyBackRow : OpenClaim := { program := "ytmpgbflhhdhbpaa", sum := "b951a79c705cc43d40b8719342dffa9b00fbf785ef235c849cb61a2756986378", func := "sluiceway/sluicewaylaw04.MoneyBack", spec := "moneyBack", named := ["math/bits.divideError", "math/bits.overflowError"], apart := false }
def MoneyBackSaid : Prop := moneyBackRow.holds Try.pinned (OpenSpec.ofChange moneyBackSpec)

/-- ITS FALSE NEIGHBOUR: 'it returns false'. Refute it at one input. -/
def moneyBackWrong : ChangeSpec := { name := "moneyBack", fn := fun _ => fun
  | [d1, d2] => { results := [.lit (.bool false)], args := [d1, d2] }
  | _ => none }
def MoneyBackWrongFalsely : Prop := moneyBackRow.holds Try.pinned (OpenSpec.ofChange moneyBackWrong)

/-- 'sluicewaylaw04.MoneyTurns': WHATEVER THE INPUT: true; the input reads as it did. -/
def moneyTurnsSpec : ChangeSpec := { name := "moneyTurns", fn := fun _ => fun
  | [d] => { results := [.lit (.bool true)], args := [d] }
  | _ => none }
def moneyTurnsRow : OpenClaim := { program := "ytmpgbflhhdhbpaa", sum := "b951a79c705cc43d40b8719342dffa9b00fbf785ef235c849cb61a2756986378", func := "sluiceway/sluicewaylaw04.MoneyTurns", spec := "moneyTurns", named := ["math/bits.divideError", "math/bits.overflowError"], apart := false }
def MoneyTurnsSaid : Prop := moneyTurnsRow.holds Try.pinned (OpenSpec.ofChange moneyTurnsSpec)

/-- ITS FALSE NEIGHBOUR: 'it returns false'. Refute it at one input. -/
def moneyTurnsWrong : ChangeSpec := { name := "moneyTurns", fn := fun _ => fun
  | [d] => { results := [.lit (.bool false)], args := [d] }
  | _ => none }
def MoneyTurnsWrongFalsely : Prop := moneyTurnsRow.holds Try.pinned (OpenSpec.ofChange moneyTurnsWrong)

/-- 'sluicewaylaw04.MoneyKnown': WHATEVER THE INPUT: true; the input reads as it did. -/
def moneyKnownSpec : ChangeSpec := { name := "moneyKnown", fn := fun _ => fun
  | [] => { results := [.lit (.bool true)], args := [] }
  | _ => none }
def moneyKnownRow : OpenClaim := { program := "ytmpgbflhhdhbpaa", sum := "b951a79c705cc43d40b8719342dffa9b00fbf785ef235c849cb61a2756986378", func := "sluiceway/sluicewaylaw04.MoneyKnown", spec := "moneyKnown", named := ["math/bits.divideError", "math/bits.overflowError"], apart := false }
def MoneyKnownSaid : Prop := moneyKnownRow.holds Try.pinned (OpenSpec.ofChange moneyKnownSpec)

/-- ITS FALSE NEIGHBOUR: 'it returns false'. Refute it at one input. -/
def moneyKnownWrong : ChangeSpec := { name := "moneyKnown", fn := fun _ => fun
  | [] => { results := [.lit (.bool false)], args := [] }
  | _ => none }
def MoneyKnownWrongFalsely : Prop := moneyKnownRow.holds Try.pinned (OpenSpec.ofChange moneyKnownWrong)

/- THE SECOND FORM. 'bulk': how many values and letters a reading holds, each counted each time it is reached (what is shared counts as often as it is met; a slice's spare places count too). A statement '..UptoSaid' is the law's where the arguments, and the package variables that the reading takes, are together of bulk at most 1048576: NARROWER than '..Said'. Prove '..Said' where nothing that the law and all that it calls make is longer than what came in: it says more and counts as full. Else prove '..UptoSaid'. A law counts once. -/
mutual
def uptoBulk {H : Type} : DataW H → Nat
  | .lit (.string bytes) => bytes.length + 1
  | .lit _ => 1
  | .nil => 1
  | .ptr d => uptoBulk d + 1
  | .slice elems spare => uptoBulkAll elems + uptoBulkAll spare + 1
  | .agg parts => uptoBulkAll parts + 1
  | .iface _ d => uptoBulk d + 1
  | .map entries => uptoBulkEntries entries + 1
  | .held _ => 1
def uptoBulkAll {H : Type} : List (DataW H) → Nat
  | [] => 0
  | d :: r => uptoBulk d + uptoBulkAll r
def uptoBulkEntries {H : Type} : List (Lit × DataW H) → Nat
  | [] => 0
  | x :: r => uptoBulkEntry x + uptoBulkEntries r
def uptoBulkEntry {H : Type} : Lit × DataW H → Nat
  | (.string bytes, d) => bytes.length + uptoBulk d + 1
  | (_, d) => uptoBulk d + 1
 end
def uptoSmall : (H : Type) → List (DataW H) → Bool := fun _ ds => decide (uptoBulkAll ds ≤ 1048576)
def OpenSpec.upto (s : _root_.Go.ChangeSpec) : _root_.Go.OpenSpec := { _root_.Go.OpenSpec.ofChange s with cond := some uptoSmall }

/-- 'sluicewaylaw04.MoneyFees', WHERE WHAT IT READS IS OF BULK AT MOST 1048576: true; the input reads as it did. -/
def moneyFeesUptoRow : OpenClaim := { program := "ytmpgbflhhdhbpaa", sum := "b951a79c705cc43d40b8719342dffa9b00fbf785ef235c849cb61a2756986378", func := "sluiceway/sluicewaylaw04.MoneyFees", spec := "moneyFees", named := ["math/bits.divideError", "math/bits.overflowError"], apart := false, narrowed := true }
def MoneyFeesUptoSaid : Prop := moneyFeesUptoRow.holds Try.pinned (OpenSpec.upto moneyFeesSpec)

/-- 'sluicewaylaw04.MoneyShares', WHERE WHAT IT READS IS OF BULK AT MOST 1048576: true; the input reads as it did. -/
def moneySharesUptoRow : OpenClaim := { program := "ytmpgbflhhdhbpaa", sum := "b951a79c705cc43d40b8719342dffa9b00fbf785ef235c849cb61a2756986378", func := "sluiceway/sluicewaylaw04.MoneyShares", spec := "moneyShares", named := ["math/bits.divideError", "math/bits.overflowError"], apart := false, narrowed := true }
def MoneySharesUptoSaid : Prop := moneySharesUptoRow.holds Try.pinned (OpenSpec.upto moneySharesSpec)

/-- 'sluicewaylaw04.MoneyAdds', WHERE WHAT IT READS IS OF BULK AT MOST 1048576: true; the input reads as it did. -/
def moneyAddsUptoRow : OpenClaim := { program := "ytmpgbflhhdhbpaa", sum := "b951a79c705cc43d40b8719342dffa9b00fbf785ef235c849cb61a2756986378", func := "sluiceway/sluicewaylaw04.MoneyAdds", spec := "moneyAdds", named := ["math/bits.divideError", "math/bits.overflowError"], apart := false, narrowed := true }
def MoneyAddsUptoSaid : Prop := moneyAddsUptoRow.holds Try.pinned (OpenSpec.upto moneyAddsSpec)

/-- 'sluicewaylaw04.MoneyBack', WHERE WHAT IT READS IS OF BULK AT MOST 1048576: true; the input reads as it did. -/
def moneyBackUptoRow : OpenClaim := { program := "ytmpgbflhhdhbpaa", sum := "b951a79c705cc43d40b8719342dffa9b00fbf785ef235c849cb61a2756986378", func := "sluiceway/sluicewaylaw04.MoneyBack", spec := "moneyBack", named := ["math/bits.divideError", "math/bits.overflowError"], apart := false, narrowed := true }
def MoneyBackUptoSaid : Prop := moneyBackUptoRow.holds Try.pinned (OpenSpec.upto moneyBackSpec)

/-- 'sluicewaylaw04.MoneyTurns', WHERE WHAT IT READS IS OF BULK AT MOST 1048576: true; the input reads as it did. -/
def moneyTurnsUptoRow : OpenClaim := { program := "ytmpgbflhhdhbpaa", sum := "b951a79c705cc43d40b8719342dffa9b00fbf785ef235c849cb61a2756986378", func := "sluiceway/sluicewaylaw04.MoneyTurns", spec := "moneyTurns", named := ["math/bits.divideError", "math/bits.overflowError"], apart := false, narrowed := true }
def MoneyTurnsUptoSaid : Prop := moneyTurnsUptoRow.holds Try.pinned (OpenSpec.upto moneyTurnsSpec)

/-- 'sluicewaylaw04.MoneyKnown', WHERE WHAT IT READS IS OF BULK AT MOST 1048576: true; the input reads as it did. -/
def moneyKnownUptoRow : OpenClaim := { program := "ytmpgbflhhdhbpaa", sum := "b951a79c705cc43d40b8719342dffa9b00fbf785ef235c849cb61a2756986378", func := "sluiceway/sluicewaylaw04.MoneyKnown", spec := "moneyKnown", named := ["math/bits.divideError", "math/bits.overflowError"], apart := false, narrowed := true }
def MoneyKnownUptoSaid : Prop := moneyKnownUptoRow.holds Try.pinned (OpenSpec.upto moneyKnownSpec)

end Rows
end Go.Proofs.Ytmpgbflhhdhbpaa
