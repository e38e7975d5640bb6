/-
  No cell of these rows narrows 'for every input' (looked for: loops, veiled, ifaces, maps, wideKeys, modest, calm, conditions, laid).
  DERIVED. THE GIVEN ROWS OF THIS SEAT. 6 by the template 'for every input the law returns true; each argument reads behind the call as it read before'; 0 by the template 'total and deterministic' (their statements: YtjdbnaedlljfhaaTotals.lean).
  GIVEN WITH THE SEED: the statements are not yours to turn. If you find one false, say at which input.
  Laid BY PROGRAM, IN A SANDBOX (cutbox-rows.mjs): the forced cells as the released guide's own fill.sh prints them over the translation d4bd94aa69fca582… (all of the seat's roots in one cut). By AI agents, Wed Nov 11 2026. No macro, syntax, notation, axiom, sorry.
-/
import Derived.Test.YtjdbnaedlljfhaaChecked
import GoSem.Claim
import GoSem.ClaimJoined
import GoSem.ClaimMapViews
import Derived.JoinedTies
import Derived.KernelRfl
namespace Go.Proofs.Ytjdbnaedlljfhaa
/- THE CELL 'sum', in the pinned program and in every row, IS THE sha256 OF THE DUMP (.gsa) THAT YtjdbnaedlljfhaaProg.lean LOADS. Nothing in Lean hashes anything: it is a label: what it is worth is what the hold of that sum in a sandbox is worth. -/
noncomputable def Try.pinned : Pinned := { name := "ytjdbnaedlljfhaa", sum := "d4bd94aa69fca582e196d69fea2665f52008d06201e029fb610c695d17897e66", checked := Try.checked }
namespace Rows
def none {H : Type} : Left H := { results := [], args := [] }

/-- 'sluicewaylaw24.RelayChecks': WHATEVER THE INPUT: true; the input reads as it did. -/
def relayChecksSpec : ChangeSpec := { name := "relayChecks", fn := fun _ => fun
  | [d] => { results := [.lit (.bool true)], args := [d] }
  | _ => none }
def relayChecksRow : OpenClaim := { program := "ytjdbnaedlljfhaa", sum := "d4bd94aa69fca582e196d69fea2665f52008d06201e029fb610c695d17897e66", func := "sluiceway/sluicewaylaw24.RelayChecks", spec := "relayChecks", named := ["math/bits.divideError", "math/bits.overflowError"], plainKeys := false, apart := false }
def RelayChecksSaid : Prop := relayChecksRow.holds Try.pinned (OpenSpec.ofChange relayChecksSpec)

/-- ITS FALSE NEIGHBOUR: 'it returns false'. Refute it at one input. -/
def relayChecksWrong : ChangeSpec := { name := "relayChecks", fn := fun _ => fun
  | [d] => { results := [.lit (.bool false)], args := [d] }
  | _ => none }
def RelayChecksWrongFalsely : Prop := relayChecksRow.holds Try.pinned (OpenSpec.ofChange relayChecksWrong)

/-- 'sluicewaylaw24.RelayLeaves': WHATEVER THE INPUT: true; the input reads as it did. -/
def relayLeavesSpec : ChangeSpec := { name := "relayLeaves", fn := fun _ => fun
  | [d] => { results := [.lit (.bool true)], args := [d] }
  | _ => none }
def relayLeavesRow : OpenClaim := { program := "ytjdbnaedlljfhaa", sum := "d4bd94aa69fca582e196d69fea2665f52008d06201e029fb610c695d17897e66", func := "sluiceway/sluicewaylaw24.RelayLeaves", spec := "relayLeaves", named := ["math/bits.divideError", "math/bits.overflowError"], plainKeys := false, apart := false }
def RelayLeavesSaid : Prop := relayLeavesRow.holds Try.pinned (OpenSpec.ofChange relayLeavesSpec)

/-- ITS FALSE NEIGHBOUR: 'it returns false'. Refute it at one input. -/
def relayLeavesWrong : ChangeSpec := { name := "relayLeaves", fn := fun _ => fun
  | [d] => { results := [.lit (.bool false)], args := [d] }
  | _ => none }
def RelayLeavesWrongFalsely : Prop := relayLeavesRow.holds Try.pinned (OpenSpec.ofChange relayLeavesWrong)

/-- 'sluicewaylaw24.RelayMore': WHATEVER THE INPUT: true; the input reads as it did. -/
def relayMoreSpec : ChangeSpec := { name := "relayMore", fn := fun _ => fun
  | [d1, d2, d3, d4] => { results := [.lit (.bool true)], args := [d1, d2, d3, d4] }
  | _ => none }
def relayMoreRow : OpenClaim := { program := "ytjdbnaedlljfhaa", sum := "d4bd94aa69fca582e196d69fea2665f52008d06201e029fb610c695d17897e66", func := "sluiceway/sluicewaylaw24.RelayMore", spec := "relayMore", named := ["math/bits.divideError", "math/bits.overflowError"], plainKeys := false, apart := false }
def RelayMoreSaid : Prop := relayMoreRow.holds Try.pinned (OpenSpec.ofChange relayMoreSpec)

/-- ITS FALSE NEIGHBOUR: 'it returns false'. Refute it at one input. -/
def relayMoreWrong : ChangeSpec := { name := "relayMore", fn := fun _ => fun
  | [d1, d2, d3, d4] => { results := [.lit (.bool false)], args := [d1, d2, d3, d4] }
  | _ => none }
def RelayMoreWrongFalsely : Prop := relayMoreRow.holds Try.pinned (OpenSpec.ofChange relayMoreWrong)

/-- 'sluicewaylaw24.RelayPlays': WHATEVER THE INPUT: true; the input reads as it did. -/
def relayPlaysSpec : ChangeSpec := { name := "relayPlays", fn := fun _ => fun
  | [d] => { results := [.lit (.bool true)], args := [d] }
  | _ => none }
def relayPlaysRow : OpenClaim := { program := "ytjdbnaedlljfhaa", sum := "d4bd94aa69fca582e196d69fea2665f52008d06201e029fb610c695d17897e66", func := "sluiceway/sluicewaylaw24.RelayPlays", spec := "relayPlays", named := ["math/bits.divideError", "math/bits.overflowError"], plainKeys := false, apart := false }
def RelayPlaysSaid : Prop := relayPlaysRow.holds Try.pinned (OpenSpec.ofChange relayPlaysSpec)

/-- ITS FALSE NEIGHBOUR: 'it returns false'. Refute it at one input. -/
def relayPlaysWrong : ChangeSpec := { name := "relayPlays", fn := fun _ => fun
  | [d] => { results := [.lit (.bool false)], args := [d] }
  | _ => none }
def RelayPlaysWrongFalsely : Prop := relayPlaysRow.holds Try.pinned (OpenSpec.ofChange relayPlaysWrong)

/-- 'sluicewaylaw24.RelayPairs': WHATEVER THE INPUT: true; the input reads as it did. -/
def relayPairsSpec : ChangeSpec := { name := "relayPairs", fn := fun _ => fun
  | [d] => { results := [.lit (.bool true)], args := [d] }
  | _ => none }
def relayPairsRow : OpenClaim := { program := "ytjdbnaedlljfhaa", sum := "d4bd94aa69fca582e196d69fea2665f52008d06201e029fb610c695d17897e66", func := "sluiceway/sluicewaylaw24.RelayPairs", spec := "relayPairs", named := ["math/bits.divideError", "math/bits.overflowError"], plainKeys := false, apart := false }
def RelayPairsSaid : Prop := relayPairsRow.holds Try.pinned (OpenSpec.ofChange relayPairsSpec)

/-- ITS FALSE NEIGHBOUR: 'it returns false'. Refute it at one input. -/
def relayPairsWrong : ChangeSpec := { name := "relayPairs", fn := fun _ => fun
  | [d] => { results := [.lit (.bool false)], args := [d] }
  | _ => none }
def RelayPairsWrongFalsely : Prop := relayPairsRow.holds Try.pinned (OpenSpec.ofChange relayPairsWrong)

/-- 'sluicewaylaw24.RelayKnown': WHATEVER THE INPUT: true; the input reads as it did. -/
def relayKnownSpec : ChangeSpec := { name := "relayKnown", fn := fun _ => fun
  | [] => { results := [.lit (.bool true)], args := [] }
  | _ => none }
def relayKnownRow : OpenClaim := { program := "ytjdbnaedlljfhaa", sum := "d4bd94aa69fca582e196d69fea2665f52008d06201e029fb610c695d17897e66", func := "sluiceway/sluicewaylaw24.RelayKnown", spec := "relayKnown", named := ["math/bits.divideError", "math/bits.overflowError"], plainKeys := false, apart := false }
def RelayKnownSaid : Prop := relayKnownRow.holds Try.pinned (OpenSpec.ofChange relayKnownSpec)

/-- ITS FALSE NEIGHBOUR: 'it returns false'. Refute it at one input. -/
def relayKnownWrong : ChangeSpec := { name := "relayKnown", fn := fun _ => fun
  | [] => { results := [.lit (.bool false)], args := [] }
  | _ => none }
def RelayKnownWrongFalsely : Prop := relayKnownRow.holds Try.pinned (OpenSpec.ofChange relayKnownWrong)

/- THE SECOND FORM. 'bulk': how many values and letters a reading holds, each counted each time it is reached (what is shared counts as often as it is met; a slice's spare places count too). A statement '..UptoSaid' is the law's where the arguments, and the package variables that the reading takes, are together of bulk at most 1048576: NARROWER than '..Said'. Prove '..Said' where nothing that the law and all that it calls make is longer than what came in: it says more and counts as full. Else prove '..UptoSaid'. A law counts once. -/
mutual
def uptoBulk {H : Type} : DataW H → Nat
  | .lit (.string bytes) => bytes.length + 1
  | .lit _ => 1
  | .nil => 1
  | .ptr d => uptoBulk d + 1
  | .slice elems spare => uptoBulkAll elems + uptoBulkAll spare + 1
  | .agg parts => uptoBulkAll parts + 1
  | .iface _ d => uptoBulk d + 1
  | .map entries => uptoBulkEntries entries + 1
  | .held _ => 1
def uptoBulkAll {H : Type} : List (DataW H) → Nat
  | [] => 0
  | d :: r => uptoBulk d + uptoBulkAll r
def uptoBulkEntries {H : Type} : List (Lit × DataW H) → Nat
  | [] => 0
  | x :: r => uptoBulkEntry x + uptoBulkEntries r
def uptoBulkEntry {H : Type} : Lit × DataW H → Nat
  | (.string bytes, d) => bytes.length + uptoBulk d + 1
  | (_, d) => uptoBulk d + 1
 end
def uptoSmall : (H : Type) → List (DataW H) → Bool := fun _ ds => decide (uptoBulkAll ds ≤ 1048576)
def OpenSpec.upto (s : _root_.Go.ChangeSpec) : _root_.Go.OpenSpec := { _root_.Go.OpenSpec.ofChange s with cond := some uptoSmall }

/-- 'sluicewaylaw24.RelayChecks', WHERE WHAT IT READS IS OF BULK AT MOST 1048576: true; the input reads as it did. -/
def relayChecksUptoRow : OpenClaim := { program := "ytjdbnaedlljfhaa", sum := "d4bd94aa69fca582e196d69fea2665f52008d06201e029fb610c695d17897e66", func := "sluiceway/sluicewaylaw24.RelayChecks", spec := "relayChecks", named := ["math/bits.divideError", "math/bits.overflowError"], plainKeys := false, apart := false, narrowed := true }
def RelayChecksUptoSaid : Prop := relayChecksUptoRow.holds Try.pinned (OpenSpec.upto relayChecksSpec)

/-- 'sluicewaylaw24.RelayLeaves', WHERE WHAT IT READS IS OF BULK AT MOST 1048576: true; the input reads as it did. -/
def relayLeavesUptoRow : OpenClaim := { program := "ytjdbnaedlljfhaa", sum := "d4bd94aa69fca582e196d69fea2665f52008d06201e029fb610c695d17897e66", func := "sluiceway/sluicewaylaw24.RelayLeaves", spec := "relayLeaves", named := ["math/bits.divideError", "math/bits.overflowError"], plainKeys := false, apart := false, narrowed := true }
def RelayLeavesUptoSaid : Prop := relayLeavesUptoRow.holds Try.pinned (OpenSpec.upto relayLeavesSpec)

/-- 'sluicewaylaw24.RelayMore', WHERE WHAT IT READS IS OF BULK AT MOST 1048576: true; the input reads as it did. -/
def relayMoreUptoRow : OpenClaim := { program := "ytjdbnaedlljfhaa", sum := "d4bd94aa69fca582e196d69fea2665f52008d06201e029fb610c695d17897e66", func := "sluiceway/sluicewaylaw24.RelayMore", spec := "relayMore", named := ["math/bits.divideError", "math/bits.overflowError"], plainKeys := false, apart := false, narrowed := true }
def RelayMoreUptoSaid : Prop := relayMoreUptoRow.holds Try.pinned (OpenSpec.upto relayMoreSpec)

/-- 'sluicewaylaw24.RelayPlays', WHERE WHAT IT READS IS OF BULK AT MOST 1048576: true; the input reads as it did. -/
def relayPlaysUptoRow : OpenClaim := { program := "ytjdbnaedlljfhaa", sum := "d4bd94aa69fca582e196d69fea2665f52008d06201e029fb610c695d17897e66", func := "sluiceway/sluicewaylaw24.RelayPlays", spec := "relayPlays", named := ["math/bits.divideError", "math/bits.overflowError"], plainKeys := false, apart := false, narrowed := true }
def RelayPlaysUptoSaid : Prop := relayPlaysUptoRow.holds Try.pinned (OpenSpec.upto relayPlaysSpec)

/-- 'sluicewaylaw24.RelayPairs', WHERE WHAT IT READS IS OF BULK AT MOST 1048576: true; the input reads as it did. -/
def relayPairsUptoRow : OpenClaim := { program := "ytjdbnaedlljfhaa", sum := "d4bd94aa69fca582e196d69fea2665f52008d06201e029fb610c695d17897e66", func := "sluiceway/sluicewaylaw24.RelayPairs", spec := "relayPairs", named := ["math/bits.divideError", "math/bits.overflowError"], plainKeys := false, apart := false, narrowed := true }
def RelayPairsUptoSaid : Prop := relayPairsUptoRow.holds Try.pinned (OpenSpec.upto relayPairsSpec)

/-- 'sluicewaylaw24.RelayKnown', WHERE WHAT IT READS IS OF BULK AT MOST 1048576: true; the input reads as it did. -/
def relayKnownUptoRow : OpenClaim := { program := "ytjdbnaedlljfhaa", sum := "d4bd94aa69fca582e196d69fea2665f52008d06201e029fb610c695d17897e66", func := "sluiceway/sluicewaylaw24.RelayKnown", spec := "relayKnown", named := ["math/bits.divideError", "math/bits.overflowError"], plainKeys := false, apart := false, narrowed := true }
def RelayKnownUptoSaid : Prop := relayKnownUptoRow.holds Try.pinned (OpenSpec.upto relayKnownSpec)

end Rows
end Go.Proofs.Ytjdbnaedlljfhaa
