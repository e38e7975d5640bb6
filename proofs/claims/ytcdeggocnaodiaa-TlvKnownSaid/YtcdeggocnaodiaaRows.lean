/-
  No cell of these rows narrows 'for every input' (looked for: loops, veiled, ifaces, maps, wideKeys, modest, calm, conditions, laid).
  DERIVED. THE GIVEN ROWS OF THIS SEAT. 6 by the template 'for every input the law returns true; each argument reads behind the call as it read before'; 0 by the template 'total and deterministic' (their statements: YtcdeggocnaodiaaTotals.lean).
  GIVEN WITH THE SEED: the statements are not yours to turn. If you find one false, say at which input.
  Laid BY PROGRAM, IN A SANDBOX (cutbox-rows.mjs): the forced cells as the released guide's own fill.sh prints them over the translation 6a42e2c34f2a5a0a… (all of the seat's roots in one cut). By AI agents, Wed Nov 11 2026. No macro, syntax, notation, axiom, sorry.
-/
import Derived.Test.YtcdeggocnaodiaaChecked
import GoSem.Claim
import GoSem.ClaimJoined
import GoSem.ClaimMapViews
import Derived.JoinedTies
import Derived.KernelRfl
namespace Go.Proofs.Ytcdeggocnaodiaa
/- THE CELL 'sum', in the pinned program and in every row, IS THE sha256 OF THE DUMP (.gsa) THAT YtcdeggocnaodiaaProg.lean LOADS. Nothing in Lean hashes anything: it is a label: what it is worth is what the hold of that sum in a sandbox is worth. -/
noncomputable def Try.pinned : Pinned := { name := "ytcdeggocnaodiaa", sum := "6a42e2c34f2a5a0ae682979cdedf6b13f5140acd96358c9f435c19bb368605fd", checked := Try.checked }
namespace Rows
def none {H : Type} : Left H := { results := [], args := [] }

/-- 'sluicewaylaw05.TlvNumbers': WHATEVER THE INPUT: true; the input reads as it did. -/
def tlvNumbersSpec : ChangeSpec := { name := "tlvNumbers", fn := fun _ => fun
  | [d1, d2] => { results := [.lit (.bool true)], args := [d1, d2] }
  | _ => none }
def tlvNumbersRow : OpenClaim := { program := "ytcdeggocnaodiaa", sum := "6a42e2c34f2a5a0ae682979cdedf6b13f5140acd96358c9f435c19bb368605fd", func := "sluiceway/sluicewaylaw05.TlvNumbers", spec := "tlvNumbers", apart := false }
def TlvNumbersSaid : Prop := tlvNumbersRow.holds Try.pinned (OpenSpec.ofChange tlvNumbersSpec)

/-- ITS FALSE NEIGHBOUR: 'it returns false'. Refute it at one input. -/
def tlvNumbersWrong : ChangeSpec := { name := "tlvNumbers", fn := fun _ => fun
  | [d1, d2] => { results := [.lit (.bool false)], args := [d1, d2] }
  | _ => none }
def TlvNumbersWrongFalsely : Prop := tlvNumbersRow.holds Try.pinned (OpenSpec.ofChange tlvNumbersWrong)

/-- 'sluicewaylaw05.TlvStreams': WHATEVER THE INPUT: true; the input reads as it did. -/
def tlvStreamsSpec : ChangeSpec := { name := "tlvStreams", fn := fun _ => fun
  | [d1, d2] => { results := [.lit (.bool true)], args := [d1, d2] }
  | _ => none }
def tlvStreamsRow : OpenClaim := { program := "ytcdeggocnaodiaa", sum := "6a42e2c34f2a5a0ae682979cdedf6b13f5140acd96358c9f435c19bb368605fd", func := "sluiceway/sluicewaylaw05.TlvStreams", spec := "tlvStreams", apart := false }
def TlvStreamsSaid : Prop := tlvStreamsRow.holds Try.pinned (OpenSpec.ofChange tlvStreamsSpec)

/-- ITS FALSE NEIGHBOUR: 'it returns false'. Refute it at one input. -/
def tlvStreamsWrong : ChangeSpec := { name := "tlvStreams", fn := fun _ => fun
  | [d1, d2] => { results := [.lit (.bool false)], args := [d1, d2] }
  | _ => none }
def TlvStreamsWrongFalsely : Prop := tlvStreamsRow.holds Try.pinned (OpenSpec.ofChange tlvStreamsWrong)

/-- 'sluicewaylaw05.TlvBack': WHATEVER THE INPUT: true; the input reads as it did. -/
def tlvBackSpec : ChangeSpec := { name := "tlvBack", fn := fun _ => fun
  | [d1, d2] => { results := [.lit (.bool true)], args := [d1, d2] }
  | _ => none }
def tlvBackRow : OpenClaim := { program := "ytcdeggocnaodiaa", sum := "6a42e2c34f2a5a0ae682979cdedf6b13f5140acd96358c9f435c19bb368605fd", func := "sluiceway/sluicewaylaw05.TlvBack", spec := "tlvBack", apart := false }
def TlvBackSaid : Prop := tlvBackRow.holds Try.pinned (OpenSpec.ofChange tlvBackSpec)

/-- ITS FALSE NEIGHBOUR: 'it returns false'. Refute it at one input. -/
def tlvBackWrong : ChangeSpec := { name := "tlvBack", fn := fun _ => fun
  | [d1, d2] => { results := [.lit (.bool false)], args := [d1, d2] }
  | _ => none }
def TlvBackWrongFalsely : Prop := tlvBackRow.holds Try.pinned (OpenSpec.ofChange tlvBackWrong)

/-- 'sluicewaylaw05.TlvOrder': WHATEVER THE INPUT: true; the input reads as it did. -/
def tlvOrderSpec : ChangeSpec := { name := "tlvOrder", fn := fun _ => fun
  | [d1, d2, d3] => { results := [.lit (.bool true)], args := [d1, d2, d3] }
  | _ => none }
def tlvOrderRow : OpenClaim := { program := "ytcdeggocnaodiaa", sum := "6a42e2c34f2a5a0ae682979cdedf6b13f5140acd96358c9f435c19bb368605fd", func := "sluiceway/sluicewaylaw05.TlvOrder", spec := "tlvOrder", apart := false }
def TlvOrderSaid : Prop := tlvOrderRow.holds Try.pinned (OpenSpec.ofChange tlvOrderSpec)

/-- ITS FALSE NEIGHBOUR: 'it returns false'. Refute it at one input. -/
def tlvOrderWrong : ChangeSpec := { name := "tlvOrder", fn := fun _ => fun
  | [d1, d2, d3] => { results := [.lit (.bool false)], args := [d1, d2, d3] }
  | _ => none }
def TlvOrderWrongFalsely : Prop := tlvOrderRow.holds Try.pinned (OpenSpec.ofChange tlvOrderWrong)

/-- 'sluicewaylaw05.TlvKnown': WHATEVER THE INPUT: true; the input reads as it did. -/
def tlvKnownSpec : ChangeSpec := { name := "tlvKnown", fn := fun _ => fun
  | [] => { results := [.lit (.bool true)], args := [] }
  | _ => none }
def tlvKnownRow : OpenClaim := { program := "ytcdeggocnaodiaa", sum := "6a42e2c34f2a5a0ae682979cdedf6b13f5140acd96358c9f435c19bb368605fd", func := "sluiceway/sluicewaylaw05.TlvKnown", spec := "tlvKnown", unfollowed := true, recurses := true, apart := false }
def TlvKnownSaid : Prop := tlvKnownRow.holds Try.pinned (OpenSpec.ofChange tlvKnownSpec)

/-- ITS FALSE NEIGHBOUR: 'it returns false'. Refute it at one input. -/
def tlvKnownWrong : ChangeSpec := { name := "tlvKnown", fn := fun _ => fun
  | [] => { results := [.lit (.bool false)], args := [] }
  | _ => none }
def TlvKnownWrongFalsely : Prop := tlvKnownRow.holds Try.pinned (OpenSpec.ofChange tlvKnownWrong)

/-- 'sluicewaylaw05.TlvFinds': WHATEVER THE INPUT: true; the input reads as it did. -/
def tlvFindsSpec : ChangeSpec := { name := "tlvFinds", fn := fun _ => fun
  | [d1, d2, d3] => { results := [.lit (.bool true)], args := [d1, d2, d3] }
  | _ => none }
def tlvFindsRow : OpenClaim := { program := "ytcdeggocnaodiaa", sum := "6a42e2c34f2a5a0ae682979cdedf6b13f5140acd96358c9f435c19bb368605fd", func := "sluiceway/sluicewaylaw05.TlvFinds", spec := "tlvFinds", unfollowed := true, recurses := true, apart := false }
def TlvFindsSaid : Prop := tlvFindsRow.holds Try.pinned (OpenSpec.ofChange tlvFindsSpec)

/-- ITS FALSE NEIGHBOUR: 'it returns false'. Refute it at one input. -/
def tlvFindsWrong : ChangeSpec := { name := "tlvFinds", fn := fun _ => fun
  | [d1, d2, d3] => { results := [.lit (.bool false)], args := [d1, d2, d3] }
  | _ => none }
def TlvFindsWrongFalsely : Prop := tlvFindsRow.holds Try.pinned (OpenSpec.ofChange tlvFindsWrong)

/- THE SECOND FORM. 'bulk': how many values and letters a reading holds, each counted each time it is reached (what is shared counts as often as it is met; a slice's spare places count too). A statement '..UptoSaid' is the law's where the arguments, and the package variables that the reading takes, are together of bulk at most 1048576: NARROWER than '..Said'. Prove '..Said' where nothing that the law and all that it calls make is longer than what came in: it says more and counts as full. Else prove '..UptoSaid'. A law counts once. -/
mutual
def uptoBulk {H : Type} : DataW H → Nat
  | .lit (.string bytes) => bytes.length + 1
  | .lit _ => 1
  | .nil => 1
  | .ptr d => uptoBulk d + 1
  | .slice elems spare => uptoBulkAll elems + uptoBulkAll spare + 1
  | .agg parts => uptoBulkAll parts + 1
  | .iface _ d => uptoBulk d + 1
  | .map entries => uptoBulkEntries entries + 1
  | .held _ => 1
def uptoBulkAll {H : Type} : List (DataW H) → Nat
  | [] => 0
  | d :: r => uptoBulk d + uptoBulkAll r
def uptoBulkEntries {H : Type} : List (Lit × DataW H) → Nat
  | [] => 0
  | x :: r => uptoBulkEntry x + uptoBulkEntries r
def uptoBulkEntry {H : Type} : Lit × DataW H → Nat
  | (.string bytes, d) => bytes.length + uptoBulk d + 1
  | (_, d) => uptoBulk d + 1
 end
def uptoSmall : (H : Type) → List (DataW H) → Bool := fun _ ds => decide (uptoBulkAll ds ≤ 1048576)
def OpenSpec.upto (s : _root_.Go.ChangeSpec) : _root_.Go.OpenSpec := { _root_.Go.OpenSpec.ofChange s with cond := some uptoSmall }

/-- 'sluicewaylaw05.TlvNumbers', WHERE WHAT IT READS IS OF BULK AT MOST 1048576: true; the input reads as it did. -/
def tlvNumbersUptoRow : OpenClaim := { program := "ytcdeggocnaodiaa", sum := "6a42e2c34f2a5a0ae682979cdedf6b13f5140acd96358c9f435c19bb368605fd", func := "sluiceway/sluicewaylaw05.TlvNumbers", spec := "tlvNumbers", apart := false, narrowed := true }
def TlvNumbersUptoSaid : Prop := tlvNumbersUptoRow.holds Try.pinned (OpenSpec.upto tlvNumbersSpec)

/-- 'sluicewaylaw05.TlvStreams', WHERE WHAT IT READS IS OF BULK AT MOST 1048576: true; the input reads as it did. -/
def tlvStreamsUptoRow : OpenClaim := { program := "ytcdeggocnaodiaa", sum := "6a42e2c34f2a5a0ae682979cdedf6b13f5140acd96358c9f435c19bb368605fd", func := "sluiceway/sluicewaylaw05.TlvStreams", spec := "tlvStreams", apart := false, narrowed := true }
def TlvStreamsUptoSaid : Prop := tlvStreamsUptoRow.holds Try.pinned (OpenSpec.upto tlvStreamsSpec)

/-- 'sluicewaylaw05.TlvBack', WHERE WHAT IT READS IS OF BULK AT MOST 1048576: true; the input reads as it did. -/
def tlvBackUptoRow : OpenClaim := { program := "ytcdeggocnaodiaa", sum := "6a42e2c34f2a5a0ae682979cdedf6b13f5140acd96358c9f435c19bb368605fd", func := "sluiceway/sluicewaylaw05.TlvBack", spec := "tlvBack", apart := false, narrowed := true }
def TlvBackUptoSaid : Prop := tlvBackUptoRow.holds Try.pinned (OpenSpec.upto tlvBackSpec)

/-- 'sluicewaylaw05.TlvOrder', WHERE WHAT IT READS IS OF BULK AT MOST 1048576: true; the input reads as it did. -/
def tlvOrderUptoRow : OpenClaim := { program := "ytcdeggocnaodiaa", sum := "6a42e2c34f2a5a0ae682979cdedf6b13f5140acd96358c9f435c19bb368605fd", func := "sluiceway/sluicewaylaw05.TlvOrder", spec := "tlvOrder", apart := false, narrowed := true }
def TlvOrderUptoSaid : Prop := tlvOrderUptoRow.holds Try.pinned (OpenSpec.upto tlvOrderSpec)

/-- 'sluicewaylaw05.TlvKnown', WHERE WHAT IT READS IS OF BULK AT MOST 1048576: true; the input reads as it did. -/
def tlvKnownUptoRow : OpenClaim := { program := "ytcdeggocnaodiaa", sum := "6a42e2c34f2a5a0ae682979cdedf6b13f5140acd96358c9f435c19bb368605fd", func := "sluiceway/sluicewaylaw05.TlvKnown", spec := "tlvKnown", unfollowed := true, recurses := true, apart := false, narrowed := true }
def TlvKnownUptoSaid : Prop := tlvKnownUptoRow.holds Try.pinned (OpenSpec.upto tlvKnownSpec)

/-- 'sluicewaylaw05.TlvFinds', WHERE WHAT IT READS IS OF BULK AT MOST 1048576: true; the input reads as it did. -/
def tlvFindsUptoRow : OpenClaim := { program := "ytcdeggocnaodiaa", sum := "6a42e2c34f2a5a0ae682979cdedf6b13f5140acd96358c9f435c19bb368605fd", func := "sluiceway/sluicewaylaw05.TlvFinds", spec := "tlvFinds", unfollowed := true, recurses := true, apart := false, narrowed := true }
def TlvFindsUptoSaid : Prop := tlvFindsUptoRow.holds Try.pinned (OpenSpec.upto tlvFindsSpec)

end Rows
end Go.Proofs.Ytcdeggocnaodiaa
