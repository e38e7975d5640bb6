/- the document's Build, walked -/
import Derived.Lib.ParseIntB
import Derived.Lib.Bytealg
import Derived.Lib.ItoaNum
import Derived.Lib.ParseIntBCases
import Derived.Shelf.Strings.Builder1
import Derived.Shelf.Small.Bits
import Derived.Shelf.Small.Strs
import Derived.Shelf.Small.Wraps
import Derived.Shelf.Strings.BuilderF
import Derived.Shelf.Strings.BuilderK
import Derived.Shelf.Strconv.Itoa0
import Derived.Shelf.Strconv.Itoa1
import Derived.Shelf.LaysM
import Derived.Shelf.Strconv.Itoa2
import Derived.Shelf.Strconv.Itoa3
import Derived.Shelf.Strconv.Itoa4
import Derived.Shelf.Strconv.ParseIntEmpty
import Derived.Shelf.Strconv.Clone
import Derived.Shelf.Strconv.SyntaxError
import Derived.Shelf.LaysC
import Derived.Shelf.Strconv.ToError
import Derived.Shelf.Strconv.Lower
import Derived.Shelf.Strconv.ParseUint10
import Derived.Shelf.Strconv.ParseUint10Empty
import Derived.Shelf.Strconv.ParseUint10Any
import Derived.Shelf.Strconv.ParseInt10
import Derived.Shelf.Strconv.RangeError
import Derived.Shelf.Strconv.ToErrorRange
import Derived.Shelf.Strconv.ParseUintEmpty
import Derived.Shelf.Strconv.ParseUint10b64
import Derived.Shelf.Strconv.ParseUint10b32
import Derived.Shelf.Strconv.ParseUint10b16
import Derived.Shelf.Strconv.ParseUint10b8
import Derived.Shelf.Strconv.ParseUint10At
import Derived.Shelf.Strconv.ParseInt10At64
import Derived.Shelf.Strconv.ParseInt10At32
import Derived.Shelf.Strconv.ParseInt10At16
import Derived.Shelf.Strconv.ParseInt10At8
import Derived.Shelf.Strconv.ParseInt10All
import Derived.Shelf.Strconv.ParseIntPublic10
import Derived.Shelf.Strconv.ErrVarParseInt
import Derived.Shelf.Strings.Search1
import Derived.Shelf.Bits.Mul64
import Derived.Shelf.Strings.BuilderCap
import Derived.Ground.Names2Prog
import Derived.Shelf.Slices.Clone
import Derived.Shelf.Slices.SearchI
import Derived.Ground.SlgnProg
import Derived.Shelf.SlicesE.Clone
import Derived.WalkKit
import Derived.WalkSpells
import Derived.WalkLawsBesides
import Derived.Handy
import Derived.Lib.Hide
import Derived.Deep.QuietTactic
import Derived.BigQuiet
import Derived.Deep.RegionHeld3
import Derived.Lib.Strings
import Derived.Lib.IndexBytes
import Derived.BigRegion
import Derived.Deep.RegionLaw
import Derived.Deep.AppendLies
import Derived.Deep.LoopGhost
import Derived.Deep.Onto
import Derived.Deep.WholeRow
import Derived.Deep.CutRange
import Derived.Laws.CopyOwn
import Derived.Lib.ItoaLen
import Derived.Lib.AppendIntMem
import Derived.Deep.CutBlock
import Derived.Deep.MidRow
import Derived.Deep.RegionHeld
import Derived.Laws.Tables
import Derived.Laws.MakeOwn
import Derived.Laws.OwnMore
import Derived.Test.YtbdimlppnhcicaaGreatDoorRows
import Derived.Test.YtbdimlppnhcicaaGreatDoorProg
import Derived.Test.YtbdimlppnhcicaaGreatDoorNu
import Derived.Test.YtbdimlppnhcicaaGreatDoorTa
import Derived.Test.YtbdimlppnhcicaaGreatDoorRg
import Derived.Test.YtbdimlppnhcicaaGreatDoorBa
import Derived.Test.YtbdimlppnhcicaaGreatDoorRefI
import Derived.Test.YtbdimlppnhcicaaGreatDoorWg
import Derived.Test.YtbdimlppnhcicaaGreatDoorOnA
import Derived.Test.YtbdimlppnhcicaaGreatDoorOb
import Derived.Test.YtbdimlppnhcicaaGreatDoorOe
import Derived.Test.YtbdimlppnhcicaaGreatDoorOf
namespace Go.Proofs.YtbdimlppnhcicaaGreatDoor
set_option linter.unusedVariables false
open Go.RowKit
/-! onion: the document's Build, walked -/
structure StK (w0 : World) (kb : Nat) (ks : Array Value) (W : World) : Prop where
  bel : Below w0.heap.size w0 W
  k : W.heap[kb]? = some (.cells ks 23 (0, 0))
  hk : w0.heap.size ≤ kb
theorem StK.next {w0 W W' : World} {kb : Nat} {ks : Array Value} (h : StK w0 kb ks W) (hb : Below W.heap.size W W') : StK w0 kb ks W' :=
  ⟨h.bel.trans (hb.mono h.bel.size), (hb.block kb (lt_of_heap h.k)).trans h.k, h.hk⟩
theorem StK.put {w0 W : World} {kb : Nat} {ks : Array Value} (h : StK w0 kb ks W) (j : Nat) (v : Value) : StK w0 kb (ks.setIfInBounds j v) (W.setCell ⟨kb, j, none⟩ v) :=
  ⟨h.bel.setCell (p := ⟨kb, j, none⟩) h.hk _, heap_setCell_same _ kb j _ 23 _ h.k, h.hk⟩
end Go.Proofs.YtbdimlppnhcicaaGreatDoor
/- what a layer says -/
namespace Go.Proofs.YtbdimlppnhcicaaGreatDoor
set_option linter.unusedVariables false
open Go.RowKit
/-! onion: parts in new memory; what a layer says -/
def StrsN (B : Nat) (o : Option Addr) (vs : List ByteArray) (w : World) : Prop := vs = [] ∨ ∃ b, o = some ⟨b, 0, none⟩ ∧ B ≤ b ∧ ∀ (k : Nat) (s : ByteArray), vs[k]? = some s → w.cell? ⟨b, k, none⟩ = some (.string s)
theorem StrsN.below {B : Nat} {o : Option Addr} {vs : List ByteArray} {w w' : World} (h : StrsN B o vs w) (hb : Below w.heap.size w w') : StrsN B o vs w' := by
  rcases h with h | ⟨b, h1, h2, h3⟩
  · exact .inl h
  · exact .inr ⟨b, h1, h2, fun k s hk => cell_later hb (h3 k s hk)⟩
theorem StrsN.strs {B : Nat} {o : Option Addr} {vs : List ByteArray} {w : World} (h : StrsN B o vs w) : StrsAt o vs w := by
  rcases h with h | ⟨b, h1, h2, h3⟩
  · exact .inl h
  · exact .inr ⟨b, 0, h1, fun k s hk => by rw [Nat.zero_add]; exact h3 k s hk⟩
structure Lay where
  chan : ByteArray
  amt : Int
  exp : Int
  pay : ByteArray
  inner : ByteArray
  last : Bool
def Lay.cells (x : Lay) (s : ByteArray) : Array Value := #[.string x.chan, .int .i64 x.amt, .int .i64 x.exp, .string x.pay, .string x.inner, .string s, .bool x.last]
def t0 : ByteArray := ⟨#[84, 48, 58]⟩
def e0 : ByteArray := ⟨#[]⟩
end Go.Proofs.YtbdimlppnhcicaaGreatDoor
