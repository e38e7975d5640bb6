/- onion: what gathers terms; hops -/
import Derived.Lib.ParseIntB
import Derived.Lib.Bytealg
import Derived.Lib.ItoaNum
import Derived.Lib.ParseIntBCases
import Derived.Shelf.Strings.Builder1
import Derived.Shelf.Small.Bits
import Derived.Shelf.Small.Strs
import Derived.Shelf.Small.Wraps
import Derived.Shelf.Strings.BuilderF
import Derived.Shelf.Strings.BuilderK
import Derived.Shelf.Strconv.Itoa0
import Derived.Shelf.Strconv.Itoa1
import Derived.Shelf.LaysM
import Derived.Shelf.Strconv.Itoa2
import Derived.Shelf.Strconv.Itoa3
import Derived.Shelf.Strconv.Itoa4
import Derived.Shelf.Strconv.ParseIntEmpty
import Derived.Shelf.Strconv.Clone
import Derived.Shelf.Strconv.SyntaxError
import Derived.Shelf.LaysC
import Derived.Shelf.Strconv.ToError
import Derived.Shelf.Strconv.Lower
import Derived.Shelf.Strconv.ParseUint10
import Derived.Shelf.Strconv.ParseUint10Empty
import Derived.Shelf.Strconv.ParseUint10Any
import Derived.Shelf.Strconv.ParseInt10
import Derived.Shelf.Strconv.RangeError
import Derived.Shelf.Strconv.ToErrorRange
import Derived.Shelf.Strconv.ParseUintEmpty
import Derived.Shelf.Strconv.ParseUint10b64
import Derived.Shelf.Strconv.ParseUint10b32
import Derived.Shelf.Strconv.ParseUint10b16
import Derived.Shelf.Strconv.ParseUint10b8
import Derived.Shelf.Strconv.ParseUint10At
import Derived.Shelf.Strconv.ParseInt10At64
import Derived.Shelf.Strconv.ParseInt10At32
import Derived.Shelf.Strconv.ParseInt10At16
import Derived.Shelf.Strconv.ParseInt10At8
import Derived.Shelf.Strconv.ParseInt10All
import Derived.Shelf.Strconv.ParseIntPublic10
import Derived.Shelf.Strconv.ErrVarParseInt
import Derived.Shelf.Strings.Search1
import Derived.Shelf.Bits.Mul64
import Derived.Shelf.Strings.BuilderCap
import Derived.Ground.Names2Prog
import Derived.Shelf.Slices.Clone
import Derived.Shelf.Slices.SearchI
import Derived.Ground.SlgnProg
import Derived.Shelf.SlicesE.Clone
import Derived.WalkKit
import Derived.WalkSpells
import Derived.WalkLawsBesides
import Derived.Handy
import Derived.Lib.Hide
import Derived.Deep.QuietTactic
import Derived.BigQuiet
import Derived.Deep.RegionHeld3
import Derived.Lib.Strings
import Derived.Lib.IndexBytes
import Derived.BigRegion
import Derived.Deep.RegionLaw
import Derived.Deep.AppendLies
import Derived.Deep.LoopGhost
import Derived.Deep.Onto
import Derived.Deep.WholeRow
import Derived.Deep.CutRange
import Derived.Laws.CopyOwn
import Derived.Lib.ItoaLen
import Derived.Lib.AppendIntMem
import Derived.Deep.CutBlock
import Derived.Deep.MidRow
import Derived.Deep.RegionHeld
import Derived.Test.YtbdimlppnhcicaaGreatDoorRows
import Derived.Test.YtbdimlppnhcicaaGreatDoorProg
import Derived.Test.YtbdimlppnhcicaaGreatDoorNu
import Derived.Test.YtbdimlppnhcicaaGreatDoorTa
import Derived.Test.YtbdimlppnhcicaaGreatDoorRg
import Derived.Test.YtbdimlppnhcicaaGreatDoorBa
import Derived.Test.YtbdimlppnhcicaaGreatDoorWg
import Derived.Test.YtbdimlppnhcicaaGreatDoorSo
import Derived.Test.YtbdimlppnhcicaaGreatDoorOnA
namespace Go.Proofs.YtbdimlppnhcicaaGreatDoor
set_option linter.unusedVariables false
open Go.RowKit
/-! onion: what gathers terms; hops -/
def MAt (mb : Nat) (b : Bool) (w : World) : Prop := w.heap[mb]? = some (.cells #[.bool b] 123 (0, 0))
theorem MAt.below {mb : Nat} {b : Bool} {w w' : World} (h : MAt mb b w) (hb : Below w.heap.size w w') : MAt mb b w' := (hb.block mb (lt_of_heap h)).trans h
theorem MAt.set {mb : Nat} {b : Bool} {w : World} (h : MAt mb b w) (c : Bool) : MAt mb c (w.setCell ⟨mb, 0, none⟩ (.bool c)) := by
  unfold MAt
  rw [heap_setCell_same _ mb 0 _ 123 _ h]; rfl
theorem MAt.cell {mb : Nat} {b : Bool} {w : World} (h : MAt mb b w) : w.cell? ⟨mb, 0, none⟩ = some (.bool b) := by rw [cell_of_row _ _ _ _ _ _ h]; rfl
structure Hp where
  chan : ByteArray
  node : ByteArray
  amt : Int
  exp : Int
def Hp.cells (h : Hp) : List Value := [.string h.chan, .string h.node, .int .i64 h.amt, .int .i64 h.exp]
end Go.Proofs.YtbdimlppnhcicaaGreatDoor
/- onion: the makers' values -/
namespace Go.Proofs.YtbdimlppnhcicaaGreatDoor
set_option linter.unusedVariables false
open Go.RowKit
/-! onion: values and errors of the makers -/
def pv (p : ByteArray × Int) : Value := .tuple #[.string p.1, .int .i64 p.2]
/-! rows of hops -/
def HopsAt (o : Option Addr) (hs : List Hp) (w : World) : Prop := hs = [] ∨ ∃ b off, o = some ⟨b, off, none⟩ ∧ ∀ (k : Nat) (h : Hp), hs[k]? = some h → w.rangeAt b (off + k * 4) h.cells ∧ h.chan.size ≤ maxLen ∧ h.node.size ≤ maxLen
theorem HopsAt.below {o : Option Addr} {hs : List Hp} {w w' : World} (h : HopsAt o hs w) (hb : Below w.heap.size w w') : HopsAt o hs w' := by
  rcases h with h | ⟨b, off, h1, h2⟩
  · exact .inl h
  · exact .inr ⟨b, off, h1, fun k x hx => ⟨fun j v hv => cell_later' hb ((h2 k x hx).1 j v hv), (h2 k x hx).2⟩⟩
def hp0 : Hp := ⟨⟨#[]⟩, ⟨#[]⟩, 0, 0⟩
end Go.Proofs.YtbdimlppnhcicaaGreatDoor
