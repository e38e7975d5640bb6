/- the program's layer, walked -/
import Derived.Lib.ParseIntB
import Derived.Lib.Bytealg
import Derived.Lib.ItoaNum
import Derived.Lib.ParseIntBCases
import Derived.Shelf.Strings.Builder1
import Derived.Shelf.Small.Bits
import Derived.Shelf.Small.Strs
import Derived.Shelf.Small.Wraps
import Derived.Shelf.Strings.BuilderF
import Derived.Shelf.Strings.BuilderK
import Derived.Shelf.Strconv.Itoa0
import Derived.Shelf.Strconv.Itoa1
import Derived.Shelf.LaysM
import Derived.Shelf.Strconv.Itoa2
import Derived.Shelf.Strconv.Itoa3
import Derived.Shelf.Strconv.Itoa4
import Derived.Shelf.Strconv.ParseIntEmpty
import Derived.Shelf.Strconv.Clone
import Derived.Shelf.Strconv.SyntaxError
import Derived.Shelf.LaysC
import Derived.Shelf.Strconv.ToError
import Derived.Shelf.Strconv.Lower
import Derived.Shelf.Strconv.ParseUint10
import Derived.Shelf.Strconv.ParseUint10Empty
import Derived.Shelf.Strconv.ParseUint10Any
import Derived.Shelf.Strconv.ParseInt10
import Derived.Shelf.Strconv.RangeError
import Derived.Shelf.Strconv.ToErrorRange
import Derived.Shelf.Strconv.ParseUintEmpty
import Derived.Shelf.Strconv.ParseUint10b64
import Derived.Shelf.Strconv.ParseUint10b32
import Derived.Shelf.Strconv.ParseUint10b16
import Derived.Shelf.Strconv.ParseUint10b8
import Derived.Shelf.Strconv.ParseUint10At
import Derived.Shelf.Strconv.ParseInt10At64
import Derived.Shelf.Strconv.ParseInt10At32
import Derived.Shelf.Strconv.ParseInt10At16
import Derived.Shelf.Strconv.ParseInt10At8
import Derived.Shelf.Strconv.ParseInt10All
import Derived.Shelf.Strconv.ParseIntPublic10
import Derived.Shelf.Strconv.ErrVarParseInt
import Derived.Shelf.Strings.Search1
import Derived.Shelf.Bits.Mul64
import Derived.Shelf.Strings.BuilderCap
import Derived.Ground.Names2Prog
import Derived.Shelf.Slices.Clone
import Derived.Shelf.Slices.SearchI
import Derived.Ground.SlgnProg
import Derived.Shelf.SlicesE.Clone
import Derived.WalkKit
import Derived.WalkSpells
import Derived.WalkLawsBesides
import Derived.Handy
import Derived.Lib.Hide
import Derived.Deep.QuietTactic
import Derived.BigQuiet
import Derived.Deep.RegionHeld3
import Derived.Lib.Strings
import Derived.Lib.IndexBytes
import Derived.BigRegion
import Derived.Deep.RegionLaw
import Derived.Deep.AppendLies
import Derived.Deep.LoopGhost
import Derived.Deep.Onto
import Derived.Deep.WholeRow
import Derived.Deep.CutRange
import Derived.Laws.CopyOwn
import Derived.Lib.ItoaLen
import Derived.Lib.AppendIntMem
import Derived.Deep.CutBlock
import Derived.Deep.MidRow
import Derived.Deep.RegionHeld
import Derived.Laws.Tables
import Derived.Laws.MakeOwn
import Derived.Laws.OwnMore
import Derived.WalkMore
import Derived.MapKept
import Derived.Carry
import Derived.Test.YtbdimlppnhcicaaGreatDoorRows
import Derived.Test.YtbdimlppnhcicaaGreatDoorProg
import Derived.Test.YtbdimlppnhcicaaGreatDoorNu
import Derived.Test.YtbdimlppnhcicaaGreatDoorTa
import Derived.Test.YtbdimlppnhcicaaGreatDoorRg
import Derived.Test.YtbdimlppnhcicaaGreatDoorBa
import Derived.Test.YtbdimlppnhcicaaGreatDoorWg
import Derived.Test.YtbdimlppnhcicaaGreatDoorSo
import Derived.Test.YtbdimlppnhcicaaGreatDoorOnA
import Derived.Test.YtbdimlppnhcicaaGreatDoorOb
import Derived.Test.YtbdimlppnhcicaaGreatDoorOe
import Derived.Test.YtbdimlppnhcicaaGreatDoorOf
import Derived.Test.YtbdimlppnhcicaaGreatDoorOh
namespace Go.Proofs.YtbdimlppnhcicaaGreatDoor
set_option linter.unusedVariables false
open Go.RowKit
/-! onion: a layer read, the program's -/
structure LSt (w0 : World) (xb : Nat) (T : TypeId) (C : Array Value) (W : World) : Prop where
  bel : Below w0.heap.size w0 W
  x : W.heap[xb]? = some (.cells C T (0, 0))
  hx : w0.heap.size ≤ xb
theorem LSt.next {w0 W W' : World} {xb : Nat} {T : TypeId} {C : Array Value} (h : LSt w0 xb T C W) (hb : Below W.heap.size W W') : LSt w0 xb T C W' :=
  ⟨h.bel.trans (hb.mono h.bel.size), (hb.block xb (lt_of_heap h.x)).trans h.x, h.hx⟩
end Go.Proofs.YtbdimlppnhcicaaGreatDoor
/- the document's layer, walked -/
namespace Go.Proofs.YtbdimlppnhcicaaGreatDoor
set_option linter.unusedVariables false
open Go.RowKit
/-! onion: a layer read, the document's -/
end Go.Proofs.YtbdimlppnhcicaaGreatDoor
/- what was seen -/
namespace Go.Proofs.YtbdimlppnhcicaaGreatDoor
set_option linter.unusedVariables false
open Go.RowKit
/-! onion: what was seen -/
theorem ba_beq (a b : ByteArray) : (a == b) = true ↔ a = b := MapKept.bytes_beq a b
instance : LawfulBEq ByteArray where
  eq_of_beq {a b} h := (ba_beq a b).1 h
  rfl {a} := (ba_beq a a).2 rfl
def KeyL (es : List MapEntry) (L : List ByteArray) : Prop := es.map (fun e => (e.key, e.val)) = L.map fun s => (Value.string s, Value.bool true)
/-- a map's block turned -/
def putO (w : World) (b : Nat) (o : Obj) : World := { w with heap := w.heap.setIfInBounds b o }
theorem putO_same {w : World} {b : Nat} {o o' : Obj} (h : w.heap[b]? = some o') : (putO w b o).heap[b]? = some o := (MapKept.heap_set h).1
theorem putO_other {w : World} {b k : Nat} {o : Obj} (h : k ≠ b) : (putO w b o).heap[k]? = w.heap[k]? := by
  simp only [putO]; rw [Array.getElem?_setIfInBounds]; rw [if_neg (fun e => h e.symm)]
@[simp] theorem putO_size (w : World) (b : Nat) (o : Obj) : (putO w b o).heap.size = w.heap.size := by simp [putO]
theorem Fr.putO {S : Nat → Prop} {a b : World} (h : Fr S a b) (k : Nat) (o : Obj) (hs : S k) : Fr S a (putO b k o) :=
  ⟨h.os, h.tape, h.output, by simpa using h.size, fun i hi hr => (putO_other (fun e => hr (by rw [e]; exact hs))).trans (h.block i hi hr)⟩
theorem KeyL.push {es : Array MapEntry} {L : List ByteArray} (h : KeyL es.toList L) (s : ByteArray) (c : Nat) : KeyL (es.push ⟨.string s, .bool true, c⟩).toList (L ++ [s]) := by
  unfold KeyL at *
  rw [Array.toList_push, List.map_append, List.map_append, h]; rfl
/-- the program's memory -/
structure SeenAt (w : World) (base sb mm : Nat) (L : List ByteArray) : Prop where
  s : w.heap[sb]? = some (.cells #[.map (some mm)] 196 (0, 0))
  map : ∃ es c, w.heap[mm]? = some (.map es c) ∧ KeyL es.toList L
  h1 : base ≤ sb
  h2 : base ≤ mm
theorem SeenAt.below {w w' : World} {base sb mm : Nat} {L : List ByteArray} (h : SeenAt w base sb mm L) (hb : Below w.heap.size w w') : SeenAt w' base sb mm L := by
  obtain ⟨es, c, hm, hl⟩ := h.map
  exact { h with
    s := (hb.block sb (lt_of_heap h.s)).trans h.s
    map := ⟨es, c, (hb.block mm (lt_of_heap hm)).trans hm, hl⟩ }
theorem SeenAt.cell {w : World} {base sb mm : Nat} {L : List ByteArray} (h : SeenAt w base sb mm L) : w.cell? ⟨sb, 0, none⟩ = some (.map (some mm)) := by rw [cell_of_row _ _ _ _ _ _ h.s]; rfl
end Go.Proofs.YtbdimlppnhcicaaGreatDoor
