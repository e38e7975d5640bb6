/- onion: Build in plain words -/
import Derived.Lib.ParseIntB
import Derived.Lib.Bytealg
import Derived.Lib.ItoaNum
import Derived.Lib.ParseIntBCases
import Derived.Shelf.Strings.Builder1
import Derived.Shelf.Small.Bits
import Derived.Shelf.Small.Strs
import Derived.Shelf.Small.Wraps
import Derived.Shelf.Strings.BuilderF
import Derived.Shelf.Strings.BuilderK
import Derived.Shelf.Strconv.Itoa0
import Derived.Shelf.Strconv.Itoa1
import Derived.Shelf.LaysM
import Derived.Shelf.Strconv.Itoa2
import Derived.Shelf.Strconv.Itoa3
import Derived.Shelf.Strconv.Itoa4
import Derived.Shelf.Strconv.ParseIntEmpty
import Derived.Shelf.Strconv.Clone
import Derived.Shelf.Strconv.SyntaxError
import Derived.Shelf.LaysC
import Derived.Shelf.Strconv.ToError
import Derived.Shelf.Strconv.Lower
import Derived.Shelf.Strconv.ParseUint10
import Derived.Shelf.Strconv.ParseUint10Empty
import Derived.Shelf.Strconv.ParseUint10Any
import Derived.Shelf.Strconv.ParseInt10
import Derived.Shelf.Strconv.RangeError
import Derived.Shelf.Strconv.ToErrorRange
import Derived.Shelf.Strconv.ParseUintEmpty
import Derived.Shelf.Strconv.ParseUint10b64
import Derived.Shelf.Strconv.ParseUint10b32
import Derived.Shelf.Strconv.ParseUint10b16
import Derived.Shelf.Strconv.ParseUint10b8
import Derived.Shelf.Strconv.ParseUint10At
import Derived.Shelf.Strconv.ParseInt10At64
import Derived.Shelf.Strconv.ParseInt10At32
import Derived.Shelf.Strconv.ParseInt10At16
import Derived.Shelf.Strconv.ParseInt10At8
import Derived.Shelf.Strconv.ParseInt10All
import Derived.Shelf.Strconv.ParseIntPublic10
import Derived.Shelf.Strconv.ErrVarParseInt
import Derived.Shelf.Strings.Search1
import Derived.Shelf.Bits.Mul64
import Derived.Shelf.Strings.BuilderCap
import Derived.Ground.Names2Prog
import Derived.Shelf.Slices.Clone
import Derived.Shelf.Slices.SearchI
import Derived.Ground.SlgnProg
import Derived.Shelf.SlicesE.Clone
import Derived.WalkKit
import Derived.WalkSpells
import Derived.WalkLawsBesides
import Derived.Handy
import Derived.Lib.Hide
import Derived.Deep.QuietTactic
import Derived.BigQuiet
import Derived.Deep.RegionHeld3
import Derived.Lib.Strings
import Derived.Lib.IndexBytes
import Derived.BigRegion
import Derived.Deep.RegionLaw
import Derived.Deep.AppendLies
import Derived.Deep.LoopGhost
import Derived.Deep.Onto
import Derived.Deep.WholeRow
import Derived.Deep.CutRange
import Derived.Laws.CopyOwn
import Derived.Lib.ItoaLen
import Derived.Lib.AppendIntMem
import Derived.Deep.CutBlock
import Derived.Deep.MidRow
import Derived.Deep.RegionHeld
import Derived.Laws.Tables
import Derived.Laws.MakeOwn
import Derived.Laws.OwnMore
import Derived.Test.YtbdimlppnhcicaaGreatDoorRows
import Derived.Test.YtbdimlppnhcicaaGreatDoorProg
import Derived.Test.YtbdimlppnhcicaaGreatDoorNu
import Derived.Test.YtbdimlppnhcicaaGreatDoorTa
import Derived.Test.YtbdimlppnhcicaaGreatDoorRg
import Derived.Test.YtbdimlppnhcicaaGreatDoorBa
import Derived.Test.YtbdimlppnhcicaaGreatDoorWg
import Derived.Test.YtbdimlppnhcicaaGreatDoorOnA
import Derived.Test.YtbdimlppnhcicaaGreatDoorOb
import Derived.Test.YtbdimlppnhcicaaGreatDoorOe
namespace Go.Proofs.YtbdimlppnhcicaaGreatDoor
set_option linter.unusedVariables false
open Go.RowKit
/-! onion: Build, in plain words -/
/-! the state of a making -/
structure StC (w0 : World) (mb kb : Nat) (b : Bool) (ks : Array Value) (W : World) : Prop where
  bel : Below w0.heap.size w0 W
  m : MAt mb b W
  k : W.heap[kb]? = some (.cells ks 23 (0, 0))
  hm : w0.heap.size ≤ mb
  hk : w0.heap.size ≤ kb
theorem StC.next {w0 W W' : World} {mb kb : Nat} {b : Bool} {ks : Array Value} (h : StC w0 mb kb b ks W) (hb : Below W.heap.size W W') : StC w0 mb kb b ks W' :=
  ⟨h.bel.trans (hb.mono h.bel.size), h.m.below hb, (hb.block kb (lt_of_heap h.k)).trans h.k, h.hm, h.hk⟩
theorem StC.of {w0 W : World} {mb kb : Nat} {b : Bool} {ks : Array Value} (h : StC w0 mb kb b ks W) (c : Bool) : StC w0 mb kb c ks (W.setCell ⟨mb, 0, none⟩ (.bool c)) :=
  ⟨h.bel.setCell (p := ⟨mb, 0, none⟩) h.hm _, h.m.set c, (heap_setCell_other _ _ _ _ (fun e => type_ne h.m h.k (by decide) e.symm)).trans h.k, h.hm, h.hk⟩
theorem StC.put {w0 W : World} {mb kb : Nat} {b : Bool} {ks : Array Value} (h : StC w0 mb kb b ks W) (j : Nat) (v : Value) : StC w0 mb kb b (ks.setIfInBounds j v) (W.setCell ⟨kb, j, none⟩ v) :=
  ⟨h.bel.setCell (p := ⟨kb, j, none⟩) h.hk _, (heap_setCell_other _ _ _ _ (fun e => type_ne h.m h.k (by decide) e)).trans h.m, heap_setCell_same _ kb j _ 23 _ h.k, h.hm, h.hk⟩
theorem StC.row {w0 W : World} {mb kb kh : Nat} {b : Bool} {ks : Array Value} (h : StC w0 mb kb b ks W) (hk : w0.heap.size ≤ kh) {cs : Array Value} (hg : W.heap[kh]? = some (.cells cs 49 (0, 0))) (new : Array Value) : StC w0 mb kb b ks (W.setRow kh new) :=
  ⟨below_setRow h.bel hk new, (setRow_other W kh mb new (fun e => type_ne h.m hg (by decide) e)).trans h.m, (setRow_other W kh kb new (fun e => type_ne h.k hg (by decide) e)).trans h.k, h.hm, h.hk⟩
/-- a block of hops' type stays -/
theorem StC.ofHop {W : World} {mb g : Nat} {b c : Bool} {cs : Array Value} (hm : MAt mb b W) (hg : W.heap[g]? = some (.cells cs 49 (0, 0))) : (W.setCell ⟨mb, 0, none⟩ (.bool c)).heap[g]? = some (.cells cs 49 (0, 0)) :=
  (heap_setCell_other _ _ _ _ (fun e => type_ne hm hg (by decide) e.symm)).trans hg
/-- the state, and a hop's cells -/
def StH (w0 : World) (mb kb kh : Nat) (b : Bool) (ks hc : Array Value) (W : World) : Prop := StC w0 mb kb b ks W ∧ W.heap[kh]? = some (.cells hc 49 (0, 0))
theorem StH.next {w0 W W' : World} {mb kb kh : Nat} {b : Bool} {ks hc : Array Value} (h : StH w0 mb kb kh b ks hc W) (hb : Below W.heap.size W W') : StH w0 mb kb kh b ks hc W' := ⟨h.1.next hb, (hb.block kh (lt_of_heap h.2)).trans h.2⟩
theorem StH.of {w0 W : World} {mb kb kh : Nat} {b : Bool} {ks hc : Array Value} (h : StH w0 mb kb kh b ks hc W) (c : Bool) : StH w0 mb kb kh c ks hc (W.setCell ⟨mb, 0, none⟩ (.bool c)) := ⟨h.1.of c, StC.ofHop h.1.m h.2⟩
theorem StH.cells {w0 W : World} {mb kb kh : Nat} {b : Bool} {ks : Array Value} {c0 c1 c2 c3 : Value} (h : StH w0 mb kb kh b ks #[c0, c1, c2, c3] W) : W.cell? ⟨kh, 2, none⟩ = some c2 ∧ W.cell? ⟨kh, 3, none⟩ = some c3 := ⟨(four h.2).2.2.1, (four h.2).2.2.2⟩
end Go.Proofs.YtbdimlppnhcicaaGreatDoor
/- onion: Build, walked -/
namespace Go.Proofs.YtbdimlppnhcicaaGreatDoor
set_option linter.unusedVariables false
open Go.RowKit
/-! onion: Build, walked -/
end Go.Proofs.YtbdimlppnhcicaaGreatDoor
