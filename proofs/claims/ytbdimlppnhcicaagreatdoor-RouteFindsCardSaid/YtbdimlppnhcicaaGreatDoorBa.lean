/- term: the makers' leaves: Name, Text, whole, made. -/
import Derived.Lib.ParseIntB
import Derived.Lib.Bytealg
import Derived.Shelf.Strings.Builder1
import Derived.Shelf.Small.Bits
import Derived.Shelf.Small.Strs
import Derived.Shelf.Small.Wraps
import Derived.Shelf.Strings.BuilderF
import Derived.Shelf.Strings.BuilderK
import Derived.Shelf.Strconv.Itoa0
import Derived.Shelf.Strconv.Itoa1
import Derived.Shelf.LaysM
import Derived.Shelf.Strconv.Itoa2
import Derived.Shelf.Strconv.Itoa3
import Derived.Shelf.Strconv.Itoa4
import Derived.Shelf.Strconv.ParseIntEmpty
import Derived.Shelf.Strconv.Clone
import Derived.Shelf.Strconv.SyntaxError
import Derived.Shelf.LaysC
import Derived.Shelf.Strconv.ToError
import Derived.Shelf.Strconv.Lower
import Derived.Shelf.Strconv.ParseUint10
import Derived.Shelf.Strconv.ParseUint10Empty
import Derived.Shelf.Strconv.ParseUint10Any
import Derived.Shelf.Strconv.ParseInt10
import Derived.Shelf.Strconv.RangeError
import Derived.Shelf.Strconv.ToErrorRange
import Derived.Shelf.Strconv.ParseUintEmpty
import Derived.Shelf.Strconv.ParseUint10b64
import Derived.Shelf.Strconv.ParseUint10b32
import Derived.Shelf.Strconv.ParseUint10b16
import Derived.Shelf.Strconv.ParseUint10b8
import Derived.Shelf.Strconv.ParseUint10At
import Derived.Shelf.Strconv.ParseInt10At64
import Derived.Shelf.Strconv.ParseInt10At32
import Derived.Shelf.Strconv.ParseInt10At16
import Derived.Shelf.Strconv.ParseInt10At8
import Derived.Shelf.Strconv.ParseInt10All
import Derived.Shelf.Strconv.ParseIntPublic10
import Derived.Shelf.Strconv.ErrVarParseInt
import Derived.Shelf.Strings.Search1
import Derived.Shelf.Bits.Mul64
import Derived.Shelf.Strings.BuilderCap
import Derived.Ground.Names2Prog
import Derived.Shelf.Slices.Clone
import Derived.Shelf.Slices.SearchI
import Derived.Ground.SlgnProg
import Derived.Shelf.SlicesE.Clone
import Derived.WalkKit
import Derived.WalkSpells
import Derived.WalkLawsBesides
import Derived.Handy
import Derived.Lib.Hide
import Derived.Deep.QuietTactic
import Derived.BigQuiet
import Derived.Deep.RegionHeld3
import Derived.Lib.Strings
import Derived.Lib.IndexBytes
import Derived.BigRegion
import Derived.Deep.RegionLaw
import Derived.Deep.AppendLies
import Derived.Deep.LoopGhost
import Derived.Deep.Onto
import Derived.Deep.WholeRow
import Derived.Deep.CutRange
import Derived.Laws.CopyOwn
import Derived.Lib.ItoaLen
import Derived.Test.YtbdimlppnhcicaaGreatDoorRows
import Derived.Test.YtbdimlppnhcicaaGreatDoorProg
import Derived.Test.YtbdimlppnhcicaaGreatDoorNu
import Derived.Test.YtbdimlppnhcicaaGreatDoorTa
namespace Go.Proofs.YtbdimlppnhcicaaGreatDoor
set_option linter.unusedVariables false
open Go.RowKit
def Tab (w : World) : Prop := Lib.TabIs Tryz.prog w "internal/strconv.uint64pow10" .u64 Lib.pow10Tab
theorem cat_any (a b : ByteArray) (h : a.size + b.size ≤ 9223372036854775807) (w : World) : (Op.stringOp .add a b).run Tryz.prog w = .ok (.string (a ++ b)) w := run_string_add_sum w a b h
end Go.Proofs.YtbdimlppnhcicaaGreatDoor
/- term: the document's Name and Text; all of a name, all of a text. -/
namespace Go.Proofs.YtbdimlppnhcicaaGreatDoor
set_option linter.unusedVariables false
open Go.RowKit
end Go.Proofs.YtbdimlppnhcicaaGreatDoor
/- term: strings.Builder's copyCheck and WriteString at this program (after the shelf's own proofs). -/
namespace Go.Proofs.YtbdimlppnhcicaaGreatDoor
set_option linter.unusedVariables false
open Go.RowKit
end Go.Proofs.YtbdimlppnhcicaaGreatDoor
/- term: build: a head, then all the parts, each right, and the whole right. -/
namespace Go.Proofs.YtbdimlppnhcicaaGreatDoor
set_option linter.unusedVariables false
open Go.RowKit
/-- strings that lie in a row -/
def StrsAt (o : Option Addr) (vs : List ByteArray) (w : World) : Prop := vs = [] ∨ ∃ b off, o = some ⟨b, off, none⟩ ∧ ∀ (k : Nat) (s : ByteArray), vs[k]? = some s → w.cell? ⟨b, off + k, none⟩ = some (.string s)
theorem StrsAt.below {o : Option Addr} {vs : List ByteArray} {w w' : World} (h : StrsAt o vs w) (hb : Below w.heap.size w w') : StrsAt o vs w' :=
  h.imp id fun ⟨b, off, e, hc⟩ => ⟨b, off, e, fun k s hk => (hb.cell (p := ⟨b, off + k, none⟩) (World.block_lt_of_cell? w _ (hc k s hk))).trans (hc k s hk)⟩
end Go.Proofs.YtbdimlppnhcicaaGreatDoor
/- term: Sign, Box, Tuple. -/
namespace Go.Proofs.YtbdimlppnhcicaaGreatDoor
set_option linter.unusedVariables false
open Go.RowKit
end Go.Proofs.YtbdimlppnhcicaaGreatDoor
/- term: Child, Join; the document's Tuple. -/
namespace Go.Proofs.YtbdimlppnhcicaaGreatDoor
set_option linter.unusedVariables false
open Go.RowKit
end Go.Proofs.YtbdimlppnhcicaaGreatDoor
