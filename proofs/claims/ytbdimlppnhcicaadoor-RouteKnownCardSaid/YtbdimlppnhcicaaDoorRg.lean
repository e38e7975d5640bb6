/- term, the document's: read of terms with parts. (Printed by a program of ours.) -/
import Derived.Lib.ParseIntB
import Derived.Lib.Bytealg
import Derived.Shelf.Strings.Builder1
import Derived.Shelf.Small.Bits
import Derived.Shelf.Small.Strs
import Derived.Shelf.Small.Wraps
import Derived.Shelf.Strings.BuilderF
import Derived.Shelf.Strings.BuilderK
import Derived.Shelf.Strconv.Itoa0
import Derived.Shelf.Strconv.Itoa1
import Derived.Shelf.LaysM
import Derived.Shelf.Strconv.Itoa2
import Derived.Shelf.Strconv.Itoa3
import Derived.Shelf.Strconv.Itoa4
import Derived.Shelf.Strconv.ParseIntEmpty
import Derived.Shelf.Strconv.Clone
import Derived.Shelf.Strconv.SyntaxError
import Derived.Shelf.LaysC
import Derived.Shelf.Strconv.ToError
import Derived.Shelf.Strconv.Lower
import Derived.Shelf.Strconv.ParseUint10
import Derived.Shelf.Strconv.ParseUint10Empty
import Derived.Shelf.Strconv.ParseUint10Any
import Derived.Shelf.Strconv.ParseInt10
import Derived.Shelf.Strconv.RangeError
import Derived.Shelf.Strconv.ToErrorRange
import Derived.Shelf.Strconv.ParseUintEmpty
import Derived.Shelf.Strconv.ParseUint10b64
import Derived.Shelf.Strconv.ParseUint10b32
import Derived.Shelf.Strconv.ParseUint10b16
import Derived.Shelf.Strconv.ParseUint10b8
import Derived.Shelf.Strconv.ParseUint10At
import Derived.Shelf.Strconv.ParseInt10At64
import Derived.Shelf.Strconv.ParseInt10At32
import Derived.Shelf.Strconv.ParseInt10At16
import Derived.Shelf.Strconv.ParseInt10At8
import Derived.Shelf.Strconv.ParseInt10All
import Derived.Shelf.Strconv.ParseIntPublic10
import Derived.Shelf.Strconv.ErrVarParseInt
import Derived.Shelf.Strings.Search1
import Derived.Shelf.Bits.Mul64
import Derived.Shelf.Strings.BuilderCap
import Derived.Ground.Names2Prog
import Derived.Shelf.Slices.SearchI
import Derived.WalkKit
import Derived.WalkSpells
import Derived.WalkLawsBesides
import Derived.Handy
import Derived.Lib.Hide
import Derived.Deep.QuietTactic
import Derived.BigQuiet
import Derived.Deep.RegionHeld3
import Derived.Lib.Strings
import Derived.Lib.IndexBytes
import Derived.BigRegion
import Derived.Deep.RegionLaw
import Derived.Deep.AppendLies
import Derived.Deep.LoopGhost
import Derived.Deep.Onto
import Derived.Deep.WholeRow
import Derived.Deep.CutRange
import Derived.Laws.CopyOwn
import Derived.Test.YtbdimlppnhcicaaDoorRows
import Derived.Test.YtbdimlppnhcicaaDoorProg
import Derived.Test.YtbdimlppnhcicaaDoorNu
import Derived.Test.YtbdimlppnhcicaaDoorTa
import Derived.Test.YtbdimlppnhcicaaDoorRa
namespace Go.Proofs.YtbdimlppnhcicaaDoor
set_option linter.unusedVariables false
open Go.RowKit
/-- the parts so far, and where the next begins -/
def OffInv (s : ByteArray) (st : Nat) (acc : List (List UInt8)) (a : Nat) : Prop := s.data.toList.drop st = acc.flatten ++ s.data.toList.drop a ∧ a = st + acc.flatten.length
theorem OffInv.next {s : ByteArray} {st a a' : Nat} {acc : List (List UInt8)} (h : OffInv s st acc a) (ha : a ≤ a') (ha' : a' ≤ s.size) : OffInv s st (acc ++ [(s.data.toList.drop a).take (a' - a)]) a' ∧ ((s.data.toList.drop a).take (a' - a)).length = a' - a := by
  have hl : ((s.data.toList.drop a).take (a' - a)).length = a' - a := by rw [List.length_take, drop_len]; omega
  have hd : s.data.toList.drop a = (s.data.toList.drop a).take (a' - a) ++ s.data.toList.drop a' := by
    conv => lhs; rw [← List.take_append_drop (a' - a) (s.data.toList.drop a)]
    rw [List.drop_drop, show a + (a' - a) = a' by omega]
  refine ⟨⟨?_, ?_⟩, hl⟩
  · rw [h.1, List.flatten_append, List.append_assoc]
    congr 1
    rw [List.flatten_cons, List.flatten_nil, List.append_nil]; exact hd
  · rw [List.flatten_append, List.length_append, List.flatten_cons, List.flatten_nil, List.append_nil, hl]; have := h.2; omega
/-- what is being put together lies in block ob -/
def Oc (ob : Nat) (e d : Int) (kv : Value) (w : World) : Prop := w.heap[ob]? = some (.cells #[.int .i64 e, .int .i64 d, .int .u64 0, .int .i64 0, kv] 153 (0, 0))
theorem Oc.c {ob : Nat} {e d : Int} {kv : Value} {w : World} (h : Oc ob e d kv w) : w.cell? ⟨ob, 0, none⟩ = some (.int .i64 e) ∧ w.cell? ⟨ob, 1, none⟩ = some (.int .i64 d) ∧ w.cell? ⟨ob, 2, none⟩ = some (.int .u64 0) ∧ w.cell? ⟨ob, 3, none⟩ = some (.int .i64 0) ∧ w.cell? ⟨ob, 4, none⟩ = some kv := by
  simp [World.cell?, show w.heap[ob]? = _ from h]
theorem Oc.f {ob : Nat} {e d : Int} {kv : Value} {w : World} (h : Oc ob e d kv w) (o : Nat) : w.frozen? ⟨ob, o, none⟩ = false := by simp [World.frozen?, show w.heap[ob]? = _ from h]
theorem Oc.lt {ob : Nat} {e d : Int} {kv : Value} {w : World} (h : Oc ob e d kv w) : ob < w.heap.size := (Array.getElem?_eq_some_iff.1 h).1
end Go.Proofs.YtbdimlppnhcicaaDoor
/- term, the document's: read is parse; Right, Size, Deep. -/
namespace Go.Proofs.YtbdimlppnhcicaaDoor
set_option linter.unusedVariables false
open Go.RowKit
theorem field_0 (a b c d : Int) (o : Option Addr) (m k : Nat) (w : World) : (Instr.field 153 (.agg #[.int .i64 a, .int .i64 b, .int .u64 c, .int .i64 d, .slice o m k]) 0).run Tryd.prog w = .ok (.int .i64 a) w := by kernel_rfl
theorem field_1 (a b c d : Int) (o : Option Addr) (m k : Nat) (w : World) : (Instr.field 153 (.agg #[.int .i64 a, .int .i64 b, .int .u64 c, .int .i64 d, .slice o m k]) 1).run Tryd.prog w = .ok (.int .i64 b) w := by kernel_rfl
attribute [local go_sem] field_0 field_1
end Go.Proofs.YtbdimlppnhcicaaDoor
