/- term: the document's Open, all of it. -/
import Derived.Lib.ParseIntB
import Derived.Lib.Bytealg
import Derived.Shelf.Strings.Builder1
import Derived.Shelf.Small.Bits
import Derived.Shelf.Small.Strs
import Derived.Shelf.Small.Wraps
import Derived.Shelf.Strings.BuilderF
import Derived.Shelf.Strings.BuilderK
import Derived.Shelf.Strconv.Itoa0
import Derived.Shelf.Strconv.Itoa1
import Derived.Shelf.LaysM
import Derived.Shelf.Strconv.Itoa2
import Derived.Shelf.Strconv.Itoa3
import Derived.Shelf.Strconv.Itoa4
import Derived.Shelf.Strconv.ParseIntEmpty
import Derived.Shelf.Strconv.Clone
import Derived.Shelf.Strconv.SyntaxError
import Derived.Shelf.LaysC
import Derived.Shelf.Strconv.ToError
import Derived.Shelf.Strconv.Lower
import Derived.Shelf.Strconv.ParseUint10
import Derived.Shelf.Strconv.ParseUint10Empty
import Derived.Shelf.Strconv.ParseUint10Any
import Derived.Shelf.Strconv.ParseInt10
import Derived.Shelf.Strconv.RangeError
import Derived.Shelf.Strconv.ToErrorRange
import Derived.Shelf.Strconv.ParseUintEmpty
import Derived.Shelf.Strconv.ParseUint10b64
import Derived.Shelf.Strconv.ParseUint10b32
import Derived.Shelf.Strconv.ParseUint10b16
import Derived.Shelf.Strconv.ParseUint10b8
import Derived.Shelf.Strconv.ParseUint10At
import Derived.Shelf.Strconv.ParseInt10At64
import Derived.Shelf.Strconv.ParseInt10At32
import Derived.Shelf.Strconv.ParseInt10At16
import Derived.Shelf.Strconv.ParseInt10At8
import Derived.Shelf.Strconv.ParseInt10All
import Derived.Shelf.Strconv.ParseIntPublic10
import Derived.Shelf.Strconv.ErrVarParseInt
import Derived.Shelf.Strings.Search1
import Derived.Shelf.Bits.Mul64
import Derived.Shelf.Strings.BuilderCap
import Derived.Ground.Names2Prog
import Derived.Shelf.Slices.Clone
import Derived.Shelf.Slices.SearchI
import Derived.Ground.SlgnProg
import Derived.Shelf.SlicesE.Clone
import Derived.WalkKit
import Derived.WalkSpells
import Derived.WalkLawsBesides
import Derived.Handy
import Derived.Lib.Hide
import Derived.Deep.QuietTactic
import Derived.BigQuiet
import Derived.Deep.RegionHeld3
import Derived.Lib.Strings
import Derived.Lib.IndexBytes
import Derived.BigRegion
import Derived.Deep.RegionLaw
import Derived.Deep.AppendLies
import Derived.Deep.LoopGhost
import Derived.Deep.Onto
import Derived.Deep.WholeRow
import Derived.Deep.CutRange
import Derived.Laws.CopyOwn
import Derived.Lib.ItoaLen
import Derived.Test.YtbdimlppnhcicaaGreatDoorRows
import Derived.Test.YtbdimlppnhcicaaGreatDoorProg
import Derived.Test.YtbdimlppnhcicaaGreatDoorTa
import Derived.Test.YtbdimlppnhcicaaGreatDoorTl
import Derived.Test.YtbdimlppnhcicaaGreatDoorRa
import Derived.Test.YtbdimlppnhcicaaGreatDoorRefI
import Derived.Test.YtbdimlppnhcicaaGreatDoorKa
namespace Go.Proofs.YtbdimlppnhcicaaGreatDoor
set_option linter.unusedVariables false
open Go.RowKit
theorem ropen_any (t : ByteArray) (w : World) (hm : t.size ≤ maxLen) : Calls Tryz.prog 124 #[.string t] w (OpenPost (readP t.data.toList) w) := by
  cases ho : readP t.data.toList with
  | none => exact ropen_no t w hm (by unfold rightB; rw [ho]; rfl)
  | some x =>
    obtain ⟨hp, hl⟩ := read_parse ho
    have hr : rightB t.data.toList = true := by unfold rightB; rw [ho]; rfl
    have hs : t.size ≤ 16384 := by rw [← list_size]; exact hl
    by_cases h1 : x.op = 110
    · exact ropen_name t w hm hs x hr hp h1
    · by_cases h2 : x.op = 116
      · exact ropen_text t w hm hs x hr hp h2
      · exact ropen_parts t w hm hs x hr hp h1 h2
end Go.Proofs.YtbdimlppnhcicaaGreatDoor
/- term: the document's key. -/
namespace Go.Proofs.YtbdimlppnhcicaaGreatDoor
set_option linter.unusedVariables false
open Go.RowKit
end Go.Proofs.YtbdimlppnhcicaaGreatDoor
/- term: Unbox. -/
namespace Go.Proofs.YtbdimlppnhcicaaGreatDoor
set_option linter.unusedVariables false
open Go.RowKit
theorem toList_ne {a b : ByteArray} (h : a ≠ b) : (a.toList == b.toList) = false := by
  rw [beq_eq_false_iff_ne]
  intro e
  apply h
  have ea := extract_list a 0 a.size
  have eb := extract_list b 0 b.size
  simp only [ByteArray.extract_zero_size, List.drop_zero, Nat.sub_zero] at ea eb
  rw [ea, eb] at e
  rw [List.take_of_length_le (by rw [list_size]; exact Nat.le_refl _), List.take_of_length_le (by rw [list_size]; exact Nat.le_refl _)] at e
  exact ByteArray.ext (Array.toList_inj.1 e)
end Go.Proofs.YtbdimlppnhcicaaGreatDoor
/- term: Verify. -/
namespace Go.Proofs.YtbdimlppnhcicaaGreatDoor
set_option linter.unusedVariables false
open Go.RowKit
end Go.Proofs.YtbdimlppnhcicaaGreatDoor
/- term: the document's Unbox. -/
namespace Go.Proofs.YtbdimlppnhcicaaGreatDoor
set_option linter.unusedVariables false
open Go.RowKit
end Go.Proofs.YtbdimlppnhcicaaGreatDoor
/- term: the document's Verify. -/
namespace Go.Proofs.YtbdimlppnhcicaaGreatDoor
set_option linter.unusedVariables false
open Go.RowKit
end Go.Proofs.YtbdimlppnhcicaaGreatDoor
