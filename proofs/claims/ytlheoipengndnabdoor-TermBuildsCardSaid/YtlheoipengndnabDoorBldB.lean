/- term: the document's Name and Text; all of a name, all of a text. -/
import Derived.Test.YtlheoipengndnabDoorBldA
namespace Go.Proofs.YtlheoipengndnabDoor
set_option linter.unusedVariables false
open Go.RowKit
theorem itoa_nat (n : Nat) : (⟨(Lib.itoa (n : Int)).toArray⟩ : ByteArray) = ⟨(Lib.decDigits n).toArray⟩ := by rw [Lib.itoa_nonneg]
theorem dec_size (n : Nat) (h : n ≤ 9223372036854775807) : (⟨(Lib.decDigits n).toArray⟩ : ByteArray).size ≤ 21 := by
  rw [← itoa_nat]; exact itoa_size _ (by omega) (by omega)
def nameV (n : Int) : Value := .tuple (if n < 0 then #[.string ⟨#[]⟩, .int .i64 2] else #[.string (nameS n), .int .i64 0])
def textV (t : ByteArray) : Value := .tuple (if 4096 < t.size then #[.string ⟨#[]⟩, .int .i64 3] else #[.string (textS t), .int .i64 0])
theorem name_any (n : Int) (w : World) (h1 : n ≤ 9223372036854775807) (hT : Tab w) : Calls Tryd.prog 27 #[.int .i64 n] w fun e w' => e = .returned (nameV n) ∧ Below w.heap.size w w' := by
  unfold nameV
  by_cases h : n < 0
  · rw [if_pos h]; exact name_neg n w h
  · rw [if_neg h]; exact name_pos n w h h1 hT
theorem text_any (t : ByteArray) (w : World) (hm : t.size ≤ maxLen) (hT : Tab w) : Calls Tryd.prog 28 #[.string t] w fun e w' => e = .returned (textV t) ∧ Below w.heap.size w w' := by
  unfold textV
  by_cases h : 4096 < t.size
  · rw [if_pos h]; exact btext_long t w hm h
  · rw [if_neg h]; exact btext_short t w (by omega) hT
end Go.Proofs.YtlheoipengndnabDoor
