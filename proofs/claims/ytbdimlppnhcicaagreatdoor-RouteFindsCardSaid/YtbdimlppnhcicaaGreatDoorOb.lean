/- digits -/
import Derived.Lib.ParseIntB
import Derived.Lib.Bytealg
import Derived.Lib.ItoaNum
import Derived.Lib.ParseIntBCases
import Derived.Shelf.Strings.Builder1
import Derived.Shelf.Small.Bits
import Derived.Shelf.Small.Strs
import Derived.Shelf.Small.Wraps
import Derived.Shelf.Strings.BuilderF
import Derived.Shelf.Strings.BuilderK
import Derived.Shelf.Strconv.Itoa0
import Derived.Shelf.Strconv.Itoa1
import Derived.Shelf.LaysM
import Derived.Shelf.Strconv.Itoa2
import Derived.Shelf.Strconv.Itoa3
import Derived.Shelf.Strconv.Itoa4
import Derived.Shelf.Strconv.ParseIntEmpty
import Derived.Shelf.Strconv.Clone
import Derived.Shelf.Strconv.SyntaxError
import Derived.Shelf.LaysC
import Derived.Shelf.Strconv.ToError
import Derived.Shelf.Strconv.Lower
import Derived.Shelf.Strconv.ParseUint10
import Derived.Shelf.Strconv.ParseUint10Empty
import Derived.Shelf.Strconv.ParseUint10Any
import Derived.Shelf.Strconv.ParseInt10
import Derived.Shelf.Strconv.RangeError
import Derived.Shelf.Strconv.ToErrorRange
import Derived.Shelf.Strconv.ParseUintEmpty
import Derived.Shelf.Strconv.ParseUint10b64
import Derived.Shelf.Strconv.ParseUint10b32
import Derived.Shelf.Strconv.ParseUint10b16
import Derived.Shelf.Strconv.ParseUint10b8
import Derived.Shelf.Strconv.ParseUint10At
import Derived.Shelf.Strconv.ParseInt10At64
import Derived.Shelf.Strconv.ParseInt10At32
import Derived.Shelf.Strconv.ParseInt10At16
import Derived.Shelf.Strconv.ParseInt10At8
import Derived.Shelf.Strconv.ParseInt10All
import Derived.Shelf.Strconv.ParseIntPublic10
import Derived.Shelf.Strconv.ErrVarParseInt
import Derived.Shelf.Strings.Search1
import Derived.Shelf.Bits.Mul64
import Derived.Shelf.Strings.BuilderCap
import Derived.Ground.Names2Prog
import Derived.Shelf.Slices.Clone
import Derived.Shelf.Slices.SearchI
import Derived.Ground.SlgnProg
import Derived.Shelf.SlicesE.Clone
import Derived.WalkKit
import Derived.WalkSpells
import Derived.WalkLawsBesides
import Derived.Handy
import Derived.Lib.Hide
import Derived.Deep.QuietTactic
import Derived.BigQuiet
import Derived.Deep.RegionHeld3
import Derived.Lib.Strings
import Derived.Lib.IndexBytes
import Derived.BigRegion
import Derived.Deep.RegionLaw
import Derived.Deep.AppendLies
import Derived.Deep.LoopGhost
import Derived.Deep.Onto
import Derived.Deep.WholeRow
import Derived.Deep.CutRange
import Derived.Laws.CopyOwn
import Derived.Lib.ItoaLen
import Derived.Lib.AppendIntMem
import Derived.Deep.CutBlock
import Derived.Test.YtbdimlppnhcicaaGreatDoorRows
import Derived.Test.YtbdimlppnhcicaaGreatDoorProg
import Derived.Test.YtbdimlppnhcicaaGreatDoorNu
import Derived.Test.YtbdimlppnhcicaaGreatDoorTa
import Derived.Test.YtbdimlppnhcicaaGreatDoorTl
import Derived.Test.YtbdimlppnhcicaaGreatDoorRg
namespace Go.Proofs.YtbdimlppnhcicaaGreatDoor
set_option linter.unusedVariables false
/-! digits -/
def isDig (c : UInt8) : Bool := decide (48 ≤ c.toNat ∧ c.toNat ≤ 57)
def decF (n : Nat) (l : List UInt8) : Nat := l.foldl (fun n c => n * 10 + (c.toNat - 48)) n
def decV (l : List UInt8) : Nat := decF 0 l
theorem decF_snoc (n : Nat) (l : List UInt8) (c : UInt8) : decF n (l ++ [c]) = decF n l * 10 + (c.toNat - 48) := by simp [decF]
theorem decF_cons (n : Nat) (c : UInt8) (l : List UInt8) : decF n (c :: l) = decF (n * 10 + (c.toNat - 48)) l := by unfold decF; rw [List.foldl_cons]
theorem decF_lt (l : List UInt8) : ∀ n : Nat, l.all isDig = true → decF n l < (n + 1) * 10 ^ l.length := by
  induction l with
  | nil => intro n _; simp [decF]
  | cons c l ih =>
    intro n h
    simp only [List.all_cons, Bool.and_eq_true] at h
    have hc : c.toNat ≤ 57 := (of_decide_eq_true h.1).2
    have h0 := ih (n * 10 + (c.toNat - 48)) h.2
    have h1 : (n + 1) * 10 ^ (l.length + 1) = ((n + 1) * 10) * 10 ^ l.length := by rw [Nat.pow_succ, Nat.mul_comm (10 ^ l.length) 10, Nat.mul_assoc]
    have h2 : n * 10 + (c.toNat - 48) + 1 ≤ (n + 1) * 10 := by omega
    rw [List.length_cons, h1, decF_cons]
    exact Nat.lt_of_lt_of_le h0 (Nat.mul_le_mul_right _ h2)
end Go.Proofs.YtbdimlppnhcicaaGreatDoor
/- onion: numbers -/
namespace Go.Proofs.YtbdimlppnhcicaaGreatDoor
set_option linter.unusedVariables false
open Go.RowKit
/-! onion: numbers -/
theorem all_snoc (p : UInt8 → Bool) (l : List UInt8) (c : UInt8) : (l ++ [c]).all p = (l.all p && p c) := by simp
/-- the document's loop over digits -/
def DigAt (s : ByteArray) (i : Nat) (y : Int) : Prop := (s.data.toList.take i).all isDig = true ∧ y = (decV (s.data.toList.take i) : Int)
theorem take_at (s : ByteArray) (i : Nat) (h : i < s.size) : s.data.toList.take (i + 1) = s.data.toList.take i ++ [s[i]] := by
  rw [List.take_succ_eq_append_getElem (by rw [list_size]; exact h)]; rfl
theorem DigAt.next {s : ByteArray} {i : Nat} {y : Int} (h : DigAt s i y) (hi : i < s.size) (hd : isDig s[i] = true) : DigAt s (i + 1) (y * 10 + (((s[i]).toNat : Int) - 48)) := by
  have hc := of_decide_eq_true hd
  refine ⟨by rw [take_at s i hi, all_snoc, h.1, hd]; rfl, ?_⟩
  rw [take_at s i hi, decV, decF_snoc, h.2]
  show _ = (((decV (s.data.toList.take i)) * 10 + ((s[i]).toNat - 48) : Nat) : Int)
  omega
theorem DigAt.lt {s : ByteArray} {i : Nat} {y : Int} (h : DigAt s i y) (hi : i ≤ s.size) : 0 ≤ y ∧ y < 10 ^ i := by
  have := decF_lt (s.data.toList.take i) 0 h.1
  rw [h.2]
  refine ⟨by omega, ?_⟩
  have hl : (s.data.toList.take i).length = i := by rw [List.length_take, list_size]; omega
  rw [hl, Nat.zero_add, Nat.one_mul] at this
  have h2 : decV (s.data.toList.take i) < 10 ^ i := this
  exact_mod_cast h2
end Go.Proofs.YtbdimlppnhcicaaGreatDoor
/- onion: the document's numbers -/
namespace Go.Proofs.YtbdimlppnhcicaaGreatDoor
set_option linter.unusedVariables false
open Go.RowKit
end Go.Proofs.YtbdimlppnhcicaaGreatDoor
