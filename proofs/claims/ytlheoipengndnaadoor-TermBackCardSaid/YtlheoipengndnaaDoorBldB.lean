/- term: the document's Name and Text; all of a name, all of a text. -/
import Derived.Test.YtlheoipengndnaaDoorBldA
namespace Go.Proofs.YtlheoipengndnaaDoor
set_option linter.unusedVariables false
open Go.RowKit
theorem itoa_nat (n : Nat) : (⟨(Lib.itoa (n : Int)).toArray⟩ : ByteArray) = ⟨(Lib.decDigits n).toArray⟩ := by rw [Lib.itoa_nonneg]
theorem dec_size (n : Nat) (h : n ≤ 9223372036854775807) : (⟨(Lib.decDigits n).toArray⟩ : ByteArray).size ≤ 21 := by
  rw [← itoa_nat]; exact itoa_size _ (by omega) (by omega)
def nameV (n : Int) : Value := .tuple (if n < 0 then #[.string ⟨#[]⟩, .int .i64 2] else #[.string (nameS n), .int .i64 0])
def textV (t : ByteArray) : Value := .tuple (if 4096 < t.size then #[.string ⟨#[]⟩, .int .i64 3] else #[.string (textS t), .int .i64 0])
theorem name_any (n : Int) (w : World) (h1 : n ≤ 9223372036854775807) (hT : Tab w) : Calls Tryd.prog 25 #[.int .i64 n] w fun e w' => e = .returned (nameV n) ∧ Below w.heap.size w w' := by
  unfold nameV
  by_cases h : n < 0
  · rw [if_pos h]; exact name_neg n w h
  · rw [if_neg h]; exact name_pos n w h h1 hT
theorem text_any (t : ByteArray) (w : World) (hm : t.size ≤ maxLen) (hT : Tab w) : Calls Tryd.prog 27 #[.string t] w fun e w' => e = .returned (textV t) ∧ Below w.heap.size w w' := by
  unfold textV
  by_cases h : 4096 < t.size
  · rw [if_pos h]; exact btext_long t w hm h
  · rw [if_neg h]; exact btext_short t w (by omega) hT
set_option maxRecDepth 100000 in
set_option maxHeartbeats 2000000 in
theorem rname_neg (n : Int) (w : World) (h : n < 0) : Calls Tryd.prog 26 #[.int .i64 n] w fun e w' => (e = .returned (.tuple #[.string ⟨#[]⟩, .int .i64 2])) ∧ Below w.heap.size w w' := by
  go_enter Tryd.func26, Tryd.ntmps26
  go_wp2
  go_ret2
  exact ⟨rfl, Below.refl _ _⟩
set_option maxRecDepth 100000 in
set_option maxHeartbeats 2000000 in
theorem rname_pos (n : Nat) (w : World) (h1 : n ≤ 9223372036854775807) : Calls Tryd.prog 26 #[.int .i64 (n : Int)] w fun e w' => (e = .returned (.tuple #[.string (nameS n), .int .i64 0])) ∧ Below w.heap.size w w' := by
  have HR := Lib.hid (rdigits_any n w (by omega))
  have hz := dec_size n h1
  have h : ¬ (n : Int) < 0 := by omega
  unfold nameS
  rw [itoa_nat]
  generalize (⟨(Lib.decDigits n).toArray⟩ : ByteArray) = u at HR hz ⊢
  have c1 := cat_any ⟨#[110]⟩ u (by rw [size1]; omega)
  have c2 := cat_any (⟨#[110]⟩ ++ u) ⟨#[59]⟩ (by rw [ByteArray.size_append, size1, size1]; omega)
  clear hz
  go_enter Tryd.func26, Tryd.ntmps26
  go_wp2_with (go_at_call 42; (with_reducible refine Calls.mono HR.out ?_); rintro e w1 ⟨rfl, hb⟩; have B1 : Hid (Below w.heap.size w w1) := Lib.hid hb; clear hb)
  go_ret2
  exact ⟨rfl, B1.out⟩
theorem rname_any (n : Int) (w : World) (h1 : n ≤ 9223372036854775807) : Calls Tryd.prog 26 #[.int .i64 n] w fun e w' => e = .returned (nameV n) ∧ Below w.heap.size w w' := by
  unfold nameV
  by_cases h : n < 0
  · rw [if_pos h]; exact rname_neg n w h
  · rw [if_neg h]
    obtain ⟨k, rfl⟩ : ∃ k : Nat, n = k := ⟨n.toNat, by omega⟩
    exact rname_pos k w (by omega)
set_option maxRecDepth 100000 in
set_option maxHeartbeats 2000000 in
theorem rbtext_long (t : ByteArray) (w : World) (hm : t.size ≤ maxLen) (h : 4096 < t.size) : Calls Tryd.prog 28 #[.string t] w fun e w' => (e = .returned (.tuple #[.string ⟨#[]⟩, .int .i64 3])) ∧ Below w.heap.size w w' := by
  have hi : (4096 : Int) < (t.size : Int) := by omega
  go_enter Tryd.func28, Tryd.ntmps28
  go_wp2
  go_ret2
  exact ⟨rfl, Below.refl _ _⟩
set_option maxRecDepth 100000 in
set_option maxHeartbeats 2000000 in
theorem rbtext_short (t : ByteArray) (w : World) (h : t.size ≤ 4096) : Calls Tryd.prog 28 #[.string t] w fun e w' => (e = .returned (.tuple #[.string (textS t), .int .i64 0])) ∧ Below w.heap.size w w' := by
  have hi : ¬ (4096 : Int) < (t.size : Int) := by omega
  have HR := Lib.hid (rdigits_any t.size w (by omega))
  have hz := dec_size t.size (by omega)
  unfold textS
  rw [itoa_nat]
  generalize (⟨(Lib.decDigits t.size).toArray⟩ : ByteArray) = u at HR hz ⊢
  have c1 := cat_any ⟨#[116]⟩ u (by rw [size1]; omega)
  have c2 := cat_any (⟨#[116]⟩ ++ u) ⟨#[58]⟩ (by rw [ByteArray.size_append, size1, size1]; omega)
  have c3 := cat_any (⟨#[116]⟩ ++ u ++ ⟨#[58]⟩) t (by rw [ByteArray.size_append, ByteArray.size_append, size1, size1]; omega)
  clear hz
  go_enter Tryd.func28, Tryd.ntmps28
  go_wp2_with (go_at_call 42; (with_reducible refine Calls.mono HR.out ?_); rintro e w1 ⟨rfl, hb⟩; have B1 : Hid (Below w.heap.size w w1) := Lib.hid hb; clear hb)
  go_ret2
  exact ⟨rfl, B1.out⟩
theorem rtext_any (t : ByteArray) (w : World) (hm : t.size ≤ maxLen) : Calls Tryd.prog 28 #[.string t] w fun e w' => e = .returned (textV t) ∧ Below w.heap.size w w' := by
  unfold textV
  by_cases h : 4096 < t.size
  · rw [if_pos h]; exact rbtext_long t w hm h
  · rw [if_neg h]; exact rbtext_short t w (by omega)
end Go.Proofs.YtlheoipengndnaaDoor
