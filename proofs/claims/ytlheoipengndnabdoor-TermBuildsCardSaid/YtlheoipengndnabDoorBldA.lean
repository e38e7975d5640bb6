/- term: the makers' leaves: Name, Text, whole, made. -/
import Derived.Test.YtlheoipengndnabDoorRefH
import Derived.Test.YtlheoipengndnabDoorShelf
import Derived.Lib.ItoaLen
namespace Go.Proofs.YtlheoipengndnabDoor
set_option linter.unusedVariables false
open Go.RowKit
def Tab (w : World) : Prop := Lib.TabIs Tryd.prog w "internal/strconv.uint64pow10" .u64 Lib.pow10Tab
def nameS (n : Int) : ByteArray := ⟨#[110]⟩ ++ ⟨(Lib.itoa n).toArray⟩ ++ ⟨#[59]⟩
theorem grow_below (w : World) (k : Nat) (os : Array Obj) : Below w.heap.size w (Go.Sort.grow (w.drewN k) os) := by
  have h := (drewN_same w k).1
  refine ⟨h.os, h.tape, h.output, ?_, fun i hi => ?_⟩
  · have := h.size
    simp only [Go.Sort.grow, Array.size_append]; omega
  · rw [← h.block i hi]
    have := h.size
    simp only [Go.Sort.grow]
    rw [Array.getElem?_append_left (by omega)]
set_option maxRecDepth 100000 in
set_option maxHeartbeats 2000000 in
theorem whole_any (t : ByteArray) (w : World) (hm : t.size ≤ maxLen) (hL : LibOk w) : Calls Tryd.prog 25 #[.string t] w fun e w' => (e = .returned (.tuple (if rightB t.data.toList then #[.string t, .int .i64 0] else #[.string ⟨#[]⟩, .int .i64 3]))) ∧ Below w.heap.size w w' := by
  have HR := Lib.hid (right_any t w hm hL)
  cases hr : rightB t.data.toList <;>
  · rw [hr] at HR
    clear hr hL
    go_enter Tryd.func25, Tryd.ntmps25
    go_wp2_with (go_at_call 24; (with_reducible refine Calls.mono HR.out ?_); rintro e w1 ⟨rfl, hb⟩; have B1 := Lib.hid hb; clear hb)
    go_ret2
    exact ⟨rfl, B1.out⟩
set_option maxRecDepth 100000 in
set_option maxHeartbeats 2000000 in
theorem made_any (t : ByteArray) (w : World) (hm : t.size ≤ maxLen) : Calls Tryd.prog 36 #[.string t] w fun e w' => (e = .returned (.tuple (if rightB t.data.toList then #[.string t, .int .i64 0] else #[.string ⟨#[]⟩, .int .i64 3]))) ∧ Below w.heap.size w w' := by
  have HR := Lib.hid (rright_any t w hm)
  cases hr : rightB t.data.toList <;>
  · rw [hr] at HR
    clear hr
    go_enter Tryd.func36, Tryd.ntmps36
    go_wp2_with (go_at_call 35; (with_reducible refine Calls.mono HR.out ?_); rintro e w1 ⟨rfl, hb⟩; have B1 := Lib.hid hb; clear hb)
    go_ret2
    exact ⟨rfl, B1.out⟩
set_option maxRecDepth 100000 in
set_option maxHeartbeats 2000000 in
theorem name_neg (n : Int) (w : World) (h : n < 0) : Calls Tryd.prog 27 #[.int .i64 n] w fun e w' => (e = .returned (.tuple #[.string ⟨#[]⟩, .int .i64 2])) ∧ Below w.heap.size w w' := by
  go_enter Tryd.func27, Tryd.ntmps27
  go_wp2
  go_ret2
  exact ⟨rfl, Below.refl _ _⟩
theorem mk_append (a b : List UInt8) : (⟨(a ++ b).toArray⟩ : ByteArray) = ⟨a.toArray⟩ ++ ⟨b.toArray⟩ := by
  apply ByteArray.ext; simp
theorem size1 (c : UInt8) : (⟨#[c]⟩ : ByteArray).size = 1 := rfl
theorem itoa_size (n : Int) (h0 : -9223372036854775808 ≤ n) (h1 : n ≤ 9223372036854775807) : (⟨(Lib.itoa n).toArray⟩ : ByteArray).size ≤ 21 := Lib.itoa_length_le n h0 h1
theorem cat_any (a b : ByteArray) (h : a.size + b.size ≤ 9223372036854775807) (w : World) : (Op.stringOp .add a b).run Tryd.prog w = .ok (.string (a ++ b)) w := run_string_add_sum w a b h
def textS (t : ByteArray) : ByteArray := ⟨#[116]⟩ ++ ⟨(Lib.itoa (t.size : Int)).toArray⟩ ++ ⟨#[58]⟩ ++ t
set_option maxRecDepth 100000 in
set_option maxHeartbeats 2000000 in
theorem name_pos (n : Int) (w : World) (h : ¬ n < 0) (h1 : n ≤ 9223372036854775807) (hT : Tab w) : Calls Tryd.prog 27 #[.int .i64 n] w fun e w' => (e = .returned (.tuple #[.string (nameS n), .int .i64 0])) ∧ Below w.heap.size w w' := by
  have HR := Lib.hid (Tryd.strconv_FormatInt_10 n (by omega) h1 w hT)
  have hz := itoa_size n (by omega) h1
  unfold nameS
  generalize (⟨(Lib.itoa n).toArray⟩ : ByteArray) = u at HR hz ⊢
  have c1 := cat_any ⟨#[110]⟩ u (by rw [size1]; omega)
  have c2 := cat_any (⟨#[110]⟩ ++ u) ⟨#[59]⟩ (by rw [ByteArray.size_append, size1, size1]; omega)
  clear hz
  go_enter Tryd.func27, Tryd.ntmps27
  go_wp2_with (go_at_call 41; (with_reducible refine Calls.mono HR.out ?_); rintro e w1 ⟨rfl, hb⟩; have B1 : Hid (Below w.heap.size w w1) := (by obtain ⟨k, os, rfl⟩ := hb; exact grow_below w k os); clear hb)
  go_ret2
  exact ⟨rfl, B1.out⟩
set_option maxRecDepth 100000 in
set_option maxHeartbeats 2000000 in
theorem btext_long (t : ByteArray) (w : World) (hm : t.size ≤ maxLen) (h : 4096 < t.size) : Calls Tryd.prog 28 #[.string t] w fun e w' => (e = .returned (.tuple #[.string ⟨#[]⟩, .int .i64 3])) ∧ Below w.heap.size w w' := by
  have hi : (4096 : Int) < (t.size : Int) := by omega
  go_enter Tryd.func28, Tryd.ntmps28
  go_wp2
  go_ret2
  exact ⟨rfl, Below.refl _ _⟩
set_option maxRecDepth 100000 in
set_option maxHeartbeats 2000000 in
theorem btext_short (t : ByteArray) (w : World) (h : t.size ≤ 4096) (hT : Tab w) : Calls Tryd.prog 28 #[.string t] w fun e w' => (e = .returned (.tuple #[.string (textS t), .int .i64 0])) ∧ Below w.heap.size w w' := by
  have hi : ¬ (4096 : Int) < (t.size : Int) := by omega
  have HR := Lib.hid (Tryd.strconv_Itoa (t.size : Int) (by omega) (by omega) w hT)
  have hz := itoa_size (t.size : Int) (by omega) (by omega)
  unfold textS
  generalize (⟨(Lib.itoa (t.size : Int)).toArray⟩ : ByteArray) = u at HR hz ⊢
  have c1 := cat_any ⟨#[116]⟩ u (by rw [size1]; omega)
  have c2 := cat_any (⟨#[116]⟩ ++ u) ⟨#[58]⟩ (by rw [ByteArray.size_append, size1, size1]; omega)
  have c3 := cat_any (⟨#[116]⟩ ++ u ++ ⟨#[58]⟩) t (by rw [ByteArray.size_append, ByteArray.size_append, size1, size1]; omega)
  clear hz
  go_enter Tryd.func28, Tryd.ntmps28
  go_wp2_with (go_at_call 42; (with_reducible refine Calls.mono HR.out ?_); rintro e w1 ⟨rfl, hb⟩; have B1 : Hid (Below w.heap.size w w1) := (by obtain ⟨k, os, rfl⟩ := hb; exact grow_below w k os); clear hb)
  go_ret2
  exact ⟨rfl, B1.out⟩
def digS (n : Nat) : ByteArray := ⟨#[UInt8.ofNat (48 + n % 10)]⟩
theorem digit_str (n : Nat) (w : World) : (convert 31 9 (.slice (some ⟨w.heap.size, 0, none⟩) 1 1)).run Tryd.prog (w.alloc (.cells #[.int .u8 (48 + (n : Int) % 10)] 5)) = .ok (.string (digS n)) (w.alloc (.cells #[.int .u8 (48 + (n : Int) % 10)] 5)) := by
  refine run_convert_bytes_back (w.alloc (.cells #[.int .u8 (48 + (n : Int) % 10)] 5)) 31 9 5 ⟨w.heap.size, 0, none⟩ 1 [UInt8.ofNat (48 + n % 10)] Tryd.underlying31 Tryd.underlying5 Tryd.underlying9 (fun j hj => ?_)
  obtain rfl : j = 0 := by simpa using hj
  rw [show (⟨w.heap.size, 0, none⟩ : Addr).add 0 = ⟨w.heap.size, 0, none⟩ from rfl]
  have hb := heap_alloc_at w (.cells #[.int .u8 (48 + (n : Int) % 10)] 5)
  rw [cell_of_row _ _ _ _ _ _ hb]
  have h10 : 48 + n % 10 < 256 := by omega
  simp only [List.getElem_cons_zero, UInt8.toNat_ofNat']
  rw [Nat.mod_eq_of_lt (by omega)]
  simp
end Go.Proofs.YtlheoipengndnabDoor
