/- term: Sign, Box, Tuple. -/
import Derived.Test.YtlheoipengndnaaDoorBldD
namespace Go.Proofs.YtlheoipengndnaaDoor
set_option linter.unusedVariables false
open Go.RowKit
theorem strs_two (a b : ByteArray) (w : World) : StrsAt (some ⟨w.heap.size, 0, none⟩) [a, b] (w.alloc (.cells #[.string a, .string b] 22)) := by
  refine .inr ⟨w.heap.size, 0, rfl, fun k s hk => ?_⟩
  have hb := heap_alloc_at w (.cells #[.string a, .string b] 22)
  rw [cell_of_row _ _ _ _ _ _ hb, Nat.zero_add]
  match k, hk with
  | 0, hk => cases hk; rfl
  | 1, hk => cases hk; rfl
theorem buildV_tuple (head : ByteArray) (vs : List ByteArray) : ∃ s n, buildV head vs = .tuple #[.string s, .int .i64 n] := by
  unfold buildV wholeV
  split
  · split <;> exact ⟨_, _, rfl⟩
  · exact ⟨_, _, rfl⟩
set_option maxRecDepth 100000 in
set_option maxHeartbeats 2000000 in
theorem sign_any (a b : ByteArray) (w : World) (ha : a.size ≤ maxLen) (hb : b.size ≤ maxLen) (hL : LibOk w) : Calls Tryd.prog 22 #[.string a, .string b] w fun e w' => e = .returned (buildV ⟨#[83]⟩ [a, b]) ∧ Below w.heap.size w w' := by
  have HB := Lib.hid (build_any ⟨#[83]⟩ (some ⟨w.heap.size, 0, none⟩) [a, b] 2 2 (w.alloc (.cells #[.string a, .string b] 22)) rfl (by omega) (by rw [size1]; omega) (by intro v hv; simp at hv; rcases hv with rfl | rfl <;> assumption) (strs_two a b w) (hL.below ((Below.refl _ _).alloc (Nat.le_refl _) _)))
  obtain ⟨s, n, hs⟩ := buildV_tuple ⟨#[83]⟩ [a, b]
  rw [hs] at HB ⊢
  clear hs hL ha hb
  go_enter Tryd.func22, Tryd.ntmps22
  go_wp2_with (go_at_call 39; (with_reducible refine Calls.mono HB.out ?_); rintro e w2 ⟨rfl, hb⟩; have B2 : Hid (Below w.heap.size w w2) := ((Below.refl _ _).alloc (Nat.le_refl _) _).trans (hb.mono (by simp)); clear hb)
  go_ret2
  exact ⟨rfl, B2.out⟩
set_option maxRecDepth 100000 in
set_option maxHeartbeats 2000000 in
theorem box_any (a b : ByteArray) (w : World) (ha : a.size ≤ maxLen) (hb : b.size ≤ maxLen) (hL : LibOk w) : Calls Tryd.prog 23 #[.string a, .string b] w fun e w' => e = .returned (buildV ⟨#[66]⟩ [a, b]) ∧ Below w.heap.size w w' := by
  have HB := Lib.hid (build_any ⟨#[66]⟩ (some ⟨w.heap.size, 0, none⟩) [a, b] 2 2 (w.alloc (.cells #[.string a, .string b] 22)) rfl (by omega) (by rw [size1]; omega) (by intro v hv; simp at hv; rcases hv with rfl | rfl <;> assumption) (strs_two a b w) (hL.below ((Below.refl _ _).alloc (Nat.le_refl _) _)))
  obtain ⟨s, n, hs⟩ := buildV_tuple ⟨#[66]⟩ [a, b]
  rw [hs] at HB ⊢
  clear hs hL ha hb
  go_enter Tryd.func23, Tryd.ntmps23
  go_wp2_with (go_at_call 39; (with_reducible refine Calls.mono HB.out ?_); rintro e w2 ⟨rfl, hb⟩; have B2 : Hid (Below w.heap.size w w2) := ((Below.refl _ _).alloc (Nat.le_refl _) _).trans (hb.mono (by simp)); clear hb)
  go_ret2
  exact ⟨rfl, B2.out⟩
/-- what Tuple makes -/
def headS (n : Nat) : ByteArray := ⟨#[84]⟩ ++ ⟨(Lib.itoa (n : Int)).toArray⟩ ++ ⟨#[58]⟩
def tupleV (vs : List ByteArray) : Value := if 32 < vs.length then .tuple #[.string ⟨#[]⟩, .int .i64 3] else buildV (headS vs.length) vs
theorem headS_size (n : Nat) (h : n ≤ 1000) : (headS n).size ≤ 23 := by
  have := itoa_size (n : Int) (by omega) (by omega)
  unfold headS
  rw [ByteArray.size_append, ByteArray.size_append, size1, size1]; omega
set_option maxRecDepth 100000 in
set_option maxHeartbeats 2000000 in
theorem tuple_big (o : Option Addr) (n c : Nat) (w : World) (h : 32 < n) : Calls Tryd.prog 29 #[.slice o n c] w fun e w' => e = .returned (.tuple #[.string ⟨#[]⟩, .int .i64 3]) ∧ Below w.heap.size w w' := by
  have hi : (32 : Int) < (n : Int) := by omega
  go_enter Tryd.func29, Tryd.ntmps29
  go_wp2
  go_ret2
  exact ⟨rfl, Below.refl _ _⟩
set_option maxRecDepth 100000 in
set_option maxHeartbeats 2000000 in
theorem tuple_small (o : Option Addr) (vs : List ByteArray) (n c : Nat) (w : World) (hn : vs.length = n) (h : n ≤ 32) (hv : ∀ v ∈ vs, v.size ≤ maxLen) (hS : StrsAt o vs w) (hL : LibOk w) (hT : Tab w) : Calls Tryd.prog 29 #[.slice o n c] w fun e w' => e = .returned (buildV (headS n) vs) ∧ Below w.heap.size w w' := by
  have hi : ¬ (32 : Int) < (n : Int) := by omega
  have hh := headS_size n (by omega)
  have HR := Lib.hid (Tryd.strconv_Itoa (n : Int) (by omega) (by omega) w hT)
  have HB : Hid (∀ W, Below w.heap.size w W → Calls Tryd.prog 39 #[.string (headS n), .slice o n c] W fun e w' => e = .returned (buildV (headS n) vs) ∧ Below W.heap.size W w') := fun W hW => build_any (headS n) o vs n c W hn (by omega) (by omega) hv (hS.below hW) (hL.below hW)
  obtain ⟨s, k, hs⟩ := buildV_tuple (headS n) vs
  rw [hs] at HB ⊢
  have hz := itoa_size (n : Int) (by omega) (by omega)
  unfold headS at HB
  generalize (⟨(Lib.itoa (n : Int)).toArray⟩ : ByteArray) = u at HR hz HB
  have c1 := cat_any ⟨#[84]⟩ u (by rw [size1]; omega)
  have c2 := cat_any (⟨#[84]⟩ ++ u) ⟨#[58]⟩ (by rw [ByteArray.size_append, size1, size1]; omega)
  clear hz hs hL hS hv hn hh hT
  go_enter Tryd.func29, Tryd.ntmps29
  go_wp2_with (first
    | (go_at_call 43; (with_reducible refine Calls.mono HR.out ?_); rintro e w1 ⟨rfl, hb⟩; have B1 : Hid (Below w.heap.size w w1) := (by obtain ⟨k, os, rfl⟩ := hb; exact grow_below w k os); clear hb; have HB1 := Lib.hid (HB.out w1 B1.out))
    | (go_at_call 39; (with_reducible refine Calls.mono HB1.out ?_); rintro e w2 ⟨rfl, hb⟩; have B2 : Hid (Below w.heap.size w w2) := B1.out.trans (hb.mono B1.out.size); clear hb))
  go_ret2
  exact ⟨rfl, B2.out⟩
theorem tuple_any (o : Option Addr) (vs : List ByteArray) (n c : Nat) (w : World) (hn : vs.length = n) (hv : ∀ v ∈ vs, v.size ≤ maxLen) (hS : StrsAt o vs w) (hL : LibOk w) (hT : Tab w) : Calls Tryd.prog 29 #[.slice o n c] w fun e w' => e = .returned (tupleV vs) ∧ Below w.heap.size w w' := by
  unfold tupleV
  rw [hn]
  by_cases h : 32 < n
  · rw [if_pos h]; exact tuple_big o n c w h
  · rw [if_neg h]; exact tuple_small o vs n c w hn (by omega) hv hS hL hT
end Go.Proofs.YtlheoipengndnaaDoor
