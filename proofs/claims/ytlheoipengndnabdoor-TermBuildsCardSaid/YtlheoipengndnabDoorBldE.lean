/- term: Sign, Box, Tuple. -/
import Derived.Test.YtlheoipengndnabDoorBldD
namespace Go.Proofs.YtlheoipengndnabDoor
set_option linter.unusedVariables false
open Go.RowKit
theorem strs_two (a b : ByteArray) (w : World) : StrsAt (some ⟨w.heap.size, 0, none⟩) [a, b] (w.alloc (.cells #[.string a, .string b] 22)) := by
  refine .inr ⟨w.heap.size, 0, rfl, fun k s hk => ?_⟩
  have hb := heap_alloc_at w (.cells #[.string a, .string b] 22)
  rw [cell_of_row _ _ _ _ _ _ hb, Nat.zero_add]
  match k, hk with
  | 0, hk => cases hk; rfl
  | 1, hk => cases hk; rfl
theorem buildV_tuple (head : ByteArray) (vs : List ByteArray) : ∃ s n, buildV head vs = .tuple #[.string s, .int .i64 n] := by
  unfold buildV wholeV
  split
  · split <;> exact ⟨_, _, rfl⟩
  · exact ⟨_, _, rfl⟩
set_option maxRecDepth 100000 in
set_option maxHeartbeats 2000000 in
theorem sign_any (a b : ByteArray) (w : World) (ha : a.size ≤ maxLen) (hb : b.size ≤ maxLen) (hL : LibOk w) : Calls Tryd.prog 14 #[.string a, .string b] w fun e w' => e = .returned (buildV ⟨#[83]⟩ [a, b]) ∧ Below w.heap.size w w' := by
  have HB := Lib.hid (build_any ⟨#[83]⟩ (some ⟨w.heap.size, 0, none⟩) [a, b] 2 2 (w.alloc (.cells #[.string a, .string b] 22)) rfl (by omega) (by rw [size1]; omega) (by intro v hv; simp at hv; rcases hv with rfl | rfl <;> assumption) (strs_two a b w) (hL.below ((Below.refl _ _).alloc (Nat.le_refl _) _)))
  obtain ⟨s, n, hs⟩ := buildV_tuple ⟨#[83]⟩ [a, b]
  rw [hs] at HB ⊢
  clear hs hL ha hb
  go_enter Tryd.func14, Tryd.ntmps14
  go_wp2_with (go_at_call 32; (with_reducible refine Calls.mono HB.out ?_); rintro e w2 ⟨rfl, hb⟩; have B2 : Hid (Below w.heap.size w w2) := ((Below.refl _ _).alloc (Nat.le_refl _) _).trans (hb.mono (by simp)); clear hb)
  go_ret2
  exact ⟨rfl, B2.out⟩
set_option maxRecDepth 100000 in
set_option maxHeartbeats 2000000 in
theorem box_any (a b : ByteArray) (w : World) (ha : a.size ≤ maxLen) (hb : b.size ≤ maxLen) (hL : LibOk w) : Calls Tryd.prog 15 #[.string a, .string b] w fun e w' => e = .returned (buildV ⟨#[66]⟩ [a, b]) ∧ Below w.heap.size w w' := by
  have HB := Lib.hid (build_any ⟨#[66]⟩ (some ⟨w.heap.size, 0, none⟩) [a, b] 2 2 (w.alloc (.cells #[.string a, .string b] 22)) rfl (by omega) (by rw [size1]; omega) (by intro v hv; simp at hv; rcases hv with rfl | rfl <;> assumption) (strs_two a b w) (hL.below ((Below.refl _ _).alloc (Nat.le_refl _) _)))
  obtain ⟨s, n, hs⟩ := buildV_tuple ⟨#[66]⟩ [a, b]
  rw [hs] at HB ⊢
  clear hs hL ha hb
  go_enter Tryd.func15, Tryd.ntmps15
  go_wp2_with (go_at_call 32; (with_reducible refine Calls.mono HB.out ?_); rintro e w2 ⟨rfl, hb⟩; have B2 : Hid (Below w.heap.size w w2) := ((Below.refl _ _).alloc (Nat.le_refl _) _).trans (hb.mono (by simp)); clear hb)
  go_ret2
  exact ⟨rfl, B2.out⟩
/-- what Tuple makes -/
def headS (n : Nat) : ByteArray := ⟨#[84]⟩ ++ ⟨(Lib.itoa (n : Int)).toArray⟩ ++ ⟨#[58]⟩
def tupleV (vs : List ByteArray) : Value := if 32 < vs.length then .tuple #[.string ⟨#[]⟩, .int .i64 3] else buildV (headS vs.length) vs
theorem headS_size (n : Nat) (h : n ≤ 1000) : (headS n).size ≤ 23 := by
  have := itoa_size (n : Int) (by omega) (by omega)
  unfold headS
  rw [ByteArray.size_append, ByteArray.size_append, size1, size1]; omega
end Go.Proofs.YtlheoipengndnabDoor
