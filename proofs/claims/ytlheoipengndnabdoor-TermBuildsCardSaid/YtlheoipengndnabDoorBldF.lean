/- term: Child, Join; the document's Tuple. -/
import Derived.Test.YtlheoipengndnabDoorBldE
namespace Go.Proofs.YtlheoipengndnabDoor
set_option linter.unusedVariables false
open Go.RowKit
set_option maxRecDepth 100000 in
set_option maxHeartbeats 2000000 in
theorem child_any (a b : ByteArray) (w : World) (ha : a.size ≤ maxLen) (hb : b.size ≤ maxLen) (hL : LibOk w) : Calls Tryd.prog 13 #[.string a, .string b] w fun e w' => e = .returned (buildV ⟨#[68]⟩ [a, b]) ∧ Below w.heap.size w w' := by
  have HB := Lib.hid (build_any ⟨#[68]⟩ (some ⟨w.heap.size, 0, none⟩) [a, b] 2 2 (w.alloc (.cells #[.string a, .string b] 22)) rfl (by omega) (by rw [size1]; omega) (by intro v hv; simp at hv; rcases hv with rfl | rfl <;> assumption) (strs_two a b w) (hL.below ((Below.refl _ _).alloc (Nat.le_refl _) _)))
  obtain ⟨s, n, hs⟩ := buildV_tuple ⟨#[68]⟩ [a, b]
  rw [hs] at HB ⊢
  clear hs hL ha hb
  go_enter Tryd.func13, Tryd.ntmps13
  go_wp2_with (go_at_call 32; (with_reducible refine Calls.mono HB.out ?_); rintro e w2 ⟨rfl, hb⟩; have B2 : Hid (Below w.heap.size w w2) := ((Below.refl _ _).alloc (Nat.le_refl _) _).trans (hb.mono (by simp)); clear hb)
  go_ret2
  exact ⟨rfl, B2.out⟩
set_option maxRecDepth 100000 in
set_option maxHeartbeats 2000000 in
theorem join_any (a b : ByteArray) (w : World) (ha : a.size ≤ maxLen) (hb : b.size ≤ maxLen) (hL : LibOk w) : Calls Tryd.prog 8 #[.string a, .string b] w fun e w' => e = .returned (buildV ⟨#[86]⟩ [a, b]) ∧ Below w.heap.size w w' := by
  have HB := Lib.hid (build_any ⟨#[86]⟩ (some ⟨w.heap.size, 0, none⟩) [a, b] 2 2 (w.alloc (.cells #[.string a, .string b] 22)) rfl (by omega) (by rw [size1]; omega) (by intro v hv; simp at hv; rcases hv with rfl | rfl <;> assumption) (strs_two a b w) (hL.below ((Below.refl _ _).alloc (Nat.le_refl _) _)))
  obtain ⟨s, n, hs⟩ := buildV_tuple ⟨#[86]⟩ [a, b]
  rw [hs] at HB ⊢
  clear hs hL ha hb
  go_enter Tryd.func8, Tryd.ntmps8
  go_wp2_with (go_at_call 32; (with_reducible refine Calls.mono HB.out ?_); rintro e w2 ⟨rfl, hb⟩; have B2 : Hid (Below w.heap.size w w2) := ((Below.refl _ _).alloc (Nat.le_refl _) _).trans (hb.mono (by simp)); clear hb)
  go_ret2
  exact ⟨rfl, B2.out⟩
theorem madeV_any (t : ByteArray) (w : World) (hm : t.size ≤ maxLen) : Calls Tryd.prog 36 #[.string t] w fun e w' => e = .returned (wholeV t) ∧ Below w.heap.size w w' := made_any t w hm
theorem buildL_nil (t : ByteArray) : (⟨(buildL t []).toArray⟩ : ByteArray) = t := by
  apply ByteArray.ext; simp [buildL]
theorem cat_buildL (head : ByteArray) (vs : List ByteArray) (j : Nat) (s : ByteArray) (hs : vs[j]? = some s) : (⟨(buildL head (vs.take j)).toArray⟩ : ByteArray) ++ s = ⟨(buildL head (vs.take (j + 1))).toArray⟩ := by
  rw [buildL_take head vs j s hs, mk_append]
end Go.Proofs.YtlheoipengndnabDoor
