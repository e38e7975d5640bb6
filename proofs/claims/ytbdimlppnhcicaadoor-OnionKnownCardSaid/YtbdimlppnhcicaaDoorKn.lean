/- onion: OnionKnown, walked -/
import Derived.Test.YtbdimlppnhcicaaDoorRouK
import Derived.Test.YtbdimlppnhcicaaDoorOnZ
namespace Go.Proofs.YtbdimlppnhcicaaDoor
set_option linter.unusedVariables false
open Go.RowKit
/-! onion: the examples' parts -/
theorem hops_new (w : World) : Calls Tryd.prog 30 #[] w fun e w' => e = .returned (.slice (some ⟨w.heap.size, 0, none⟩) 2 2) ∧ w' = w.alloc (.cells #[.string ⟨#[99, 48]⟩, .string ⟨#[80, 110, 49, 49, 59]⟩, .int .i64 1010, .int .i64 50, .string ⟨#[99, 49]⟩, .string ⟨#[80, 110, 49, 50, 59]⟩, .int .i64 1000, .int .i64 40] 33) := by
  go_enter Tryd.func30, Tryd.ntmps30
  go_wp2_with fail
  go_ret
  exact ⟨rfl, rfl⟩
/-! odd -/
def oddL : List ByteArray := [⟨#[84, 50, 58, 84, 52, 58, 116, 48, 58, 116, 52, 58, 49, 48, 48, 48, 116, 50, 58, 52, 48, 72, 110, 57, 59, 84, 49, 58, 110, 49, 59]⟩, ⟨#[84, 50, 58, 84, 52, 58, 116, 50, 58, 99, 49, 116, 52, 58, 49, 48, 48, 48, 116, 50, 58, 52, 48, 72, 110, 57, 59, 84, 48, 58]⟩, ⟨#[84, 50, 58, 84, 52, 58, 116, 50, 58, 99, 49, 116, 53, 58, 48, 49, 48, 48, 48, 116, 50, 58, 52, 48, 84, 48, 58, 84, 48, 58]⟩, ⟨#[84, 50, 58, 84, 52, 58, 116, 50, 58, 99, 49, 116, 48, 58, 116, 50, 58, 52, 48, 84, 48, 58, 84, 48, 58]⟩, ⟨#[84, 50, 58, 84, 52, 58, 116, 50, 58, 99, 49, 116, 52, 58, 49, 48, 48, 48, 116, 49, 48, 58, 50, 49, 52, 55, 52, 56, 51, 54, 52, 56, 84, 48, 58, 84, 48, 58]⟩, ⟨#[84, 50, 58, 84, 51, 58, 116, 50, 58, 99, 49, 116, 52, 58, 49, 48, 48, 48, 116, 50, 58, 52, 48, 84, 48, 58]⟩, ⟨#[84, 49, 58, 84, 52, 58, 116, 50, 58, 99, 49, 116, 52, 58, 49, 48, 48, 48, 116, 50, 58, 52, 48, 84, 48, 58]⟩, ⟨#[110, 49, 59]⟩, ⟨#[84, 50, 58, 84, 52, 58, 116, 50, 58, 99, 49, 116, 52, 58, 49, 48, 48, 48, 116, 50, 58, 52, 120, 84, 48, 58, 84, 48, 58]⟩]
def oddP : List UInt8 := [84, 50, 58, 80, 110, 49, 59, 66, 88, 110, 49, 49, 59, 110, 49, 59]
theorem odd_peel : ∀ i, i < 9 → peelE xn11 ⟨(oddP ++ (oddL.getD i e0).data.toList).toArray⟩ none = (220, lay0, e0) := by
  intro i hi
  rcases (by omega : i = 0 ∨ i = 1 ∨ i = 2 ∨ i = 3 ∨ i = 4 ∨ i = 5 ∨ i = 6 ∨ i = 7 ∨ i = 8) with rfl | rfl | rfl | rfl | rfl | rfl | rfl | rfl | rfl <;> kernel_rfl
theorem odd_size : ∀ i, i < 9 → (oddL.getD i e0).size ≤ 100 := by
  intro i hi
  rcases (by omega : i = 0 ∨ i = 1 ∨ i = 2 ∨ i = 3 ∨ i = 4 ∨ i = 5 ∨ i = 6 ∨ i = 7 ∨ i = 8) with rfl | rfl | rfl | rfl | rfl | rfl | rfl | rfl | rfl <;> decide
theorem odd_cat (s : ByteArray) : (⟨#[84, 50, 58, 80, 110, 49, 59, 66, 88, 110, 49, 49, 59, 110, 49, 59]⟩ : ByteArray) ++ s = ⟨(oddP ++ s.data.toList).toArray⟩ := by
  rw [mk_append, ba_back]
  rfl
theorem odd_ok : peelE xn11 ⟨#[84, 50, 58, 80, 110, 49, 59, 66, 88, 110, 49, 49, 59, 110, 49, 59, 84, 50, 58, 84, 52, 58, 116, 50, 58, 99, 49, 116, 49, 58, 48, 116, 49, 58, 48, 84, 48, 58, 110, 55, 59]⟩ none = (0, ⟨⟨#[99, 49]⟩, 0, 0, e0, ⟨#[110, 55, 59]⟩, false⟩, ⟨#[88, 110, 49, 49, 59, 110, 49, 59]⟩) := by kernel_rfl
theorem odd_no : peelE xn11 ⟨#[84, 50, 58, 80, 110, 49, 59, 110, 49, 59]⟩ none = (220, lay0, e0) := by kernel_rfl
theorem odd_bad : peelE ⟨#[110, 49, 49]⟩ xlit none = (10, lay0, e0) := by kernel_rfl
set_option maxRecDepth 100000 in
set_option maxHeartbeats 16000000 in
theorem odd_any (w : World) (hL : LibOk w) (hT : Tab w) : Calls Tryd.prog 35 #[] w fun e w' => e = .returned (.bool true) ∧ Below w.heap.size w w' := by
  have C1 : Hid (∀ i, i < 9 → ∀ W, Below w.heap.size w W → Calls Tryd.prog 18 #[.string ⟨#[110, 49, 49, 59]⟩, .string (⟨#[84, 50, 58, 80, 110, 49, 59, 66, 88, 110, 49, 49, 59, 110, 49, 59]⟩ ++ oddL.getD i e0), .pointer none] W fun e w' => e = .returned (.tuple #[.agg #[.string ⟨#[]⟩, .int .i64 0, .int .i64 0, .string ⟨#[]⟩, .string ⟨#[]⟩, .string ⟨#[]⟩, .bool false], .int .i64 220]) ∧ Below W.heap.size W w') := fun i hi W h => by
    have hp := opeel_nil xn11 (⟨#[84, 50, 58, 80, 110, 49, 59, 66, 88, 110, 49, 49, 59, 110, 49, 59]⟩ ++ oddL.getD i e0) W (by decide) (by rw [ByteArray.size_append]; have := odd_size i hi; show 16 + _ ≤ _; unfold maxLen; omega) (hL.below h) (hT.below h)
    rw [odd_cat, odd_peel i hi] at hp
    rw [odd_cat]
    exact hp
  have C2 : Hid (∀ W, Below w.heap.size w W → Calls Tryd.prog 18 #[.string ⟨#[110, 49, 49, 59]⟩, .string ⟨#[84, 50, 58, 80, 110, 49, 59, 66, 88, 110, 49, 49, 59, 110, 49, 59, 84, 50, 58, 84, 52, 58, 116, 50, 58, 99, 49, 116, 49, 58, 48, 116, 49, 58, 48, 84, 48, 58, 110, 55, 59]⟩, .pointer none] W fun e w' => e = .returned (.tuple #[.agg #[.string ⟨#[99, 49]⟩, .int .i64 0, .int .i64 0, .string ⟨#[]⟩, .string ⟨#[110, 55, 59]⟩, .string ⟨#[88, 110, 49, 49, 59, 110, 49, 59]⟩, .bool false], .int .i64 0]) ∧ Below W.heap.size W w') := fun W h => by
    have hp := opeel_nil xn11 ⟨#[84, 50, 58, 80, 110, 49, 59, 66, 88, 110, 49, 49, 59, 110, 49, 59, 84, 50, 58, 84, 52, 58, 116, 50, 58, 99, 49, 116, 49, 58, 48, 116, 49, 58, 48, 84, 48, 58, 110, 55, 59]⟩ W (by decide) (by decide) (hL.below h) (hT.below h)
    rw [odd_ok] at hp
    exact hp
  have C3 : Hid (∀ W, Below w.heap.size w W → Calls Tryd.prog 18 #[.string ⟨#[110, 49, 49, 59]⟩, .string ⟨#[84, 50, 58, 80, 110, 49, 59, 110, 49, 59]⟩, .pointer none] W fun e w' => e = .returned (.tuple #[.agg #[.string ⟨#[]⟩, .int .i64 0, .int .i64 0, .string ⟨#[]⟩, .string ⟨#[]⟩, .string ⟨#[]⟩, .bool false], .int .i64 220]) ∧ Below W.heap.size W w') := fun W h => by
    have hp := opeel_nil xn11 ⟨#[84, 50, 58, 80, 110, 49, 59, 110, 49, 59]⟩ W (by decide) (by decide) (hL.below h) (hT.below h)
    rw [odd_no] at hp
    exact hp
  have C4 : Hid (∀ W, Below w.heap.size w W → Calls Tryd.prog 18 #[.string ⟨#[110, 49, 49]⟩, .string ⟨#[84, 50, 58, 80, 110, 49, 59, 66, 88, 110, 49, 49, 59, 110, 49, 59, 84, 50, 58, 84, 52, 58, 116, 50, 58, 99, 49, 116, 52, 58, 49, 48, 48, 48, 116, 50, 58, 52, 48, 84, 48, 58, 84, 50, 58, 80, 110, 50, 59, 66, 88, 110, 49, 50, 59, 110, 50, 59, 84, 50, 58, 84, 52, 58, 116, 48, 58, 116, 52, 58, 49, 48, 48, 48, 116, 50, 58, 52, 48, 72, 110, 57, 59, 84, 48, 58]⟩, .pointer none] W fun e w' => e = .returned (.tuple #[.agg #[.string ⟨#[]⟩, .int .i64 0, .int .i64 0, .string ⟨#[]⟩, .string ⟨#[]⟩, .string ⟨#[]⟩, .bool false], .int .i64 10]) ∧ Below W.heap.size W w') := fun W h => by
    have hp := opeel_nil ⟨#[110, 49, 49]⟩ xlit W (by decide) (by rw [← ex_pack]; have := ex_sizes.1; unfold maxLen; omega) (hL.below h) (hT.below h)
    rw [odd_bad] at hp
    exact hp
  clear hL hT
  go_enter Tryd.func35, Tryd.ntmps35
  go_upto_region 2 with fail
  have K1 : Hid ((w.alloc (.cells #[.string ⟨#[84, 50, 58, 84, 52, 58, 116, 48, 58, 116, 52, 58, 49, 48, 48, 48, 116, 50, 58, 52, 48, 72, 110, 57, 59, 84, 49, 58, 110, 49, 59]⟩, .string ⟨#[84, 50, 58, 84, 52, 58, 116, 50, 58, 99, 49, 116, 52, 58, 49, 48, 48, 48, 116, 50, 58, 52, 48, 72, 110, 57, 59, 84, 48, 58]⟩, .string ⟨#[84, 50, 58, 84, 52, 58, 116, 50, 58, 99, 49, 116, 53, 58, 48, 49, 48, 48, 48, 116, 50, 58, 52, 48, 84, 48, 58, 84, 48, 58]⟩, .string ⟨#[84, 50, 58, 84, 52, 58, 116, 50, 58, 99, 49, 116, 48, 58, 116, 50, 58, 52, 48, 84, 48, 58, 84, 48, 58]⟩, .string ⟨#[84, 50, 58, 84, 52, 58, 116, 50, 58, 99, 49, 116, 52, 58, 49, 48, 48, 48, 116, 49, 48, 58, 50, 49, 52, 55, 52, 56, 51, 54, 52, 56, 84, 48, 58, 84, 48, 58]⟩, .string ⟨#[84, 50, 58, 84, 51, 58, 116, 50, 58, 99, 49, 116, 52, 58, 49, 48, 48, 48, 116, 50, 58, 52, 48, 84, 48, 58]⟩, .string ⟨#[84, 49, 58, 84, 52, 58, 116, 50, 58, 99, 49, 116, 52, 58, 49, 48, 48, 48, 116, 50, 58, 52, 48, 84, 48, 58]⟩, .string ⟨#[110, 49, 59]⟩, .string ⟨#[84, 50, 58, 84, 52, 58, 116, 50, 58, 99, 49, 116, 52, 58, 49, 48, 48, 48, 116, 50, 58, 52, 120, 84, 48, 58, 84, 48, 58]⟩] 9)).heap[w.heap.size]? = some (.cells (oddL.map Value.string).toArray 9 (0, 0))) := heap_alloc_at w _
  have B1 := Lib.hid (below_new' w (.cells #[.string ⟨#[84, 50, 58, 84, 52, 58, 116, 48, 58, 116, 52, 58, 49, 48, 48, 48, 116, 50, 58, 52, 48, 72, 110, 57, 59, 84, 49, 58, 110, 49, 59]⟩, .string ⟨#[84, 50, 58, 84, 52, 58, 116, 50, 58, 99, 49, 116, 52, 58, 49, 48, 48, 48, 116, 50, 58, 52, 48, 72, 110, 57, 59, 84, 48, 58]⟩, .string ⟨#[84, 50, 58, 84, 52, 58, 116, 50, 58, 99, 49, 116, 53, 58, 48, 49, 48, 48, 48, 116, 50, 58, 52, 48, 84, 48, 58, 84, 48, 58]⟩, .string ⟨#[84, 50, 58, 84, 52, 58, 116, 50, 58, 99, 49, 116, 48, 58, 116, 50, 58, 52, 48, 84, 48, 58, 84, 48, 58]⟩, .string ⟨#[84, 50, 58, 84, 52, 58, 116, 50, 58, 99, 49, 116, 52, 58, 49, 48, 48, 48, 116, 49, 48, 58, 50, 49, 52, 55, 52, 56, 51, 54, 52, 56, 84, 48, 58, 84, 48, 58]⟩, .string ⟨#[84, 50, 58, 84, 51, 58, 116, 50, 58, 99, 49, 116, 52, 58, 49, 48, 48, 48, 116, 50, 58, 52, 48, 84, 48, 58]⟩, .string ⟨#[84, 49, 58, 84, 52, 58, 116, 50, 58, 99, 49, 116, 52, 58, 49, 48, 48, 48, 116, 50, 58, 52, 48, 84, 48, 58]⟩, .string ⟨#[110, 49, 59]⟩, .string ⟨#[84, 50, 58, 84, 52, 58, 116, 50, 58, 99, 49, 116, 52, 58, 49, 48, 48, 48, 116, 50, 58, 52, 120, 84, 48, 58, 84, 48, 58]⟩] 9))
  generalize w.alloc (.cells #[.string ⟨#[84, 50, 58, 84, 52, 58, 116, 48, 58, 116, 52, 58, 49, 48, 48, 48, 116, 50, 58, 52, 48, 72, 110, 57, 59, 84, 49, 58, 110, 49, 59]⟩, .string ⟨#[84, 50, 58, 84, 52, 58, 116, 50, 58, 99, 49, 116, 52, 58, 49, 48, 48, 48, 116, 50, 58, 52, 48, 72, 110, 57, 59, 84, 48, 58]⟩, .string ⟨#[84, 50, 58, 84, 52, 58, 116, 50, 58, 99, 49, 116, 53, 58, 48, 49, 48, 48, 48, 116, 50, 58, 52, 48, 84, 48, 58, 84, 48, 58]⟩, .string ⟨#[84, 50, 58, 84, 52, 58, 116, 50, 58, 99, 49, 116, 48, 58, 116, 50, 58, 52, 48, 84, 48, 58, 84, 48, 58]⟩, .string ⟨#[84, 50, 58, 84, 52, 58, 116, 50, 58, 99, 49, 116, 52, 58, 49, 48, 48, 48, 116, 49, 48, 58, 50, 49, 52, 55, 52, 56, 51, 54, 52, 56, 84, 48, 58, 84, 48, 58]⟩, .string ⟨#[84, 50, 58, 84, 51, 58, 116, 50, 58, 99, 49, 116, 52, 58, 49, 48, 48, 48, 116, 50, 58, 52, 48, 84, 48, 58]⟩, .string ⟨#[84, 49, 58, 84, 52, 58, 116, 50, 58, 99, 49, 116, 52, 58, 49, 48, 48, 48, 116, 50, 58, 52, 48, 84, 48, 58]⟩, .string ⟨#[110, 49, 59]⟩, .string ⟨#[84, 50, 58, 84, 52, 58, 116, 50, 58, 99, 49, 116, 52, 58, 49, 48, 48, 48, 116, 50, 58, 52, 120, 84, 48, 58, 84, 48, 58]⟩] 9) = w1 at K1 B1 ⊢
  obtain ⟨g, hg⟩ : ∃ g, w.heap.size = g := ⟨_, rfl⟩
  rw [hg] at K1 ⊢
  have HG := Lib.hid hg
  clear hg
  have OC : Hid (∀ i : Nat, i < 9 → ∀ W : World, W.heap[g]? = some (.cells (oddL.map Value.string).toArray 9 (0, 0)) → W.cell? ⟨g, i, none⟩ = some (.string (oddL.getD i e0))) := fun i hi W h => by
    rw [cell_of_row _ _ _ _ _ _ h]
    have hl : i < oddL.length := hi
    simp [List.getD_eq_getElem?_getD, hl]
  go_wp2_with fail
  go_loopw [2] (fun iv wr => ∃ i : Nat, i ≤ 9 ∧ iv = .int .i64 i ∧ Hid (wr.heap[g]? = some (.cells (oddL.map Value.string).toArray 9 (0, 0))) ∧ Hid (Below w.heap.size w wr)) (fun iv _ => 9 - (intOf iv).toNat)
  case atStart => exact ⟨0, by omega, rfl, K1.out, B1.out⟩
  case round =>
    obtain ⟨i, hi, rfl, hK, hB⟩ := hrel
    by_cases hlt : i < 9
    · have c0 := OC.out i hlt wr hK.out
      have C1i := Lib.hid (C1.out i hlt wr hB.out)
      have hcat := cat_any ⟨#[84, 50, 58, 80, 110, 49, 59, 66, 88, 110, 49, 49, 59, 110, 49, 59]⟩ (oddL.getD i e0) (by have := odd_size i hlt; show 16 + _ ≤ _; omega)
      generalize oddL.getD i e0 = si at c0 C1i hcat
      generalize (⟨#[84, 50, 58, 80, 110, 49, 59, 66, 88, 110, 49, 49, 59, 110, 49, 59]⟩ : ByteArray) ++ si = full at C1i hcat
      have hii : (i : Int) < 9 := by omega
      go_wp2_with (go_at_call 18; (with_reducible refine Calls.mono C1i.out ?_); rintro e w2 ⟨rfl, hb⟩; have B2 := Lib.hid (hB.out.trans (hb.mono hB.out.size)); have K2 := Lib.hid ((hb.block _ (lt_of_heap hK.out)).trans hK.out); clear hb)
      have nb := below_new' w2 (.cells #[.string ⟨#[]⟩, .int .i64 0, .int .i64 0, .string ⟨#[]⟩, .string ⟨#[]⟩, .string ⟨#[]⟩, .bool false] 41)
      go_roundw
      case rel => exact ⟨i + 1, by omega, by go_num, (nb.block _ (lt_of_heap K2.out)).trans K2.out, B2.out.trans (nb.mono B2.out.size)⟩
      case measure => simp [intOf]; omega
    · obtain rfl : i = 9 := by omega
      rw [show ((9 : Nat) : Int) = 9 from rfl]
      go_upto_region 9 with (go_at_call 18; (with_reducible refine Calls.mono (C2.out _ hB.out) ?_); rintro e w3 ⟨rfl, hb⟩; have B3 := Lib.hid (hB.out.trans (hb.mono hB.out.size)); clear hb)
      have K4 := Lib.hid (heap_alloc_at w3 (.cells #[.string ⟨#[99, 49]⟩, .int .i64 0, .int .i64 0, .string ⟨#[]⟩, .string ⟨#[110, 55, 59]⟩, .string ⟨#[88, 110, 49, 49, 59, 110, 49, 59]⟩, .bool false] 41))
      have nb := below_new' w3 (.cells #[.string ⟨#[99, 49]⟩, .int .i64 0, .int .i64 0, .string ⟨#[]⟩, .string ⟨#[110, 55, 59]⟩, .string ⟨#[88, 110, 49, 49, 59, 110, 49, 59]⟩, .bool false] 41)
      have B4 := Lib.hid (B3.out.trans (nb.mono B3.out.size))
      clear nb
      generalize w3.alloc (.cells #[.string ⟨#[99, 49]⟩, .int .i64 0, .int .i64 0, .string ⟨#[]⟩, .string ⟨#[110, 55, 59]⟩, .string ⟨#[88, 110, 49, 49, 59, 110, 49, 59]⟩, .bool false] 41) = w4 at K4 B4 ⊢
      generalize w3.heap.size = xb at K4 ⊢
      go_upto_region 10 with (go_at_call 18; (with_reducible refine Calls.mono (C3.out _ B4.out) ?_); rintro e w5 ⟨rfl, hb⟩; have B5 := Lib.hid (B4.out.trans (hb.mono B4.out.size)); have K5 := Lib.hid ((hb.block _ (lt_of_heap K4.out)).trans K4.out); clear hb)
      have nb := below_new' w5 (.cells #[.string ⟨#[]⟩, .int .i64 0, .int .i64 0, .string ⟨#[]⟩, .string ⟨#[]⟩, .string ⟨#[]⟩, .bool false] 41)
      have B6 := Lib.hid (B5.out.trans (nb.mono B5.out.size))
      have K6 := Lib.hid ((nb.block _ (lt_of_heap K5.out)).trans K5.out)
      clear nb
      generalize w5.alloc (.cells #[.string ⟨#[]⟩, .int .i64 0, .int .i64 0, .string ⟨#[]⟩, .string ⟨#[]⟩, .string ⟨#[]⟩, .bool false] 41) = w6 at K6 B6 ⊢
      generalize w5.heap.size = yb
      go_upto_region 11 with (go_at_call 18; (with_reducible refine Calls.mono (C4.out _ B6.out) ?_); rintro e w7 ⟨rfl, hb⟩; have B7 := Lib.hid (B6.out.trans (hb.mono B6.out.size)); have K7 := Lib.hid ((hb.block _ (lt_of_heap K6.out)).trans K6.out); clear hb)
      have nb := below_new' w7 (.cells #[.string ⟨#[]⟩, .int .i64 0, .int .i64 0, .string ⟨#[]⟩, .string ⟨#[]⟩, .string ⟨#[]⟩, .bool false] 41)
      have B8 := Lib.hid (B7.out.trans (nb.mono B7.out.size))
      have K8 := Lib.hid ((nb.block _ (lt_of_heap K7.out)).trans K7.out)
      clear nb
      generalize w7.alloc (.cells #[.string ⟨#[]⟩, .int .i64 0, .int .i64 0, .string ⟨#[]⟩, .string ⟨#[]⟩, .string ⟨#[]⟩, .bool false] 41) = w8 at K8 B8 ⊢
      generalize w7.heap.size = zb
      obtain ⟨D0, D1, D2, D3, D4, D5, D6⟩ := seven_all K8.out
      go_wp2_with fail
      go_ret
      exact ⟨rfl, B8.out⟩
/-! onion: a memory that is full -/
theorem name_inj {a b : Nat} (ha : a ≤ 9223372036854775807) (hb : b ≤ 9223372036854775807) (h : nameS (a : Int) = nameS (b : Int)) : a = b := by
  have h1 := name_op4 a ha
  rw [h, name_op4 b hb] at h1
  exact (congrArg Op4.n h1).symm
def fullL (i : Nat) : List ByteArray := (List.range i).map (fun j : Nat => keyS (nameS (j : Int)))
theorem fullL_len (i : Nat) : (fullL i).length = i := by unfold fullL; rw [List.length_map, List.length_range]
theorem fullL_succ (i : Nat) : fullL (i + 1) = fullL i ++ [keyS (nameS (i : Int))] := by unfold fullL; rw [List.range_succ, List.map_append]; rfl
theorem fullL_new {i : Nat} (hi : i ≤ 10000) : ∀ m, m ≤ i → memHas (some (fullL m)) (keyS (nameS (i : Int))) = false := by
  intro m hm
  unfold memHas
  rw [decide_eq_false_iff_not]
  intro h
  obtain ⟨j, hj, e⟩ := List.mem_map.1 h
  have hj2 := List.mem_range.1 hj
  have e2 := keyS_inj (name_rt j (by omega)).1.r (name_rt i (by omega)).1.r e
  have := name_inj (by omega) (by omega) e2
  omega
theorem key11 : hop1.node = keyS (nameS ((11 : Nat) : Int)) := by kernel_rfl
theorem hop1_ok : HpOk hop1 := ⟨by decide, by decide, by decide, by decide, by decide⟩
theorem full_build (v : Nat) (hv : v ≤ 10000) : ∃ P X, buildR [nameS (v : Int)] [hop1] hn9 = (P, [agS (nameS (v : Int)) (nameS ((11 : Nat) : Int))], 0) ∧ StepP 11 v P (agS (nameS (v : Int)) (nameS ((11 : Nat) : Int))) X ∧ P.size ≤ 16384 := by
  obtain ⟨P, e1, e2, e3⟩ := rnd_step (drawn := [nameS (v : Int)]) (hs := [hop1]) (pay := hn9) (p := t0) (i := 0) (c := 11) (v := v) (m := 3) (d := 3) (by omega) (by omega) rfl key11 hop1_ok (Nat.zero_le _) hn9_rt (t0_rt.mono (Nat.le_refl _) (by omega)) (by omega) (by omega) (by omega) (fun _ => rfl) (fun h => absurd rfl h)
  refine ⟨P, _, ?_, e3, by have := e2.s; omega⟩
  have hE : hopsE [nameS (v : Int)] [hop1] = 0 := by
    have h0 : hopAt [nameS (v : Int)] [hop1] 0 = 0 := by
      show hopE hop1 true (nameS (v : Int)) = 0
      unfold hopE
      rw [if_neg, if_neg, if_neg]
      · rw [name_op4 v (by omega), key11, (key_rt 11 (by omega)).2.2.2]
        rintro (h | h | h | h)
        · cases h
        · exact absurd (show (110 : Nat) = _ from h) (by decide)
        · exact absurd (show (110 : Nat) = _ from h) (by decide)
        · exact h rfl
      · decide
      · rintro (h | ⟨_, h⟩ | h | h)
        · exact absurd h (by decide)
        · cases h
        · exact absurd h (by decide)
        · exact absurd h (by decide)
    show hopsF [nameS (v : Int)] [hop1] 1 0 = 0
    refine hopsF_no _ _ fun k h1 h2 => ?_
    obtain rfl : k = 0 := by omega
    exact h0
  unfold buildR
  rw [hE, if_neg (by simp), if_neg (by decide), if_neg (by rw [hn9_rt.r]; decide)]
  have hx := goB_next (drawn := [nameS (v : Int)]) (hs := [hop1]) (pay := hn9) (k := 0) (p := t0) (ks := []) rfl (by show (rnd [nameS (v : Int)] [hop1] hn9 0 t0).bad = false; rw [e1])
  have hx2 : goB [nameS (v : Int)] [hop1] hn9 1 = some ((rnd [nameS (v : Int)] [hop1] hn9 0 t0).packet, [(rnd [nameS (v : Int)] [hop1] hn9 0 t0).key]) := hx
  rw [e1] at hx2
  show (match goB [nameS (v : Int)] [hop1] hn9 1 with | none => _ | some (p, ks) => _) = _
  rw [hx2]
theorem HopsAt.one {g : Nat} {w : World} (h : HopsAt (some ⟨g, 0, none⟩) [hop1, hop2] w) : HopsAt (some ⟨g, 0, none⟩) [hop1] w := by
  obtain ⟨b, off, e, h2⟩ := h.resolve_left (by simp)
  exact .inr ⟨b, off, e, fun k x hk => h2 k x (by
    have hk0 : k < 1 := (List.getElem?_eq_some_iff.1 hk).1
    obtain rfl : k = 0 := by omega
    exact hk)⟩
/-- the examples' hops, in new memory -/
theorem hops_fresh (w : World) : Calls Tryd.prog 30 #[] w fun e w' => ∃ g, e = .returned (.slice (some ⟨g, 0, none⟩) 2 2) ∧ w.heap.size ≤ g ∧ w'.heap[g]? = some (.cells #[.string ⟨#[99, 48]⟩, .string ⟨#[80, 110, 49, 49, 59]⟩, .int .i64 1010, .int .i64 50, .string ⟨#[99, 49]⟩, .string ⟨#[80, 110, 49, 50, 59]⟩, .int .i64 1000, .int .i64 40] 33 (0, 0)) ∧ Below w.heap.size w w' :=
  (hops_new w).mono fun e w' ⟨h1, h2⟩ => by
    subst h2
    exact ⟨w.heap.size, h1, Nat.le_refl _, heap_alloc_at w _, below_new' w _⟩
set_option maxRecDepth 100000 in
set_option maxHeartbeats 16000000 in
theorem full_any (w : World) (hL : LibOk w) (hT : Tab w) : Calls Tryd.prog 36 #[] w fun e w' => e = .returned (.bool true) ∧ Below w.heap.size w w' := by
  have HL := Lib.hid hL
  have HT := Lib.hid hT
  clear hL hT
  go_enter Tryd.func36, Tryd.ntmps36
  go_upto_region 2 with (go_at_call 17; (with_reducible refine Calls.mono (seen_new _) ?_); rintro e w1 ⟨sb, mm, rfl, hs, hb⟩; have B1 := Lib.hid hb; have S1 : Hid (SeenAt w1 w.heap.size sb mm (fullL 0)) := hs; clear hb hs)
  go_wp2_with fail
  go_loopw [2] (fun iv wr => ∃ i : Nat, i ≤ 4097 ∧ iv = .int .i64 i ∧ Hid (SeenAt wr w.heap.size sb mm (fullL (min i 4096))) ∧ Hid (Below w.heap.size w wr)) (fun iv _ => 4097 - (intOf iv).toNat)
  case atStart => exact ⟨0, by omega, rfl, S1.out, B1.out⟩
  case round =>
    obtain ⟨i, hi, rfl, hS, hB⟩ := hrel
    by_cases hlt : i ≤ 4096
    · have HN : Hid (∀ W, Below w.heap.size w W → Calls Tryd.prog 24 #[.int .i64 (i : Int)] W fun e w' => e = .returned (.tuple #[.string (nameS (i : Int)), .int .i64 0]) ∧ Below W.heap.size W w') := fun W h => oname i W (by omega) (HT.out.below h)
      obtain ⟨P, X, hb1, hst, hps⟩ := full_build i (by omega)
      have hns := (name_rt i (by omega)).1.s
      have HBd : Hid (∀ (W : World) (g gh c : Nat), StrsAt (some ⟨g, 0, none⟩) [nameS (i : Int)] W → HopsAt (some ⟨gh, 0, none⟩) [hop1] W → Below w.heap.size w W → Calls Tryd.prog 14 #[.slice (some ⟨g, 0, none⟩) 1 1, .slice (some ⟨gh, 0, none⟩) 1 c, .string ⟨#[72, 110, 57, 59]⟩] W fun e w' => Below W.heap.size W w' ∧ ∃ v, e = .returned (.tuple #[.string P, v, .int .i64 0])) := fun W g gh c h1 h2 h3 => by
        have h := obuild_any (some ⟨g, 0, none⟩) [nameS (i : Int)] 1 (some ⟨gh, 0, none⟩) [hop1] c hn9 W (by simp) (by simp) h1 (by intro d hd; simp at hd; subst hd; unfold maxLen; omega) h2 (by decide) (HL.out.below h3) (HT.out.below h3)
        rw [hb1] at h
        exact h.mono fun e w' ⟨a1, v, a2, _⟩ => ⟨a1, v, a2⟩
      have HPl : Hid (∀ W, SeenAt W w.heap.size sb mm (fullL (min i 4096)) → Below w.heap.size w W → Calls Tryd.prog 18 #[.string ⟨#[110, 49, 49, 59]⟩, .string P, .pointer (some ⟨sb, 0, none⟩)] W fun e w' => ∃ c1 a1 x1 p1 i1 s1 l1, e = .returned (.tuple #[.agg #[.string c1, .int .i64 a1, .int .i64 x1, .string p1, .string i1, .string s1, .bool l1], .int .i64 (if i < 4096 then 0 else 3)]) ∧ SeenAt w' w.heap.size sb mm (fullL (min (i + 1) 4096)) ∧ Below w.heap.size w w') := fun W h1 h2 => by
        have hx11 : (⟨#[110, 49, 49, 59]⟩ : ByteArray) = nameS ((11 : Nat) : Int) := by kernel_rfl
        have h := opeel_mem (nameS ((11 : Nat) : Int)) P W w.heap.size sb mm (fullL (min i 4096)) h1 h2.size (by rw [fullL_len]; omega) (by have := (name_rt 11 (by omega)).1.s; unfold maxLen; omega) (by unfold maxLen; omega) (HL.out.below h2) (HT.out.below h2)
        rw [← hx11] at h
        have hp := hst.peel (some (fullL (min i 4096)))
        rw [← hx11] at hp
        rw [if_neg (by rw [fullL_new (by omega) _ (Nat.min_le_left _ _)]; decide)] at hp
        have hmf : memFull (some (fullL (min i 4096))) = decide (4096 ≤ min i 4096) := by show decide (4096 ≤ (fullL (min i 4096)).length) = _; rw [fullL_len]
        rw [hmf] at hp
        have hbl : ∀ w', Fr (fun b => b = mm) W w' → Below w.heap.size w w' := fun w' h3 => ⟨h3.os.trans h2.os, h3.tape.trans h2.tape, h3.output.trans h2.output, Nat.le_trans h2.size h3.size, fun k hk => (h3.block k (Nat.lt_of_lt_of_le hk h2.size) (fun e => by have := h1.h2; omega)).trans (h2.block k hk)⟩
        by_cases h4 : i < 4096
        · rw [if_neg (by rw [decide_eq_false (by omega)]; decide)] at hp
          have hm : peelM ⟨#[110, 49, 49, 59]⟩ P (fullL (min i 4096)) = fullL (min (i + 1) 4096) := by
            unfold peelM
            rw [hp, if_pos rfl, hst.fk, show min i 4096 = i by omega, show min (i + 1) 4096 = i + 1 by omega, fullL_succ]
          rw [hp, hm] at h
          exact h.mono fun e w' ⟨a1, a2, a3⟩ => ⟨X.chan, X.amt, X.exp, X.pay, X.inner, agS (nameS (i : Int)) ⟨#[110, 49, 49, 59]⟩, X.last, by rw [a1, if_pos h4]; rfl, a3, hbl w' a2⟩
        · rw [if_pos (by rw [decide_eq_true (by omega)])] at hp
          have hm : peelM ⟨#[110, 49, 49, 59]⟩ P (fullL (min i 4096)) = fullL (min (i + 1) 4096) := by
            unfold peelM
            rw [hp, if_neg (by decide), show min i 4096 = 4096 by omega, show min (i + 1) 4096 = 4096 by omega]
          rw [hp, hm] at h
          exact h.mono fun e w' ⟨a1, a2, a3⟩ => ⟨⟨#[]⟩, 0, 0, ⟨#[]⟩, ⟨#[]⟩, ⟨#[]⟩, false, by rw [a1, if_neg h4]; rfl, a3, hbl w' a2⟩
      generalize nameS (i : Int) = nm at HN HBd
      clear hb1 hst hps hns
      have hii : (i : Int) ≤ 4096 := by omega
      go_upto_region 6 with (go_at_call 24; (with_reducible refine Calls.mono (HN.out _ hB.out) ?_); rintro e w2 ⟨rfl, hb⟩; have B2 := Lib.hid (hB.out.trans (hb.mono hB.out.size)); have S2 := Lib.hid (hS.out.below hb); clear hb)
      have b3 := below_new' w2 (.cells #[.string nm] 24)
      have hs3 : Hid (StrsAt (some ⟨w2.heap.size, 0, none⟩) [nm] (w2.alloc (.cells #[.string nm] 24))) := .inr ⟨w2.heap.size, 0, rfl, fun k s hk => by
        have hk0 : k < 1 := (List.getElem?_eq_some_iff.1 hk).1
        obtain rfl : k = 0 := by omega
        cases hk
        rw [cell_of_row _ _ _ _ _ _ (heap_alloc_at w2 _)]; rfl⟩
      have B3 := Lib.hid (B2.out.trans (b3.mono B2.out.size))
      have S3 := Lib.hid (S2.out.below b3)
      clear b3
      go_upto_region 7 with (first
        | (go_at_call 30; (with_reducible refine Calls.mono (hops_fresh _) ?_); rintro e w4 ⟨gh, rfl, hgh, hch, hb⟩; have B4 := Lib.hid (B3.out.trans (hb.mono B3.out.size)); have S4 := Lib.hid (S3.out.below hb); have hs4 := Lib.hid (hs3.out.below hb); have hh4 := Lib.hid ((hopsAt_two hch).one); clear hb hch hgh)
        | (go_at_call 14; (with_reducible refine Calls.mono (HBd.out _ _ _ _ hs4.out hh4.out B4.out) ?_); rintro e w5 ⟨hb, v5, rfl⟩; have B5 := Lib.hid (B4.out.trans (hb.mono B4.out.size)); have S5 := Lib.hid (S4.out.below hb); clear hb))
      go_upto_region 8 with (go_at_call 18; (with_reducible refine Calls.mono (HPl.out _ S5.out B5.out) ?_); rintro e w6 ⟨c1, a1, x1, p1, i1, s1, l1, rfl, hs, hb⟩; have B6 := Lib.hid hb; have S6 := Lib.hid hs; clear hb hs)
      have b7 := below_new' w6 (.cells #[.string c1, .int .i64 a1, .int .i64 x1, .string p1, .string i1, .string s1, .bool l1] 41)
      have B7 := Lib.hid (B6.out.trans (b7.mono B6.out.size))
      have S7 := Lib.hid (S6.out.below b7)
      clear b7
      generalize w6.alloc (.cells #[.string c1, .int .i64 a1, .int .i64 x1, .string p1, .string i1, .string s1, .bool l1] 41) = w7 at B7 S7 ⊢
      generalize w6.heap.size = xb
      by_cases h4 : i < 4096
      · have hi4 : (i : Int) < 4096 := by omega
        have hi5 : ((i : Int) == 4096) = false := by simp; omega
        rw [if_pos h4]
        go_wp2_with fail
        go_roundw
        case rel => exact ⟨i + 1, by omega, by go_num, S7.out, B7.out⟩
        case measure => simp [intOf]; omega
      · obtain rfl : i = 4096 := by omega
        rw [if_neg h4]
        rw [show ((4096 : Nat) : Int) = 4096 from rfl]
        go_wp2_with fail
        go_roundw
        case rel => exact ⟨4097, by omega, by rfl, S7.out, B7.out⟩
        case measure => decide
    · obtain rfl : i = 4097 := by omega
      rw [show ((4097 : Nat) : Int) = 4097 from rfl]
      have HCT := Lib.hid (seen_count w.heap.size sb mm _ wr hS.out)
      rw [fullL_len] at HCT
      rw [show ((min 4097 4096 : Nat) : Int) = 4096 from rfl] at HCT
      go_wp2_with (go_at_call 21; (with_reducible refine Calls.mono HCT.out ?_); rintro e w3 ⟨rfl, hb⟩; have B3 := Lib.hid (hB.out.trans (hb.mono hB.out.size)); clear hb)
      go_ret
      exact ⟨rfl, B3.out⟩
/-! onion: hops that may not be -/
def badC (j : Nat) : Array Value := ([#[.string ⟨#[99, 48]⟩, .string ⟨#[80, 110, 49, 49, 59]⟩, .int .i64 1010, .int .i64 50, .string ⟨#[]⟩, .string ⟨#[80, 110, 49, 50, 59]⟩, .int .i64 1000, .int .i64 40], #[.string (zS 101), .string ⟨#[80, 110, 49, 49, 59]⟩, .int .i64 1010, .int .i64 50, .string ⟨#[99, 49]⟩, .string ⟨#[80, 110, 49, 50, 59]⟩, .int .i64 1000, .int .i64 40], #[.string ⟨#[99, 48]⟩, .string ⟨#[80, 110, 49, 49, 59]⟩, .int .i64 1010, .int .i64 50, .string ⟨#[99, 49]⟩, .string ⟨#[80, 110, 49, 50, 59]⟩, .int .i64 1000, .int .i64 (-1)], #[.string ⟨#[99, 48]⟩, .string ⟨#[80, 110, 49, 49, 59]⟩, .int .i64 2100000000000000001, .int .i64 50, .string ⟨#[99, 49]⟩, .string ⟨#[80, 110, 49, 50, 59]⟩, .int .i64 1000, .int .i64 40], #[.string ⟨#[99, 48]⟩, .string ⟨#[80, 110, 49, 49, 59]⟩, .int .i64 1010, .int .i64 50, .string ⟨#[99, 49]⟩, .string ⟨#[110, 49, 50, 59]⟩, .int .i64 1000, .int .i64 40], #[.string ⟨#[99, 48]⟩, .string ⟨#[80, 110, 49, 49, 59]⟩, .int .i64 1010, .int .i64 50, .string ⟨#[99, 49]⟩, .string ⟨#[80, 110, 49, 50, 59]⟩, .int .i64 1000, .int .i64 40], #[.string ⟨#[99, 48]⟩, .string ⟨#[80, 110, 49, 49, 59]⟩, .int .i64 1010, .int .i64 2147483648, .string ⟨#[99, 49]⟩, .string ⟨#[80, 110, 49, 50, 59]⟩, .int .i64 1000, .int .i64 40], #[.string ⟨#[99, 48]⟩, .string ⟨#[87, 80, 110, 49, 59, 80, 110, 50, 59]⟩, .int .i64 1010, .int .i64 50, .string ⟨#[99, 49]⟩, .string ⟨#[80, 110, 49, 50, 59]⟩, .int .i64 1000, .int .i64 40]] : List (Array Value)).getD j #[]
def badN (j : Nat) : Nat := if j = 5 then 1 else 2
def badH (j : Nat) : List Hp := ([[⟨⟨#[99, 48]⟩, ⟨#[80, 110, 49, 49, 59]⟩, 1010, 50⟩, ⟨⟨#[]⟩, ⟨#[80, 110, 49, 50, 59]⟩, 1000, 40⟩], [⟨(zS 101), ⟨#[80, 110, 49, 49, 59]⟩, 1010, 50⟩, ⟨⟨#[99, 49]⟩, ⟨#[80, 110, 49, 50, 59]⟩, 1000, 40⟩], [⟨⟨#[99, 48]⟩, ⟨#[80, 110, 49, 49, 59]⟩, 1010, 50⟩, ⟨⟨#[99, 49]⟩, ⟨#[80, 110, 49, 50, 59]⟩, 1000, (-1)⟩], [⟨⟨#[99, 48]⟩, ⟨#[80, 110, 49, 49, 59]⟩, 2100000000000000001, 50⟩, ⟨⟨#[99, 49]⟩, ⟨#[80, 110, 49, 50, 59]⟩, 1000, 40⟩], [⟨⟨#[99, 48]⟩, ⟨#[80, 110, 49, 49, 59]⟩, 1010, 50⟩, ⟨⟨#[99, 49]⟩, ⟨#[110, 49, 50, 59]⟩, 1000, 40⟩], [⟨⟨#[99, 48]⟩, ⟨#[80, 110, 49, 49, 59]⟩, 1010, 50⟩], [⟨⟨#[99, 48]⟩, ⟨#[80, 110, 49, 49, 59]⟩, 1010, 2147483648⟩, ⟨⟨#[99, 49]⟩, ⟨#[80, 110, 49, 50, 59]⟩, 1000, 40⟩], [⟨⟨#[99, 48]⟩, ⟨#[87, 80, 110, 49, 59, 80, 110, 50, 59]⟩, 1010, 50⟩, ⟨⟨#[99, 49]⟩, ⟨#[80, 110, 49, 50, 59]⟩, 1000, 40⟩]] : List (List Hp)).getD j []
def badE (j : Nat) : Int := ([2, 2, 2, 40, 10, 2, 2, 10] : List Int).getD j 0
theorem badH_len : ∀ j, j < 8 → (badH j).length = badN j := by
  intro j hj
  rcases (by omega : j = 0 ∨ j = 1 ∨ j = 2 ∨ j = 3 ∨ j = 4 ∨ j = 5 ∨ j = 6 ∨ j = 7) with rfl | rfl | rfl | rfl | rfl | rfl | rfl | rfl <;> rfl
theorem badE_build : ∀ j, j < 8 → buildR [xn1, xn2] (badH j) xhn9 = (⟨#[]⟩, [], badE j) := by
  intro j hj
  rcases (by omega : j = 0 ∨ j = 1 ∨ j = 2 ∨ j = 3 ∨ j = 4 ∨ j = 5 ∨ j = 6 ∨ j = 7) with rfl | rfl | rfl | rfl | rfl | rfl | rfl | rfl <;> kernel_rfl
theorem hops_eight {w : World} {g : Nat} {c0 n0 c1 n1 : ByteArray} {a0 x0 a1 x1 : Int} (h : w.heap[g]? = some (.cells #[.string c0, .string n0, .int .i64 a0, .int .i64 x0, .string c1, .string n1, .int .i64 a1, .int .i64 x1] 33 (0, 0))) (h0 : c0.size ≤ maxLen) (h1 : n0.size ≤ maxLen) (h2 : c1.size ≤ maxLen) (h3 : n1.size ≤ maxLen) : HopsAt (some ⟨g, 0, none⟩) [⟨c0, n0, a0, x0⟩, ⟨c1, n1, a1, x1⟩] w := by
  refine .inr ⟨g, 0, rfl, fun k x hk => ?_⟩
  match k, hk with
  | 0, hk =>
    cases hk
    refine ⟨fun j u hj => ?_, h0, h1⟩
    match j, hj with
    | 0, hj | 1, hj | 2, hj | 3, hj => cases hj; simp [World.cell?, h] <;> rfl
  | 1, hk =>
    cases hk
    refine ⟨fun j u hj => ?_, h2, h3⟩
    match j, hj with
    | 0, hj | 1, hj | 2, hj | 3, hj => cases hj; simp [World.cell?, h] <;> rfl
theorem hops_first {w : World} {g : Nat} {x y : Hp} (h : HopsAt (some ⟨g, 0, none⟩) [x, y] w) : HopsAt (some ⟨g, 0, none⟩) [x] w := by
  obtain ⟨b, off, e, h2⟩ := h.resolve_left (by simp)
  exact .inr ⟨b, off, e, fun k z hk => h2 k z (by
    have hk0 : k < 1 := (List.getElem?_eq_some_iff.1 hk).1
    obtain rfl : k = 0 := by omega
    exact hk)⟩
theorem zS_max {n : Nat} (h : n ≤ 10000) : (zS n).size ≤ maxLen := by rw [zS_size]; unfold maxLen; omega
theorem bad_hops {w : World} {g : Nat} : ∀ j, j < 8 → w.heap[g]? = some (.cells (badC j) 33 (0, 0)) → HopsAt (some ⟨g, 0, none⟩) (badH j) w := by
  intro j hj h
  rcases (by omega : j = 0 ∨ j = 1 ∨ j = 2 ∨ j = 3 ∨ j = 4 ∨ j = 5 ∨ j = 6 ∨ j = 7) with rfl | rfl | rfl | rfl | rfl | rfl | rfl | rfl
  · exact hops_eight h (by decide) (by decide) (by decide) (by decide)
  · exact hops_eight h (zS_max (by omega)) (by decide) (by decide) (by decide)
  · exact hops_eight h (by decide) (by decide) (by decide) (by decide)
  · exact hops_eight h (by decide) (by decide) (by decide) (by decide)
  · exact hops_eight h (by decide) (by decide) (by decide) (by decide)
  · exact hops_first (hops_eight h (by decide) (by decide) (by decide) (by decide))
  · exact hops_eight h (by decide) (by decide) (by decide) (by decide)
  · exact hops_eight h (by decide) (by decide) (by decide) (by decide)
/-- the row of bad hops as it grows -/
structure RB (w W : World) (n : Nat) (ov : Value) (vs : List Value) : Prop where
  own : W.ownsRow w.heap.size 23 1 ov n vs
  each : ∀ j, j < n → ∃ g, vs[j]? = some (.slice (some ⟨g, 0, none⟩) (badN j) 2) ∧ W.heap[g]? = some (.cells (badC j) 33 (0, 0))
  b : Below w.heap.size w W
theorem RB.next {w W W' : World} {n : Nat} {ov : Value} {vs : List Value} (h : RB w W n ov vs) (hb : Below W.heap.size W W') : RB w W' n ov vs :=
  ⟨own_below h.own hb, fun j hj => by
    obtain ⟨g, h1, h2⟩ := h.each j hj
    exact ⟨g, h1, (hb.block g (lt_of_heap h2)).trans h2⟩, h.b.trans (hb.mono h.b.size)⟩
theorem RB.add {w W w4 : World} {n m : Nat} {ov v' : Value} {vs news : List Value} {o : Obj} (h : RB w W n ov vs) (hn : ∀ j, j < m → ∃ g, news[j]? = some (.slice (some ⟨g, 0, none⟩) (badN (n + j)) 2) ∧ W.heap[g]? = some (.cells (badC (n + j)) 33 (0, 0))) (hown : w4.ownsRow w.heap.size 23 1 v' (n + m) (vs ++ news)) (hgrow : (W.alloc o).grownBy w4 ov.ownBlock) : RB w w4 (n + m) v' (vs ++ news) := by
  have hl : vs.length = n := by have := h.own.1; omega
  have nb := below_new' W o
  have hst : ∀ (g : Nat) (cs : Array Value), W.heap[g]? = some (Obj.cells cs 33 (0, 0)) → w4.heap[g]? = some (Obj.cells cs 33 (0, 0)) := fun g cs hg => by
    have hlt := lt_of_heap hg
    exact ((hgrow.block g (Nat.lt_of_lt_of_le hlt nb.size) (fun e => own_neT h.own hg (by decide) g e.symm rfl)).trans (nb.block g hlt)).trans hg
  refine ⟨hown, fun j hj => ?_, (h.b.alloc h.b.size o).grown hgrow (Nat.le_trans h.b.size nb.size) (fun g hg => (h.own.lt g hg).1)⟩
  by_cases hjn : j < n
  · obtain ⟨g, h1, h2⟩ := h.each j hjn
    exact ⟨g, by rw [List.getElem?_append_left (by omega)]; exact h1, hst g _ h2⟩
  · obtain ⟨g, h1, h2⟩ := hn (j - n) (by omega)
    rw [show n + (j - n) = j by omega] at h1 h2
    exact ⟨g, by rw [List.getElem?_append_right (by omega), hl]; exact h1, hst g _ h2⟩
def RefP (w : World) (e : Ending) (w' : World) : Prop := Below w.heap.size w w' ∧ ∃ g cap, e = .returned (.slice (some ⟨g, 0, none⟩) 8 cap) ∧ ∀ j, j < 8 → ∃ gj, w'.cell? ⟨g, j, none⟩ = some (.slice (some ⟨gj, 0, none⟩) (badH j).length 2) ∧ HopsAt (some ⟨gj, 0, none⟩) (badH j) w'
theorem Try.info23 : (Tryd.prog.info? 23).map (fun i => (i.zero, i.size, i.bytes)) = some (some (.slice none 0 0), 1, 24) := by kernel_rfl
theorem Try.info5 : (Tryd.prog.info? 5).map (fun i => (i.zero, i.size, i.bytes)) = some (some (.int .u8 0), 1, 1) := by kernel_rfl
theorem make_zeros (n : Nat) (hn : n ≤ 10000) : ∃ C : Array Value, C.toList = List.replicate n (.int .u8 0) ∧ ∀ w : World, (Instr.makeSlice 67 (.int .i64 (n : Int)) (.int .i64 (n : Int))).run Tryd.prog w = .ok (.slice (some ⟨w.heap.size, 0, none⟩) n n) (w.alloc (.cells C 5)) := by
  refine ⟨madeCells (Value.int .u8 0).cells n, by rw [show (Value.int .u8 0).cells = #[Value.int .u8 0] from rfl, toList_madeCells_one], fun w => ?_⟩
  obtain ⟨i0, hi0, hz0, hz1, hz2⟩ := info_parts Try.info5
  have h := run_make (P := Tryd.prog) w 67 5 i0 (.int .u8 0) Tryd.underlying67 hi0 hz0 .i64 .i64 (n : Int) (n : Int) (by omega) (by omega) (by rw [hz2]; omega) (by omega)
  rw [hz1, Nat.mul_one] at h
  simpa using h
theorem zeros_at (n : Nat) (C : Array Value) (hC : C.toList = List.replicate n (.int .u8 0)) (w : World) (g : Nat) (h : w.heap[g]? = some (.cells C 5 (0, 0))) : (convert 67 9 (.slice (some ⟨g, 0, none⟩) n n)).run Tryd.prog w = .ok (.string (zS n)) w := by
  have hl : (List.replicate n (0 : UInt8)).length = n := List.length_replicate
  have hcv := run_convert_bytes_back w 67 9 5 ⟨g, 0, none⟩ n (List.replicate n (0 : UInt8)) Tryd.underlying67 Tryd.underlying5 Tryd.underlying9 (fun j hj => by
    rw [hl] at hj
    rw [addr_add, Nat.zero_add, cell_of_row _ _ _ _ _ _ h, ← Array.getElem?_toList, hC, List.getElem?_replicate, if_pos hj, List.getElem_replicate]
    rfl)
  rw [hl] at hcv
  exact hcv
set_option maxRecDepth 100000 in
set_option maxHeartbeats 16000000 in
theorem refused_any (w : World) : Calls Tryd.prog 29 #[] w (RefP w) := by
  obtain ⟨i0, hi0, hz0, hz1, hz2⟩ := info_parts Try.info23
  obtain ⟨C, hC, hmk⟩ := make_zeros 101 (by omega)
  have hzs := zS_size 101
  have HZA : Hid (∀ (W : World) (g : Nat), W.heap[g]? = some (.cells C 5 (0, 0)) → (convert 67 9 (.slice (some ⟨g, 0, none⟩) 101 101)).run Tryd.prog W = .ok (.string (zS 101)) W) := fun W g h => zeros_at 101 C hC W g h
  rw [show ((101 : Nat) : Int) = 101 from rfl] at hmk
  go_enter Tryd.func29, Tryd.ntmps29
  go_wp2_with fail
  go_loopw [1, 2] (fun ov iv wr => ∃ (i : Nat) (vs : List Value), i ≤ 6 ∧ iv = .int .i64 i ∧ Hid (RB w wr i ov vs)) (fun _ iv _ => 6 - (intOf iv).toNat)
  case atStart => exact ⟨0, [], by omega, rfl, World.ownsRow_nil _ _ _ _, fun j hj => by omega, Below.refl _ _⟩
  case round =>
    obtain ⟨i, vs, hi, rfl, hR⟩ := hrel
    obtain ⟨oa, oc, rfl⟩ := own_slice hR.out.own
    by_cases hlt : i < 6
    · rcases (by omega : i = 0 ∨ i = 1 ∨ i = 2 ∨ i = 3 ∨ i = 4 ∨ i = 5) with rfl | rfl | rfl | rfl | rfl | rfl
      · rw [show ((0 : Nat) : Int) = 0 from rfl]
        go_upto_region 6 with (go_at_call 30; (with_reducible refine Calls.mono (hops_fresh _) ?_); rintro e w2 ⟨g, rfl, hg, hc, hb⟩; have K2 := Lib.hid hc; have B2 := Lib.hid hb; have HG := Lib.hid hg; clear hb hc hg)
        have c0 : w2.cell? ⟨g, 4, none⟩ = some (.string ⟨#[99, 49]⟩) := by rw [cell_of_row _ _ _ _ _ _ K2.out]; rfl
        have f0 : w2.frozen? ⟨g, 4, none⟩ = false := by simp [World.frozen?, K2.out]
        go_upto_region 19 with fail
        have K3 : Hid ((w2.setCell ⟨g, 4, none⟩ (.string ⟨#[]⟩)).heap[g]? = some (.cells (badC 0) 33 (0, 0))) := heap_setCell_same w2 g 4 _ 33 _ K2.out
        have R3 := Lib.hid (hR.out.next (B2.out.setCell (p := ⟨g, 4, none⟩) HG.out (.string ⟨#[]⟩)))
        clear c0 f0
        generalize w2.setCell ⟨g, 4, none⟩ (.string ⟨#[]⟩) = w3 at K3 R3 ⊢
        have HN : Hid (∀ j, j < 1 → ∃ g', ([.slice (some ⟨g, 0, none⟩) 2 2] : List Value)[j]? = some (.slice (some ⟨g', 0, none⟩) (badN (0 + j)) 2) ∧ w3.heap[g']? = some (.cells (badC (0 + j)) 33 (0, 0))) := fun j hj => by
          obtain rfl : j = 0 := by omega
          exact ⟨g, rfl, K3.out⟩
        go_wp2_with (at_builtin; refine wpList_append_lies _ rfl _ _ _ rfl w.heap.size 23 i0 _ 1 24 Tryd.underlying62 hi0 hz0 hz1 hz2 rfl (by omega) (.slice oa 0 oc) 0 vs rfl (R3.out.own.alloc _) ⟨w3.heap.size, 0, none⟩ 1 1 [.slice (some ⟨g, 0, none⟩) 2 2] rfl rfl (World.news_of_block (cs := #[.slice (some ⟨g, 0, none⟩) 2 2]) (t := 23) (fr := (0, 0)) (heap_alloc_at w3 _)) (by simp [Value.oneCell']) (by omega) (by unfold maxLen; omega) (by omega) (by have := R3.out.b.size; simp; omega) (w3.heap.size + 1) (by simp) ?_; intro g5 cap5 w5 hown5 hgrow5 hat5 hlt5; have R5 := Lib.hid (R3.out.add HN.out hown5 hgrow5); clear hown5 hgrow5 hat5)
        go_roundw
        case rel => exact ⟨0 + 1, _, by omega, by rfl, R5.out⟩
        case measure => decide
      · rw [show ((1 : Nat) : Int) = 1 from rfl]
        go_upto_region 6 with (go_at_call 30; (with_reducible refine Calls.mono (hops_fresh _) ?_); rintro e w2 ⟨g, rfl, hg, hc, hb⟩; have K2 := Lib.hid hc; have B2 := Lib.hid hb; have HG := Lib.hid hg; clear hb hc hg)
        have nb := below_new' w2 (.cells C 5)
        have B2' := Lib.hid (B2.out.trans (nb.mono B2.out.size))
        have K2' := Lib.hid ((nb.block _ (lt_of_heap K2.out)).trans K2.out)
        have hcv := HZA.out (w2.alloc (.cells C 5)) w2.heap.size (heap_alloc_at w2 _)
        have hmk2 := hmk w2
        clear nb
        have c0 : (w2.alloc (.cells C 5)).cell? ⟨g, 0, none⟩ = some (.string ⟨#[99, 48]⟩) := by rw [cell_of_row _ _ _ _ _ _ K2'.out]; rfl
        have f0 : (w2.alloc (.cells C 5)).frozen? ⟨g, 0, none⟩ = false := by simp [World.frozen?, K2'.out]
        go_upto_region 19 with fail
        have K3 : Hid (((w2.alloc (.cells C 5)).setCell ⟨g, 0, none⟩ (.string (zS 101))).heap[g]? = some (.cells (badC 1) 33 (0, 0))) := heap_setCell_same (w2.alloc (.cells C 5)) g 0 _ 33 _ K2'.out
        have R3 := Lib.hid (hR.out.next (B2'.out.setCell (p := ⟨g, 0, none⟩) HG.out (.string (zS 101))))
        clear c0 f0 hcv hmk2
        generalize (w2.alloc (.cells C 5)).setCell ⟨g, 0, none⟩ (.string (zS 101)) = w3 at K3 R3 ⊢
        have HN : Hid (∀ j, j < 1 → ∃ g', ([.slice (some ⟨g, 0, none⟩) 2 2] : List Value)[j]? = some (.slice (some ⟨g', 0, none⟩) (badN (1 + j)) 2) ∧ w3.heap[g']? = some (.cells (badC (1 + j)) 33 (0, 0))) := fun j hj => by
          obtain rfl : j = 0 := by omega
          exact ⟨g, rfl, K3.out⟩
        go_wp2_with (at_builtin; refine wpList_append_lies _ rfl _ _ _ rfl w.heap.size 23 i0 _ 1 24 Tryd.underlying62 hi0 hz0 hz1 hz2 rfl (by omega) (.slice oa 1 oc) 1 vs rfl (R3.out.own.alloc _) ⟨w3.heap.size, 0, none⟩ 1 1 [.slice (some ⟨g, 0, none⟩) 2 2] rfl rfl (World.news_of_block (cs := #[.slice (some ⟨g, 0, none⟩) 2 2]) (t := 23) (fr := (0, 0)) (heap_alloc_at w3 _)) (by simp [Value.oneCell']) (by omega) (by unfold maxLen; omega) (by omega) (by have := R3.out.b.size; simp; omega) (w3.heap.size + 1) (by simp) ?_; intro g5 cap5 w5 hown5 hgrow5 hat5 hlt5; have R5 := Lib.hid (R3.out.add HN.out hown5 hgrow5); clear hown5 hgrow5 hat5)
        go_roundw
        case rel => exact ⟨1 + 1, _, by omega, by rfl, R5.out⟩
        case measure => decide
      · rw [show ((2 : Nat) : Int) = 2 from rfl]
        go_upto_region 6 with (go_at_call 30; (with_reducible refine Calls.mono (hops_fresh _) ?_); rintro e w2 ⟨g, rfl, hg, hc, hb⟩; have K2 := Lib.hid hc; have B2 := Lib.hid hb; have HG := Lib.hid hg; clear hb hc hg)
        have c0 : w2.cell? ⟨g, 7, none⟩ = some (.int .i64 40) := by rw [cell_of_row _ _ _ _ _ _ K2.out]; rfl
        have f0 : w2.frozen? ⟨g, 7, none⟩ = false := by simp [World.frozen?, K2.out]
        go_upto_region 19 with fail
        have K3 : Hid ((w2.setCell ⟨g, 7, none⟩ (.int .i64 (-1))).heap[g]? = some (.cells (badC 2) 33 (0, 0))) := heap_setCell_same w2 g 7 _ 33 _ K2.out
        have R3 := Lib.hid (hR.out.next (B2.out.setCell (p := ⟨g, 7, none⟩) HG.out (.int .i64 (-1))))
        clear c0 f0
        generalize w2.setCell ⟨g, 7, none⟩ (.int .i64 (-1)) = w3 at K3 R3 ⊢
        have HN : Hid (∀ j, j < 1 → ∃ g', ([.slice (some ⟨g, 0, none⟩) 2 2] : List Value)[j]? = some (.slice (some ⟨g', 0, none⟩) (badN (2 + j)) 2) ∧ w3.heap[g']? = some (.cells (badC (2 + j)) 33 (0, 0))) := fun j hj => by
          obtain rfl : j = 0 := by omega
          exact ⟨g, rfl, K3.out⟩
        go_wp2_with (at_builtin; refine wpList_append_lies _ rfl _ _ _ rfl w.heap.size 23 i0 _ 1 24 Tryd.underlying62 hi0 hz0 hz1 hz2 rfl (by omega) (.slice oa 2 oc) 2 vs rfl (R3.out.own.alloc _) ⟨w3.heap.size, 0, none⟩ 1 1 [.slice (some ⟨g, 0, none⟩) 2 2] rfl rfl (World.news_of_block (cs := #[.slice (some ⟨g, 0, none⟩) 2 2]) (t := 23) (fr := (0, 0)) (heap_alloc_at w3 _)) (by simp [Value.oneCell']) (by omega) (by unfold maxLen; omega) (by omega) (by have := R3.out.b.size; simp; omega) (w3.heap.size + 1) (by simp) ?_; intro g5 cap5 w5 hown5 hgrow5 hat5 hlt5; have R5 := Lib.hid (R3.out.add HN.out hown5 hgrow5); clear hown5 hgrow5 hat5)
        go_roundw
        case rel => exact ⟨2 + 1, _, by omega, by rfl, R5.out⟩
        case measure => decide
      · rw [show ((3 : Nat) : Int) = 3 from rfl]
        go_upto_region 6 with (go_at_call 30; (with_reducible refine Calls.mono (hops_fresh _) ?_); rintro e w2 ⟨g, rfl, hg, hc, hb⟩; have K2 := Lib.hid hc; have B2 := Lib.hid hb; have HG := Lib.hid hg; clear hb hc hg)
        have c0 : w2.cell? ⟨g, 2, none⟩ = some (.int .i64 1010) := by rw [cell_of_row _ _ _ _ _ _ K2.out]; rfl
        have f0 : w2.frozen? ⟨g, 2, none⟩ = false := by simp [World.frozen?, K2.out]
        go_upto_region 19 with fail
        have K3 : Hid ((w2.setCell ⟨g, 2, none⟩ (.int .i64 2100000000000000001)).heap[g]? = some (.cells (badC 3) 33 (0, 0))) := heap_setCell_same w2 g 2 _ 33 _ K2.out
        have R3 := Lib.hid (hR.out.next (B2.out.setCell (p := ⟨g, 2, none⟩) HG.out (.int .i64 2100000000000000001)))
        clear c0 f0
        generalize w2.setCell ⟨g, 2, none⟩ (.int .i64 2100000000000000001) = w3 at K3 R3 ⊢
        have HN : Hid (∀ j, j < 1 → ∃ g', ([.slice (some ⟨g, 0, none⟩) 2 2] : List Value)[j]? = some (.slice (some ⟨g', 0, none⟩) (badN (3 + j)) 2) ∧ w3.heap[g']? = some (.cells (badC (3 + j)) 33 (0, 0))) := fun j hj => by
          obtain rfl : j = 0 := by omega
          exact ⟨g, rfl, K3.out⟩
        go_wp2_with (at_builtin; refine wpList_append_lies _ rfl _ _ _ rfl w.heap.size 23 i0 _ 1 24 Tryd.underlying62 hi0 hz0 hz1 hz2 rfl (by omega) (.slice oa 3 oc) 3 vs rfl (R3.out.own.alloc _) ⟨w3.heap.size, 0, none⟩ 1 1 [.slice (some ⟨g, 0, none⟩) 2 2] rfl rfl (World.news_of_block (cs := #[.slice (some ⟨g, 0, none⟩) 2 2]) (t := 23) (fr := (0, 0)) (heap_alloc_at w3 _)) (by simp [Value.oneCell']) (by omega) (by unfold maxLen; omega) (by omega) (by have := R3.out.b.size; simp; omega) (w3.heap.size + 1) (by simp) ?_; intro g5 cap5 w5 hown5 hgrow5 hat5 hlt5; have R5 := Lib.hid (R3.out.add HN.out hown5 hgrow5); clear hown5 hgrow5 hat5)
        go_roundw
        case rel => exact ⟨3 + 1, _, by omega, by rfl, R5.out⟩
        case measure => decide
      · rw [show ((4 : Nat) : Int) = 4 from rfl]
        go_upto_region 6 with (go_at_call 30; (with_reducible refine Calls.mono (hops_fresh _) ?_); rintro e w2 ⟨g, rfl, hg, hc, hb⟩; have K2 := Lib.hid hc; have B2 := Lib.hid hb; have HG := Lib.hid hg; clear hb hc hg)
        have c0 : w2.cell? ⟨g, 5, none⟩ = some (.string ⟨#[80, 110, 49, 50, 59]⟩) := by rw [cell_of_row _ _ _ _ _ _ K2.out]; rfl
        have f0 : w2.frozen? ⟨g, 5, none⟩ = false := by simp [World.frozen?, K2.out]
        go_upto_region 19 with fail
        have K3 : Hid ((w2.setCell ⟨g, 5, none⟩ (.string ⟨#[110, 49, 50, 59]⟩)).heap[g]? = some (.cells (badC 4) 33 (0, 0))) := heap_setCell_same w2 g 5 _ 33 _ K2.out
        have R3 := Lib.hid (hR.out.next (B2.out.setCell (p := ⟨g, 5, none⟩) HG.out (.string ⟨#[110, 49, 50, 59]⟩)))
        clear c0 f0
        generalize w2.setCell ⟨g, 5, none⟩ (.string ⟨#[110, 49, 50, 59]⟩) = w3 at K3 R3 ⊢
        have HN : Hid (∀ j, j < 1 → ∃ g', ([.slice (some ⟨g, 0, none⟩) 2 2] : List Value)[j]? = some (.slice (some ⟨g', 0, none⟩) (badN (4 + j)) 2) ∧ w3.heap[g']? = some (.cells (badC (4 + j)) 33 (0, 0))) := fun j hj => by
          obtain rfl : j = 0 := by omega
          exact ⟨g, rfl, K3.out⟩
        go_wp2_with (at_builtin; refine wpList_append_lies _ rfl _ _ _ rfl w.heap.size 23 i0 _ 1 24 Tryd.underlying62 hi0 hz0 hz1 hz2 rfl (by omega) (.slice oa 4 oc) 4 vs rfl (R3.out.own.alloc _) ⟨w3.heap.size, 0, none⟩ 1 1 [.slice (some ⟨g, 0, none⟩) 2 2] rfl rfl (World.news_of_block (cs := #[.slice (some ⟨g, 0, none⟩) 2 2]) (t := 23) (fr := (0, 0)) (heap_alloc_at w3 _)) (by simp [Value.oneCell']) (by omega) (by unfold maxLen; omega) (by omega) (by have := R3.out.b.size; simp; omega) (w3.heap.size + 1) (by simp) ?_; intro g5 cap5 w5 hown5 hgrow5 hat5 hlt5; have R5 := Lib.hid (R3.out.add HN.out hown5 hgrow5); clear hown5 hgrow5 hat5)
        go_roundw
        case rel => exact ⟨4 + 1, _, by omega, by rfl, R5.out⟩
        case measure => decide
      · rw [show ((5 : Nat) : Int) = 5 from rfl]
        go_upto_region 6 with (go_at_call 30; (with_reducible refine Calls.mono (hops_fresh _) ?_); rintro e w2 ⟨g, rfl, hg, hc, hb⟩; have K2 := Lib.hid hc; have B2 := Lib.hid hb; have HG := Lib.hid hg; clear hb hc hg)
        go_upto_region 19 with fail
        have K3 : Hid (w2.heap[g]? = some (.cells (badC 5) 33 (0, 0))) := K2.out
        have R3 := Lib.hid (hR.out.next B2.out)
        clear K2
        generalize w2 = w3 at K3 R3 ⊢
        have HN : Hid (∀ j, j < 1 → ∃ g', ([.slice (some ⟨g, 0, none⟩) 1 2] : List Value)[j]? = some (.slice (some ⟨g', 0, none⟩) (badN (5 + j)) 2) ∧ w3.heap[g']? = some (.cells (badC (5 + j)) 33 (0, 0))) := fun j hj => by
          obtain rfl : j = 0 := by omega
          exact ⟨g, rfl, K3.out⟩
        go_wp2_with (at_builtin; refine wpList_append_lies _ rfl _ _ _ rfl w.heap.size 23 i0 _ 1 24 Tryd.underlying62 hi0 hz0 hz1 hz2 rfl (by omega) (.slice oa 5 oc) 5 vs rfl (R3.out.own.alloc _) ⟨w3.heap.size, 0, none⟩ 1 1 [.slice (some ⟨g, 0, none⟩) 1 2] rfl rfl (World.news_of_block (cs := #[.slice (some ⟨g, 0, none⟩) 1 2]) (t := 23) (fr := (0, 0)) (heap_alloc_at w3 _)) (by simp [Value.oneCell']) (by omega) (by unfold maxLen; omega) (by omega) (by have := R3.out.b.size; simp; omega) (w3.heap.size + 1) (by simp) ?_; intro g5 cap5 w5 hown5 hgrow5 hat5 hlt5; have R5 := Lib.hid (R3.out.add HN.out hown5 hgrow5); clear hown5 hgrow5 hat5)
        go_roundw
        case rel => exact ⟨5 + 1, _, by omega, by rfl, R5.out⟩
        case measure => decide
    · obtain rfl : i = 6 := by omega
      rw [show ((6 : Nat) : Int) = 6 from rfl]
      go_upto_region 21 with (go_at_call 30; (with_reducible refine Calls.mono (hops_fresh _) ?_); rintro e w2 ⟨g, rfl, hg, hc, hb⟩; have K2 := Lib.hid hc; have B2 := Lib.hid hb; have HG := Lib.hid hg; clear hb hc hg)
      have c0 : w2.cell? ⟨g, 3, none⟩ = some (.int .i64 50) := by rw [cell_of_row _ _ _ _ _ _ K2.out]; rfl
      have f0 : w2.frozen? ⟨g, 3, none⟩ = false := by simp [World.frozen?, K2.out]
      go_upto_region 22 with fail
      have K3 : Hid ((w2.setCell ⟨g, 3, none⟩ (.int .i64 2147483648)).heap[g]? = some (.cells (badC 6) 33 (0, 0))) := heap_setCell_same w2 g 3 _ 33 _ K2.out
      have R3 := Lib.hid (hR.out.next (B2.out.setCell (p := ⟨g, 3, none⟩) HG.out (.int .i64 2147483648)))
      clear c0 f0
      generalize w2.setCell ⟨g, 3, none⟩ (.int .i64 2147483648) = w3 at K3 R3 ⊢
      go_upto_region 23 with (go_at_call 30; (with_reducible refine Calls.mono (hops_fresh _) ?_); rintro e w4 ⟨g4, rfl, hg, hc, hb⟩; have K4 := Lib.hid hc; have B4 := Lib.hid hb; have HG4 := Lib.hid hg; clear hb hc hg)
      have c0 : w4.cell? ⟨g4, 1, none⟩ = some (.string ⟨#[80, 110, 49, 49, 59]⟩) := by rw [cell_of_row _ _ _ _ _ _ K4.out]; rfl
      have f0 : w4.frozen? ⟨g4, 1, none⟩ = false := by simp [World.frozen?, K4.out]
      go_upto_region 24 with fail
      have K5 : Hid ((w4.setCell ⟨g4, 1, none⟩ (.string ⟨#[87, 80, 110, 49, 59, 80, 110, 50, 59]⟩)).heap[g4]? = some (.cells (badC 7) 33 (0, 0))) := heap_setCell_same w4 g4 1 _ 33 _ K4.out
      have B5 := Lib.hid (B4.out.setCell (p := ⟨g4, 1, none⟩) HG4.out (.string ⟨#[87, 80, 110, 49, 59, 80, 110, 50, 59]⟩))
      have R5 := Lib.hid (R3.out.next B5.out)
      have K35 := Lib.hid ((B5.out.block g (lt_of_heap K3.out)).trans K3.out)
      clear c0 f0
      generalize w4.setCell ⟨g4, 1, none⟩ (.string ⟨#[87, 80, 110, 49, 59, 80, 110, 50, 59]⟩) = w5 at K5 R5 K35 ⊢
      have HN : Hid (∀ j, j < 2 → ∃ g', ([.slice (some ⟨g, 0, none⟩) 2 2, .slice (some ⟨g4, 0, none⟩) 2 2] : List Value)[j]? = some (.slice (some ⟨g', 0, none⟩) (badN (6 + j)) 2) ∧ w5.heap[g']? = some (.cells (badC (6 + j)) 33 (0, 0))) := fun j hj => by
        rcases (by omega : j = 0 ∨ j = 1) with rfl | rfl
        · exact ⟨g, rfl, K35.out⟩
        · exact ⟨g4, rfl, K5.out⟩
      go_wp2_with (at_builtin; refine wpList_append_lies _ rfl _ _ _ rfl w.heap.size 23 i0 _ 1 24 Tryd.underlying62 hi0 hz0 hz1 hz2 rfl (by omega) (.slice oa 6 oc) 6 vs rfl (R5.out.own.alloc _) ⟨w5.heap.size, 0, none⟩ 2 2 [.slice (some ⟨g, 0, none⟩) 2 2, .slice (some ⟨g4, 0, none⟩) 2 2] rfl rfl (World.news_of_block (cs := #[.slice (some ⟨g, 0, none⟩) 2 2, .slice (some ⟨g4, 0, none⟩) 2 2]) (t := 23) (fr := (0, 0)) (heap_alloc_at w5 _)) (by simp [Value.oneCell']) (by omega) (by unfold maxLen; omega) (by omega) (by have := R5.out.b.size; simp; omega) (w5.heap.size + 1) (by simp) ?_; intro g7 cap7 w7 hown7 hgrow7 hat7 hlt7; have R7 := Lib.hid (R5.out.add HN.out hown7 hgrow7); clear hown7 hgrow7 hat7)
      go_ret
      refine ⟨R7.out.b, g7, cap7, rfl, fun j hj => ?_⟩
      obtain ⟨gj, h1, h2⟩ := R7.out.each j hj
      obtain ⟨g', cap', e1, _, e3⟩ := own_cells R7.out.own (by omega)
      cases e1
      refine ⟨gj, ?_, bad_hops j hj h2⟩
      rw [badH_len j hj]
      exact e3 j _ h1
/-! onion: OnionKnown, walked -/
def kf : ByteArray := ⟨#[66, 68, 88, 110, 49, 50, 59, 110, 50, 59, 116, 52, 58, 98, 97, 99, 107, 84, 50, 58, 116, 52, 58, 102, 97, 105, 108, 116, 52, 58, 108, 97, 116, 101]⟩
def kw : ByteArray := ⟨#[66, 68, 88, 110, 49, 49, 59, 110, 49, 59, 116, 52, 58, 98, 97, 99, 107, 66, 68, 88, 110, 49, 50, 59, 110, 50, 59, 116, 52, 58, 98, 97, 99, 107, 84, 50, 58, 116, 52, 58, 102, 97, 105, 108, 116, 52, 58, 108, 97, 116, 101]⟩
theorem kn_peel : peelE xn12 xlit none = (220, lay0, e0) := by kernel_rfl
theorem kn_fail : failP xkey2 ⟨#[108, 97, 116, 101]⟩ = (kf, 0) := by kernel_rfl
theorem kn_wrap : wrapP xkey1 kf = (kw, 0) := by kernel_rfl
theorem kn_read : rdE [xkey1, xkey2] 0 kw = (1, ⟨#[108, 97, 116, 101]⟩, 0) := by kernel_rfl
theorem kn_b1 : buildR [xn1, xn2] [hop1, hop2] ⟨#[72, 110, 57]⟩ = (⟨#[]⟩, [], 10) := by kernel_rfl
theorem kn_b2 : buildR [] [] xhn9 = (⟨#[]⟩, [], 2) := by kernel_rfl
theorem kn_b3 : buildR [xn1, ⟨#[86, 110, 49, 59, 110, 50, 59]⟩] [hop1, hop2] xhn9 = (⟨#[]⟩, [], 10) := by kernel_rfl
theorem kn_right : rt xn1 = true := by kernel_rfl
theorem kn_fail3 : failP xn1 (zS 4097) = (⟨#[]⟩, 3) := by
  unfold failP
  rw [kn_right, if_neg (by decide), zS_size, if_pos (by omega)]
  rfl
theorem kn_fail10 : failP ⟨#[110, 49]⟩ ⟨#[120]⟩ = (⟨#[]⟩, 10) := by kernel_rfl
theorem kn_wrap10 : wrapP xn1 ⟨#[120]⟩ = (⟨#[]⟩, 10) := by kernel_rfl
theorem kn_b21 {l : List Nat} (h : l.length = 21) (pay : ByteArray) : buildR (rDrawn l) (rHops l) pay = (⟨#[]⟩, [], 2) := by
  unfold buildR
  rw [rHops_len, h, if_pos (by omega)]
theorem Try.info121 : (Tryd.prog.info? 121).map (fun i => (i.zero, i.size, i.bytes)) = some (some (.int .u32 0), 1, 4) := by kernel_rfl
theorem make_nums (n : Nat) (hn : n ≤ 10000) : ∃ C : Array Value, C.toList = List.replicate n (.int .u32 0) ∧ ∀ w : World, (Instr.makeSlice 49 (.int .i64 (n : Int)) (.int .i64 (n : Int))).run Tryd.prog w = .ok (.slice (some ⟨w.heap.size, 0, none⟩) n n) (w.alloc (.cells C 121)) := by
  refine ⟨madeCells (Value.int .u32 0).cells n, by rw [show (Value.int .u32 0).cells = #[Value.int .u32 0] from rfl, toList_madeCells_one], fun w => ?_⟩
  obtain ⟨i0, hi0, hz0, hz1, hz2⟩ := info_parts Try.info121
  have h := run_make (P := Tryd.prog) w 49 121 i0 (.int .u32 0) Tryd.underlying49 hi0 hz0 .i64 .i64 (n : Int) (n : Int) (by omega) (by omega) (by rw [hz2]; omega) (by omega)
  rw [hz1, Nat.mul_one] at h
  simpa using h
theorem nums_at {n : Nat} {C : Array Value} (hC : C.toList = List.replicate n (.int .u32 0)) {w : World} {g : Nat} (h : w.heap[g]? = some (.cells C 121 (0, 0))) : NumsAt (some ⟨g, 0, none⟩) (List.replicate n 0) w :=
  .inr ⟨g, 0, rfl, fun k v hk => by
    have hkl := (List.getElem?_eq_some_iff.1 hk).1
    rw [List.length_replicate] at hkl
    rw [List.getElem?_replicate, if_pos hkl] at hk
    cases hk
    rw [Nat.zero_add, cell_of_row _ _ _ _ _ _ h, ← Array.getElem?_toList, hC, List.getElem?_replicate, if_pos hkl]
    exact ⟨rfl, by omega⟩⟩
theorem strs_row2 {w : World} {g : Nat} {a b : ByteArray} (h : w.heap[g]? = some (.cells #[.string a, .string b] 24 (0, 0))) : StrsAt (some ⟨g, 0, none⟩) [a, b] w :=
  .inr ⟨g, 0, rfl, fun k s hk => by
    rw [Nat.zero_add, cell_of_row _ _ _ _ _ _ h]
    have hk2 : k < 2 := (List.getElem?_eq_some_iff.1 hk).1
    rcases (by omega : k = 0 ∨ k = 1) with rfl | rfl <;> (cases hk; rfl)⟩
/-- a Build whose code is known -/
theorem build_code_of {r : ByteArray × List ByteArray × Int} {c : Int} (hr : r.2.2 = c) {w w' : World} {e : Ending} (h : BuildPost r w e w') : Below w.heap.size w w' ∧ ∃ a v, e = .returned (.tuple #[.string a, v, .int .i64 c]) := by
  obtain ⟨h1, v, h2, _⟩ := h
  exact ⟨h1, r.1, v, by rw [h2, hr]⟩
theorem two_small {a b : ByteArray} (ha : a.size ≤ maxLen) (hb : b.size ≤ maxLen) : ∀ d ∈ [a, b], d.size ≤ maxLen := by
  intro d hd
  simp only [List.mem_cons, List.not_mem_nil, or_false] at hd
  rcases hd with rfl | rfl
  · exact ha
  · exact hb
theorem drawn_small {l : List Nat} (hv : ∀ v ∈ l, v ≤ 4294967295) : ∀ d ∈ rDrawn l, d.size ≤ maxLen := by
  intro d hd
  obtain ⟨v, hv', rfl⟩ := List.mem_map.1 hd
  have := (name_rt v (by have := hv v hv'; omega)).1.s
  unfold maxLen; omega
theorem zeros_small (n : Nat) : ∀ v ∈ List.replicate n 0, v ≤ 4294967295 := fun v hv => by have := List.eq_of_mem_replicate hv; omega
set_option maxRecDepth 100000 in
set_option maxHeartbeats 64000000 in
theorem known_any (w : World) (hL : LibOk w) (hT : Tab w) : Calls Tryd.prog 7 #[] w fun e w' => e = .returned (.bool true) ∧ Below w.heap.size w w' := by
  obtain ⟨C20, hC20, hm20⟩ := make_nums 20 (by omega)
  obtain ⟨C21, hC21, hm21⟩ := make_nums 21 (by omega)
  obtain ⟨D1, hD1, hz1⟩ := make_zeros 4096 (by omega)
  obtain ⟨D2, hD2, hz2⟩ := make_zeros 3900 (by omega)
  obtain ⟨D3, hD3, hz3⟩ := make_zeros 4097 (by omega)
  rw [show ((20 : Nat) : Int) = 20 from rfl] at hm20
  rw [show ((21 : Nat) : Int) = 21 from rfl] at hm21
  rw [show ((4096 : Nat) : Int) = 4096 from rfl] at hz1
  rw [show ((3900 : Nat) : Int) = 3900 from rfl] at hz2
  rw [show ((4097 : Nat) : Int) = 4097 from rfl] at hz3
  have ZA1 : Hid (∀ (W : World) (g : Nat), W.heap[g]? = some (.cells D1 5 (0, 0)) → (convert 67 9 (.slice (some ⟨g, 0, none⟩) 4096 4096)).run Tryd.prog W = .ok (.string (zS 4096)) W) := fun W g h => zeros_at 4096 D1 hD1 W g h
  have ZA2 : Hid (∀ (W : World) (g : Nat), W.heap[g]? = some (.cells D2 5 (0, 0)) → (convert 67 9 (.slice (some ⟨g, 0, none⟩) 3900 3900)).run Tryd.prog W = .ok (.string (zS 3900)) W) := fun W g h => zeros_at 3900 D2 hD2 W g h
  have ZA3 : Hid (∀ (W : World) (g : Nat), W.heap[g]? = some (.cells D3 5 (0, 0)) → (convert 67 9 (.slice (some ⟨g, 0, none⟩) 4097 4097)).run Tryd.prog W = .ok (.string (zS 4097)) W) := fun W g h => zeros_at 4097 D3 hD3 W g h
  have HM20 := Lib.hid hm20
  have HM21 := Lib.hid hm21
  have HZ1 := Lib.hid hz1
  have HZ2 := Lib.hid hz2
  have HZ3 := Lib.hid hz3
  have N20 : Hid (∀ (W : World) (g : Nat), W.heap[g]? = some (.cells C20 121 (0, 0)) → NumsAt (some ⟨g, 0, none⟩) z20 W) := fun W g h => nums_at hC20 h
  have N21 : Hid (∀ (W : World) (g : Nat), W.heap[g]? = some (.cells C21 121 (0, 0)) → NumsAt (some ⟨g, 0, none⟩) (List.replicate 21 0) W) := fun W g h => nums_at hC21 h
  clear hC20 hC21 hD1 hD2 hD3 hm20 hm21 hz1 hz2 hz3
  have HL := Lib.hid hL
  have HT := Lib.hid hT
  clear hL hT
  -- the calls with known words
  have P1 : Hid (∀ W, Below w.heap.size w W → Calls Tryd.prog 18 #[.string ⟨#[110, 49, 50, 59]⟩, .string ⟨#[84, 50, 58, 80, 110, 49, 59, 66, 88, 110, 49, 49, 59, 110, 49, 59, 84, 50, 58, 84, 52, 58, 116, 50, 58, 99, 49, 116, 52, 58, 49, 48, 48, 48, 116, 50, 58, 52, 48, 84, 48, 58, 84, 50, 58, 80, 110, 50, 59, 66, 88, 110, 49, 50, 59, 110, 50, 59, 84, 50, 58, 84, 52, 58, 116, 48, 58, 116, 52, 58, 49, 48, 48, 48, 116, 50, 58, 52, 48, 72, 110, 57, 59, 84, 48, 58]⟩, .pointer none] W fun e w' => e = .returned (.tuple #[.agg #[.string ⟨#[]⟩, .int .i64 0, .int .i64 0, .string ⟨#[]⟩, .string ⟨#[]⟩, .string ⟨#[]⟩, .bool false], .int .i64 220]) ∧ Below W.heap.size W w') := fun W h => by
    have hp := opeel_nil xn12 xlit W (by decide) (by rw [← ex_pack]; have := ex_sizes.1; unfold maxLen; omega) (HL.out.below h) (HT.out.below h)
    rw [kn_peel] at hp
    exact hp
  have F1 : Hid (∀ W, Below w.heap.size w W → Calls Tryd.prog 26 #[.string ⟨#[88, 110, 49, 50, 59, 110, 50, 59]⟩, .string ⟨#[108, 97, 116, 101]⟩] W fun e w' => e = .returned (.tuple #[.string ⟨#[66, 68, 88, 110, 49, 50, 59, 110, 50, 59, 116, 52, 58, 98, 97, 99, 107, 84, 50, 58, 116, 52, 58, 102, 97, 105, 108, 116, 52, 58, 108, 97, 116, 101]⟩, .int .i64 0]) ∧ Below W.heap.size W w') := fun W h => by
    have hp := ofail_any xkey2 ⟨#[108, 97, 116, 101]⟩ W (by decide) (by decide) (HL.out.below h) (HT.out.below h)
    rw [kn_fail] at hp
    exact hp
  have W1 : Hid (∀ W, Below w.heap.size w W → Calls Tryd.prog 27 #[.string ⟨#[88, 110, 49, 49, 59, 110, 49, 59]⟩, .string ⟨#[66, 68, 88, 110, 49, 50, 59, 110, 50, 59, 116, 52, 58, 98, 97, 99, 107, 84, 50, 58, 116, 52, 58, 102, 97, 105, 108, 116, 52, 58, 108, 97, 116, 101]⟩] W fun e w' => e = .returned (.tuple #[.string kw, .int .i64 0]) ∧ Below W.heap.size W w') := fun W h => by
    have hp := owrap_any xkey1 kf W (by decide) (by decide) (HL.out.below h)
    rw [kn_wrap] at hp
    exact hp
  have R1 : Hid (∀ W g, StrsAt (some ⟨g, 0, none⟩) [xkey1, xkey2] W → Below w.heap.size w W → Calls Tryd.prog 28 #[.slice (some ⟨g, 0, none⟩) 2 2, .string kw] W fun e w' => e = .returned (.tuple #[.int .i64 1, .string ⟨#[108, 97, 116, 101]⟩, .int .i64 0]) ∧ Below W.heap.size W w') := fun W g hs h => by
    have hp := oread_any (some ⟨g, 0, none⟩) [xkey1, xkey2] 2 kw W hs (two_small (by decide) (by decide)) (by simp) (by decide) (HL.out.below h)
    rw [kn_read] at hp
    exact hp
  have R0 : Hid (∀ W, Below w.heap.size w W → Calls Tryd.prog 28 #[.slice none 0 0, .string kw] W fun e w' => e = .returned (.tuple #[.int .i64 0, .string ⟨#[]⟩, .int .i64 220]) ∧ Below W.heap.size W w') := fun W h => by
    have hp := oread_any none [] 0 kw W (.inl rfl) (by simp) (by simp) (by decide) (HL.out.below h)
    exact hp
  have BB : Hid (∀ W g gj j, j < 8 → StrsAt (some ⟨g, 0, none⟩) [xn1, xn2] W → HopsAt (some ⟨gj, 0, none⟩) (badH j) W → Below w.heap.size w W → Calls Tryd.prog 14 #[.slice (some ⟨g, 0, none⟩) 2 2, .slice (some ⟨gj, 0, none⟩) (badH j).length 2, .string ⟨#[72, 110, 57, 59]⟩] W fun e w' => Below W.heap.size W w' ∧ ∃ a v, e = .returned (.tuple #[.string a, v, .int .i64 (badE j)])) := fun W g gj j hj h1 h2 h3 => by
    have h := obuild_any (some ⟨g, 0, none⟩) [xn1, xn2] 2 (some ⟨gj, 0, none⟩) (badH j) 2 xhn9 W (by simp) (by rw [badH_len j hj]; unfold badN; split <;> omega) h1 (two_small (by decide) (by decide)) h2 (by decide) (HL.out.below h3) (HT.out.below h3)
    exact h.mono fun e w' hh => build_code_of (by rw [badE_build j hj]) hh
  have B1c : Hid (∀ W g gh, StrsAt (some ⟨g, 0, none⟩) [xn1, xn2] W → HopsAt (some ⟨gh, 0, none⟩) [hop1, hop2] W → Below w.heap.size w W → Calls Tryd.prog 14 #[.slice (some ⟨g, 0, none⟩) 2 2, .slice (some ⟨gh, 0, none⟩) 2 2, .string ⟨#[72, 110, 57]⟩] W fun e w' => Below W.heap.size W w' ∧ ∃ a v, e = .returned (.tuple #[.string a, v, .int .i64 10])) := fun W g gh h1 h2 h3 => by
    have h := obuild_any (some ⟨g, 0, none⟩) [xn1, xn2] 2 (some ⟨gh, 0, none⟩) [hop1, hop2] 2 ⟨#[72, 110, 57]⟩ W (by simp) (by simp) h1 (two_small (by decide) (by decide)) h2 (by decide) (HL.out.below h3) (HT.out.below h3)
    exact h.mono fun e w' hh => build_code_of (by rw [kn_b1]) hh
  have B2c : Hid (∀ W, Below w.heap.size w W → Calls Tryd.prog 14 #[.slice none 0 0, .slice none 0 0, .string ⟨#[72, 110, 57, 59]⟩] W fun e w' => Below W.heap.size W w' ∧ ∃ a v, e = .returned (.tuple #[.string a, v, .int .i64 2])) := fun W h3 => by
    have h := obuild_any none [] 0 none [] 0 xhn9 W (by simp) (by simp) (.inl rfl) (by simp) (.inl rfl) (by decide) (HL.out.below h3) (HT.out.below h3)
    exact h.mono fun e w' hh => build_code_of (by rw [kn_b2]) hh
  have B3c : Hid (∀ W g gh, StrsAt (some ⟨g, 0, none⟩) [xn1, ⟨#[86, 110, 49, 59, 110, 50, 59]⟩] W → HopsAt (some ⟨gh, 0, none⟩) [hop1, hop2] W → Below w.heap.size w W → Calls Tryd.prog 14 #[.slice (some ⟨g, 0, none⟩) 2 2, .slice (some ⟨gh, 0, none⟩) 2 2, .string ⟨#[72, 110, 57, 59]⟩] W fun e w' => Below W.heap.size W w' ∧ ∃ a v, e = .returned (.tuple #[.string a, v, .int .i64 10])) := fun W g gh h1 h2 h3 => by
    have h := obuild_any (some ⟨g, 0, none⟩) [xn1, ⟨#[86, 110, 49, 59, 110, 50, 59]⟩] 2 (some ⟨gh, 0, none⟩) [hop1, hop2] 2 xhn9 W (by simp) (by simp) h1 (two_small (by decide) (by decide)) h2 (by decide) (HL.out.below h3) (HT.out.below h3)
    exact h.mono fun e w' hh => build_code_of (by rw [kn_b3]) hh
  have RT : Hid (∀ (W : World) (g n : Nat), n ≤ 100 → NumsAt (some ⟨g, 0, none⟩) (List.replicate n 0) W → Below w.heap.size w W → Calls Tryd.prog 22 #[.slice (some ⟨g, 0, none⟩) n n] W fun e w' => ∃ o1 c1 o2 c2, e = .returned (.tuple #[.slice o1 n c1, .slice o2 n c2]) ∧ StrsAt o1 (rDrawn (List.replicate n 0)) w' ∧ HopsAt o2 (rHops (List.replicate n 0)) w' ∧ Below W.heap.size W w') := fun W g n hn h1 h2 => by
    have h := route_any (some ⟨g, 0, none⟩) (List.replicate n 0) n W h1 (by rw [List.length_replicate]; exact hn) (HL.out.below h2) (HT.out.below h2)
    rw [List.length_replicate] at h
    exact h
  have B4c : Hid (∀ W o1 c1 o2 c2, StrsAt o1 (rDrawn z20) W → HopsAt o2 (rHops z20) W → Below w.heap.size w W → Calls Tryd.prog 14 #[.slice o1 20 c1, .slice o2 20 c2, .string ⟨#[72, 110, 57, 59]⟩] W fun e w' => Below W.heap.size W w' ∧ ∃ g cap, e = .returned (.tuple #[.string (rPk z20 20), .slice (some ⟨g, 0, none⟩) 20 cap, .int .i64 0])) := fun W o1 c1 o2 c2 h1 h2 h3 => by
    have h := obuild_route (l := z20) (by rw [z20_len]; omega) (by rw [z20_len]; omega) z20_small o1 c1 o2 c2 W h1 h2 (HL.out.below h3) (HT.out.below h3)
    rw [z20_len] at h
    exact h.mono fun e w' ⟨a1, g, cap, _, _, a2, _⟩ => ⟨a1, g, cap, a2⟩
  have B5c : Hid (∀ W o1 c1 o2 c2, StrsAt o1 (rDrawn (List.replicate 21 0)) W → HopsAt o2 (rHops (List.replicate 21 0)) W → Below w.heap.size w W → Calls Tryd.prog 14 #[.slice o1 21 c1, .slice o2 21 c2, .string ⟨#[72, 110, 57, 59]⟩] W fun e w' => Below W.heap.size W w' ∧ ∃ a v, e = .returned (.tuple #[.string a, v, .int .i64 2])) := fun W o1 c1 o2 c2 h1 h2 h3 => by
    have h := obuild_any o1 (rDrawn (List.replicate 21 0)) c1 o2 (rHops (List.replicate 21 0)) c2 hn9 W (by rw [rDrawn_len, List.length_replicate]; omega) (by rw [rHops_len, List.length_replicate]; omega) h1 (drawn_small (zeros_small 21)) h2 (by decide) (HL.out.below h3) (HT.out.below h3)
    rw [rDrawn_len, rHops_len, List.length_replicate] at h
    exact h.mono fun e w' hh => build_code_of (by rw [kn_b21 (List.length_replicate)]) hh
  have B6c : Hid (∀ W o1 c1 o2 c2 pay c, pay.size ≤ maxLen → (buildR (rDrawn z20) (rHops z20) pay).2.2 = c → StrsAt o1 (rDrawn z20) W → HopsAt o2 (rHops z20) W → Below w.heap.size w W → Calls Tryd.prog 14 #[.slice o1 20 c1, .slice o2 20 c2, .string pay] W fun e w' => Below W.heap.size W w' ∧ ∃ a v, e = .returned (.tuple #[.string a, v, .int .i64 c])) := fun W o1 c1 o2 c2 pay c hp hc h1 h2 h3 => by
    have h := obuild_any o1 (rDrawn z20) c1 o2 (rHops z20) c2 pay W (by rw [rDrawn_len, z20_len]; omega) (by rw [rHops_len, z20_len]; omega) h1 (drawn_small z20_small) h2 hp (HL.out.below h3) (HT.out.below h3)
    rw [rDrawn_len, rHops_len, z20_len] at h
    exact h.mono fun e w' hh => build_code_of hc hh
  have T1 : Hid (∀ W, Below w.heap.size w W → Calls Tryd.prog 31 #[.string (zS 4096)] W fun e w' => e = .returned (.tuple #[.string zLong, .int .i64 0]) ∧ Below W.heap.size W w') := fun W h => btext_short (zS 4096) W (by rw [zS_size]; omega) (HT.out.below h)
  have T2 : Hid (∀ W, Below w.heap.size w W → Calls Tryd.prog 31 #[.string (zS 3900)] W fun e w' => e = .returned (.tuple #[.string (textS (zS 3900)), .int .i64 0]) ∧ Below W.heap.size W w') := fun W h => btext_short (zS 3900) W (by rw [zS_size]; omega) (HT.out.below h)
  have U1 : Hid (∀ W : World, Below w.heap.size w W → Calls Tryd.prog 32 #[.slice (some ⟨W.heap.size, 0, none⟩) 3 3] (W.alloc (.cells #[.string zLong, .string zLong, .string zLong] 24)) fun e w' => e = .returned (.tuple #[.string zWide, .int .i64 0]) ∧ Below (W.alloc (.cells #[.string zLong, .string zLong, .string zLong] 24)).heap.size (W.alloc (.cells #[.string zLong, .string zLong, .string zLong] 24)) w') := fun W h =>
    (tuple_any (some ⟨W.heap.size, 0, none⟩) [zLong, zLong, zLong] 3 3 _ rfl (by intro v hv; simp at hv; subst hv; have := zLong_rt.s; unfold maxLen; omega) (.inr ⟨W.heap.size, 0, rfl, fun k s hk => by
      rw [Nat.zero_add, cell_of_row _ _ _ _ _ _ (heap_alloc_at W _)]
      have hk2 : k < 3 := (List.getElem?_eq_some_iff.1 hk).1
      rcases (by omega : k = 0 ∨ k = 1 ∨ k = 2) with rfl | rfl | rfl <;> (cases hk; rfl)⟩) ((HL.out.below h).below (below_new' W _)) ((HT.out.below h).below (below_new' W _))).mono fun e w' ⟨a1, a2⟩ => ⟨by rw [a1, tupleV_P, zWide_rt.1]; rfl, a2⟩
  have U2 : Hid (∀ W : World, Below w.heap.size w W → Calls Tryd.prog 32 #[.slice (some ⟨W.heap.size, 0, none⟩) 4 4] (W.alloc (.cells #[.string zLong, .string zLong, .string zLong, .string (textS (zS 3900))] 24)) fun e w' => e = .returned (.tuple #[.string zWider, .int .i64 0]) ∧ Below (W.alloc (.cells #[.string zLong, .string zLong, .string zLong, .string (textS (zS 3900))] 24)).heap.size (W.alloc (.cells #[.string zLong, .string zLong, .string zLong, .string (textS (zS 3900))] 24)) w') := fun W h =>
    (tuple_any (some ⟨W.heap.size, 0, none⟩) [zLong, zLong, zLong, textS (zS 3900)] 4 4 _ rfl (by intro v hv; simp at hv; rcases hv with rfl | rfl; have := zLong_rt.s; unfold maxLen; omega; have := zLast_rt.s; unfold maxLen; omega) strs_four ((HL.out.below h).below (below_new' W _)) ((HT.out.below h).below (below_new' W _))).mono fun e w' ⟨a1, a2⟩ => ⟨by rw [a1, tupleV_P, zWider_rt.1]; rfl, a2⟩
  have RI : Hid (∀ W, Below w.heap.size w W → Calls Tryd.prog 33 #[.string zWider] W fun e w' => e = .returned (.bool true) ∧ Below W.heap.size W w') := fun W h => (oright zWider W (by have := zWider_rt.2.2.2; unfold maxLen; omega) (HL.out.below h)).mono fun e w' ⟨a1, a2⟩ => ⟨by rw [a1, zWider_rt.2.1], a2⟩
  have hGR := (goB_route (l := z20) (by rw [z20_len]; omega) z20_small 20 (by rw [z20_len]; omega)).2.1
  have DE : Hid (∃ dp : Nat, dp ≤ 64 ∧ ∀ W, Below w.heap.size w W → Calls Tryd.prog 34 #[.string (rPk z20 20)] W fun e w' => e = .returned (.int .i64 (dp : Int)) ∧ Below W.heap.size W w') := ⟨deepN (rPk z20 20).data.toList, by have := hGR.d; omega, fun W h => deep_any (rPk z20 20) W (by have := hGR.s; unfold maxLen; omega) (HL.out.below h)⟩
  have F3 : Hid (∀ W, Below w.heap.size w W → Calls Tryd.prog 26 #[.string ⟨#[110, 49, 59]⟩, .string (zS 4097)] W fun e w' => e = .returned (.tuple #[.string ⟨#[]⟩, .int .i64 3]) ∧ Below W.heap.size W w') := fun W h => by
    have hp := ofail_any xn1 (zS 4097) W (by decide) (by rw [zS_size]; unfold maxLen; omega) (HL.out.below h) (HT.out.below h)
    rw [kn_fail3] at hp
    exact hp
  have F4 : Hid (∀ W, Below w.heap.size w W → Calls Tryd.prog 26 #[.string ⟨#[110, 49]⟩, .string ⟨#[120]⟩] W fun e w' => e = .returned (.tuple #[.string ⟨#[]⟩, .int .i64 10]) ∧ Below W.heap.size W w') := fun W h => by
    have hp := ofail_any ⟨#[110, 49]⟩ ⟨#[120]⟩ W (by decide) (by decide) (HL.out.below h) (HT.out.below h)
    rw [kn_fail10] at hp
    exact hp
  have W4 : Hid (∀ W, Below w.heap.size w W → Calls Tryd.prog 27 #[.string ⟨#[110, 49, 59]⟩, .string ⟨#[120]⟩] W fun e w' => e = .returned (.tuple #[.string ⟨#[]⟩, .int .i64 10]) ∧ Below W.heap.size W w') := fun W h => by
    have hp := owrap_any xn1 ⟨#[120]⟩ W (by decide) (by decide) (HL.out.below h)
    rw [kn_wrap10] at hp
    exact hp
  have OD : Hid (∀ W, Below w.heap.size w W → Calls Tryd.prog 35 #[] W fun e w' => e = .returned (.bool true) ∧ Below W.heap.size W w') := fun W h => odd_any W (HL.out.below h) (HT.out.below h)
  have FU : Hid (∀ W, Below w.heap.size w W → Calls Tryd.prog 36 #[] W fun e w' => e = .returned (.bool true) ∧ Below W.heap.size W w') := fun W h => full_any W (HL.out.below h) (HT.out.below h)
  have WO : Hid (∀ W, Below w.heap.size w W → Calls Tryd.prog 12 #[] W fun e w' => e = .returned (.bool true) ∧ Below W.heap.size W w') := fun W h => works_onion W (HL.out.below h) (HT.out.below h)
  have hkw : kw.size ≤ 1000 := by decide
  have SW := Lib.hid (build_big zWide_rt.2 (by omega) (by omega))
  have SV : Hid ((buildR (rDrawn z20) (rHops z20) zWider).2.2 = 3) := by show _ = _; rw [build_wide zWider_rt.2.1 zWider_rt.2.2.1]
  have MW : Hid (zWide.size ≤ maxLen) := by have := zWide_rt.2.s; show _ ≤ _; unfold maxLen; omega
  have MV : Hid (zWider.size ≤ maxLen) := by have := zWider_rt.2.2.2; show _ ≤ _; unfold maxLen; omega
  clear hGR HL HT hkw
  generalize zWider = zv at B6c U2 RI SV MV
  generalize zWide = zw at B6c U1 SW MW
  generalize textS (zS 3900) = zl at T2 U2
  generalize zLong = zg at T1 U1 U2
  generalize rPk z20 20 = zp at B4c DE
  generalize zS 4096 = s1 at ZA1 T1
  generalize zS 3900 = s2 at ZA2 T2
  generalize zS 4097 = s3 at ZA3 F3
  generalize kw = kx at W1 R1 R0
  go_enter Tryd.func7, Tryd.ntmps7
  go_upto_region 2 with fail
  have K1 := Lib.hid (heap_alloc_at w (.cells #[.string ⟨#[110, 49, 59]⟩, .string ⟨#[110, 50, 59]⟩] 24))
  have B1 := Lib.hid (below_new' w (.cells #[.string ⟨#[110, 49, 59]⟩, .string ⟨#[110, 50, 59]⟩] 24))
  generalize w.alloc (.cells #[.string ⟨#[110, 49, 59]⟩, .string ⟨#[110, 50, 59]⟩] 24) = wa at K1 B1 ⊢
  obtain ⟨g1, hg1⟩ : ∃ g1, w.heap.size = g1 := ⟨_, rfl⟩
  rw [hg1] at K1 ⊢
  clear hg1
  have SA : Hid (StrsAt (some ⟨g1, 0, none⟩) [xn1, xn2] wa) := strs_row2 K1.out
  clear K1
  go_upto_region 3 with (go_at_call 18; (with_reducible refine Calls.mono (P1.out _ B1.out) ?_); rintro e w2 ⟨rfl, hb⟩; have B2 := Lib.hid (B1.out.trans (hb.mono B1.out.size)); have S2 := Lib.hid (SA.out.below hb); clear hb)
  have nb := below_new' w2 (.cells #[.string ⟨#[]⟩, .int .i64 0, .int .i64 0, .string ⟨#[]⟩, .string ⟨#[]⟩, .string ⟨#[]⟩, .bool false] 41)
  have B3 := Lib.hid (B2.out.trans (nb.mono B2.out.size))
  have S3 := Lib.hid (S2.out.below nb)
  clear nb SA
  generalize w2.alloc (.cells #[.string ⟨#[]⟩, .int .i64 0, .int .i64 0, .string ⟨#[]⟩, .string ⟨#[]⟩, .string ⟨#[]⟩, .bool false] 41) = w3 at B3 S3 ⊢
  generalize w2.heap.size = yb
  go_upto_region 5 with (first
    | (go_at_call 26; (with_reducible refine Calls.mono (F1.out _ B3.out) ?_); rintro e w4 ⟨rfl, hb⟩; have B4 := Lib.hid (B3.out.trans (hb.mono B3.out.size)); have S4 := Lib.hid (S3.out.below hb); clear hb)
    | (go_at_call 27; (with_reducible refine Calls.mono (W1.out _ B4.out) ?_); rintro e w5 ⟨rfl, hb⟩; have B5 := Lib.hid (B4.out.trans (hb.mono B4.out.size)); have S5 := Lib.hid (S4.out.below hb); clear hb))
  have nb := below_new' w5 (.cells #[.string ⟨#[88, 110, 49, 49, 59, 110, 49, 59]⟩, .string ⟨#[88, 110, 49, 50, 59, 110, 50, 59]⟩] 24)
  have B6 := Lib.hid (B5.out.trans (nb.mono B5.out.size))
  have S6 := Lib.hid (S5.out.below nb)
  have KS : Hid (StrsAt (some ⟨w5.heap.size, 0, none⟩) [xkey1, xkey2] (w5.alloc (.cells #[.string ⟨#[88, 110, 49, 49, 59, 110, 49, 59]⟩, .string ⟨#[88, 110, 49, 50, 59, 110, 50, 59]⟩] 24))) := strs_row2 (heap_alloc_at w5 (.cells #[.string ⟨#[88, 110, 49, 49, 59, 110, 49, 59]⟩, .string ⟨#[88, 110, 49, 50, 59, 110, 50, 59]⟩] 24))
  clear nb
  go_upto_region 8 with (first
    | (go_at_call 28; (with_reducible refine Calls.mono (R1.out _ _ KS.out B6.out) ?_); rintro e w7 ⟨rfl, hb⟩; have B7 := Lib.hid (B6.out.trans (hb.mono B6.out.size)); have S7 := Lib.hid (S6.out.below hb); clear hb)
    | (go_at_call 29; (with_reducible refine Calls.mono (refused_any _) ?_); rintro e w8 ⟨hb, gr, cr, rfl, hr⟩; have B8 := Lib.hid (B7.out.trans (hb.mono B7.out.size)); have S8 := Lib.hid (S7.out.below hb); have RF := Lib.hid hr; clear hb hr))
  -- the loop over what is refused
  have nb := below_new' w8 (.cells #[.int .i64 2, .int .i64 2, .int .i64 2, .int .i64 40, .int .i64 10, .int .i64 2, .int .i64 2, .int .i64 10] 28)
  have B9 := Lib.hid (B8.out.trans (nb.mono B8.out.size))
  have S9 := Lib.hid (S8.out.below nb)
  have KE := Lib.hid (heap_alloc_at w8 (.cells #[.int .i64 2, .int .i64 2, .int .i64 2, .int .i64 40, .int .i64 10, .int .i64 2, .int .i64 2, .int .i64 10] 28))
  have RF9 : Hid (∀ j, j < 8 → ∃ gj, (w8.alloc (.cells #[.int .i64 2, .int .i64 2, .int .i64 2, .int .i64 40, .int .i64 10, .int .i64 2, .int .i64 2, .int .i64 10] 28)).cell? ⟨gr, j, none⟩ = some (.slice (some ⟨gj, 0, none⟩) (badH j).length 2) ∧ HopsAt (some ⟨gj, 0, none⟩) (badH j) (w8.alloc (.cells #[.int .i64 2, .int .i64 2, .int .i64 2, .int .i64 40, .int .i64 10, .int .i64 2, .int .i64 2, .int .i64 10] 28))) := fun j hj => by
    obtain ⟨gj, h1, h2⟩ := RF.out j hj
    exact ⟨gj, cell_later' nb h1, h2.below nb⟩
  clear nb RF S8 S7 S6 S5 S4 S3 KS
  go_upto_region 9 with fail
  generalize w8.alloc (.cells #[.int .i64 2, .int .i64 2, .int .i64 2, .int .i64 40, .int .i64 10, .int .i64 2, .int .i64 2, .int .i64 10] 28) = w9 at B9 S9 KE RF9 ⊢
  generalize w8.heap.size = ge at KE ⊢
  have WC : Hid (∀ j : Nat, j < 8 → w9.cell? ⟨ge, j, none⟩ = some (.int .i64 (badE j))) := fun j hj => by
    rw [cell_of_row _ _ _ _ _ _ KE.out]
    rcases (by omega : j = 0 ∨ j = 1 ∨ j = 2 ∨ j = 3 ∨ j = 4 ∨ j = 5 ∨ j = 6 ∨ j = 7) with rfl | rfl | rfl | rfl | rfl | rfl | rfl | rfl <;> rfl
  clear KE
  go_wp2_with fail
  go_loopw [14] (fun iv wr => ∃ i : Nat, i ≤ 8 ∧ iv = .int .i64 i ∧ Hid (Below w9.heap.size w9 wr)) (fun iv _ => 8 - (intOf iv).toNat)
  case atStart => exact ⟨0, by omega, rfl, Below.refl _ _⟩
  case round =>
    obtain ⟨i, hi, rfl, hB⟩ := hrel
    have BW := Lib.hid (B9.out.trans (hB.out.mono B9.out.size))
    by_cases hlt : i < 8
    · obtain ⟨gj, h1, h2⟩ := RF9.out i hlt
      have c0 := cell_later' hB.out h1
      have c1 := cell_later' hB.out (WC.out i hlt)
      have C14 := Lib.hid (BB.out wr g1 gj i hlt (S9.out.below hB.out) (h2.below hB.out) BW.out)
      have HC1 : Hid (∀ W, Below wr.heap.size wr W → W.cell? ⟨ge, i, none⟩ = some (.int .i64 (badE i))) := fun W h => cell_later' h c1
      generalize (badH i).length = bl at c0 C14
      generalize badE i = be at c1 C14 HC1
      have hii : (i : Int) < 8 := by omega
      clear h1 h2
      go_wp2_with (go_at_call 14; (with_reducible refine Calls.mono C14.out ?_); rintro e w10 ⟨hb, ra, rv, rfl⟩; have B10 := Lib.hid (hB.out.trans (hb.mono hB.out.size)); have c2 := HC1.out _ hb; clear hb)
      go_roundw
      case rel => exact ⟨i + 1, by omega, by go_num, B10.out⟩
      case measure => simp [intOf]; omega
    · obtain rfl : i = 8 := by omega
      rw [show ((8 : Nat) : Int) = 8 from rfl]
      have S10 := Lib.hid (S9.out.below hB.out)
      clear RF9 WC S9 B9 BB hB
      go_upto_region 17 with (first
        | (go_at_call 30; (with_reducible refine Calls.mono (hops_fresh _) ?_); rintro e w11 ⟨gh, rfl, hgh, hch, hb⟩; have B11 := Lib.hid (BW.out.trans (hb.mono BW.out.size)); have S11 := Lib.hid (S10.out.below hb); have H11 := Lib.hid (hopsAt_two hch); clear hb hch hgh)
        | (go_at_call 14; (with_reducible refine Calls.mono (B1c.out _ _ _ S11.out H11.out B11.out) ?_); rintro e w12 ⟨hb, ra, rv, rfl⟩; have B12 := Lib.hid (B11.out.trans (hb.mono B11.out.size)); clear hb)
        | (go_at_call 14; (with_reducible refine Calls.mono (B2c.out _ B12.out) ?_); rintro e w13 ⟨hb, ra2, rv2, rfl⟩; have B13 := Lib.hid (B12.out.trans (hb.mono B12.out.size)); clear hb))
      have nb := below_new' w13 (.cells #[.string ⟨#[110, 49, 59]⟩, .string ⟨#[86, 110, 49, 59, 110, 50, 59]⟩] 24)
      have B14 := Lib.hid (B13.out.trans (nb.mono B13.out.size))
      have S14 : Hid (StrsAt (some ⟨w13.heap.size, 0, none⟩) [xn1, ⟨#[86, 110, 49, 59, 110, 50, 59]⟩] (w13.alloc (.cells #[.string ⟨#[110, 49, 59]⟩, .string ⟨#[86, 110, 49, 59, 110, 50, 59]⟩] 24))) := strs_row2 (heap_alloc_at w13 (.cells #[.string ⟨#[110, 49, 59]⟩, .string ⟨#[86, 110, 49, 59, 110, 50, 59]⟩] 24))
      clear nb S11 H11 S10
      go_upto_region 19 with (first
        | (go_at_call 30; (with_reducible refine Calls.mono (hops_fresh _) ?_); rintro e w15 ⟨gh, rfl, hgh, hch, hb⟩; have B15 := Lib.hid (B14.out.trans (hb.mono B14.out.size)); have S15 := Lib.hid (S14.out.below hb); have H15 := Lib.hid (hopsAt_two hch); clear hb hch hgh)
        | (go_at_call 14; (with_reducible refine Calls.mono (B3c.out _ _ _ S15.out H15.out B15.out) ?_); rintro e w16 ⟨hb, ra3, rv3, rfl⟩; have B16 := Lib.hid (B15.out.trans (hb.mono B15.out.size)); clear hb))
      clear S14 S15 H15 B1c B2c B3c
      -- twenty hops, and one more
      have hm20 := HM20.out w16
      go_upto_region 20 with fail
      have nb := below_new' w16 (.cells C20 121)
      have B17 := Lib.hid (B16.out.trans (nb.mono B16.out.size))
      have NA : Hid (NumsAt (some ⟨w16.heap.size, 0, none⟩) (List.replicate 20 0) (w16.alloc (.cells C20 121))) := N20.out _ _ (heap_alloc_at w16 (.cells C20 121))
      clear nb hm20
      generalize w16.alloc (.cells C20 121) = w17 at B17 NA ⊢
      generalize w16.heap.size = gz at NA ⊢
      go_upto_region 22 with (first
        | (go_at_call 22; (with_reducible refine Calls.mono (RT.out w17 gz 20 (by omega) NA.out B17.out) ?_); rintro e w18 ⟨o1, c1, o2, c2, rfl, hd, hh, hb⟩; have B18 := Lib.hid (B17.out.trans (hb.mono B17.out.size)); have DD : Hid (StrsAt o1 (rDrawn z20) w18) := hd; have HH : Hid (HopsAt o2 (rHops z20) w18) := hh; clear hb hd hh)
        | (go_at_call 14; (with_reducible refine Calls.mono (B4c.out _ _ _ _ _ DD.out HH.out B18.out) ?_); rintro e w19 ⟨hb, gk, ck, rfl⟩; have B19 := Lib.hid (B18.out.trans (hb.mono B18.out.size)); have DD19 := Lib.hid (StrsAt.below DD.out hb); have HH19 := Lib.hid (HopsAt.below HH.out hb); clear hb))
      have hm21 := HM21.out w19
      have nb := below_new' w19 (.cells C21 121)
      have B20 := Lib.hid (B19.out.trans (nb.mono B19.out.size))
      have NA1 := Lib.hid (N21.out _ _ (heap_alloc_at w19 (.cells C21 121)))
      have DD20 := Lib.hid (StrsAt.below DD19.out nb)
      have HH20 := Lib.hid (HopsAt.below HH19.out nb)
      clear nb DD HH DD19 HH19 NA
      go_upto_region 24 with (first
        | (go_at_call 22; (with_reducible refine Calls.mono (RT.out _ _ 21 (by omega) NA1.out B20.out) ?_); rintro e w21 ⟨o3, c3, o4, c4, rfl, hd, hh, hb⟩; have B21 := Lib.hid (B20.out.trans (hb.mono B20.out.size)); have DX := Lib.hid hd; have HX := Lib.hid hh; have DD21 := Lib.hid (StrsAt.below DD20.out hb); have HH21 := Lib.hid (HopsAt.below HH20.out hb); clear hb hd hh)
        | (go_at_call 14; (with_reducible refine Calls.mono (B5c.out _ _ _ _ _ DX.out HX.out B21.out) ?_); rintro e w22 ⟨hb, ra4, rv4, rfl⟩; have B22 := Lib.hid (B21.out.trans (hb.mono B21.out.size)); have DD22 := Lib.hid (StrsAt.below DD21.out hb); have HH22 := Lib.hid (HopsAt.below HH21.out hb); clear hb))
      clear DX HX DD20 HH20 DD21 HH21 NA1 hm21 B4c B5c RT N20 N21
      -- terms that are too long
      have hz1 := HZ1.out w22
      have hcv := ZA1.out (w22.alloc (.cells D1 5)) w22.heap.size (heap_alloc_at w22 _)
      have nb := below_new' w22 (.cells D1 5)
      have B23 := Lib.hid (B22.out.trans (nb.mono B22.out.size))
      have DD23 := Lib.hid (StrsAt.below DD22.out nb)
      have HH23 := Lib.hid (HopsAt.below HH22.out nb)
      clear nb DD22 HH22
      go_upto_region 25 with (go_at_call 31; (with_reducible refine Calls.mono (T1.out _ B23.out) ?_); rintro e w24 ⟨rfl, hb⟩; have B24 := Lib.hid (B23.out.trans (hb.mono B23.out.size)); have DD24 := Lib.hid (StrsAt.below DD23.out hb); have HH24 := Lib.hid (HopsAt.below HH23.out hb); clear hb)
      clear hz1 hcv DD23 HH23
      have nb := below_new' w24 (.cells #[.string zg, .string zg, .string zg] 24)
      have B25 := Lib.hid (B24.out.trans (nb.mono B24.out.size))
      have DD25 := Lib.hid (StrsAt.below DD24.out nb)
      have HH25 := Lib.hid (HopsAt.below HH24.out nb)
      clear nb DD24 HH24
      go_upto_region 27 with (first
        | (go_at_call 32; (with_reducible refine Calls.mono (U1.out _ B24.out) ?_); rintro e w26 ⟨rfl, hb⟩; have B26 := Lib.hid (B25.out.trans (hb.mono B25.out.size)); have DD26 := Lib.hid (StrsAt.below DD25.out hb); have HH26 := Lib.hid (HopsAt.below HH25.out hb); clear hb)
        | (go_at_call 14; (with_reducible refine Calls.mono (B6c.out _ _ _ _ _ zw 0 MW.out SW.out DD26.out HH26.out B26.out) ?_); rintro e w27 ⟨hb, ra5, rv5, rfl⟩; have B27 := Lib.hid (B26.out.trans (hb.mono B26.out.size)); have DD27 := Lib.hid (StrsAt.below DD26.out hb); have HH27 := Lib.hid (HopsAt.below HH26.out hb); clear hb))
      clear DD25 HH25 DD26 HH26
      have hz2 := HZ2.out w27
      have hcv := ZA2.out (w27.alloc (.cells D2 5)) w27.heap.size (heap_alloc_at w27 _)
      have nb := below_new' w27 (.cells D2 5)
      have B28 := Lib.hid (B27.out.trans (nb.mono B27.out.size))
      have DD28 := Lib.hid (StrsAt.below DD27.out nb)
      have HH28 := Lib.hid (HopsAt.below HH27.out nb)
      clear nb DD27 HH27
      go_upto_region 28 with (go_at_call 31; (with_reducible refine Calls.mono (T2.out _ B28.out) ?_); rintro e w29 ⟨rfl, hb⟩; have B29 := Lib.hid (B28.out.trans (hb.mono B28.out.size)); have DD29 := Lib.hid (StrsAt.below DD28.out hb); have HH29 := Lib.hid (HopsAt.below HH28.out hb); clear hb)
      clear hz2 hcv DD28 HH28
      have nb := below_new' w29 (.cells #[.string zg, .string zg, .string zg, .string zl] 24)
      have B30 := Lib.hid (B29.out.trans (nb.mono B29.out.size))
      have DD30 := Lib.hid (StrsAt.below DD29.out nb)
      have HH30 := Lib.hid (HopsAt.below HH29.out nb)
      clear nb DD29 HH29
      go_upto_region 30 with (first
        | (go_at_call 32; (with_reducible refine Calls.mono (U2.out _ B29.out) ?_); rintro e w31 ⟨rfl, hb⟩; have B31 := Lib.hid (B30.out.trans (hb.mono B30.out.size)); have DD31 := Lib.hid (StrsAt.below DD30.out hb); have HH31 := Lib.hid (HopsAt.below HH30.out hb); clear hb)
        | (go_at_call 14; (with_reducible refine Calls.mono (B6c.out _ _ _ _ _ zv 3 MV.out SV.out DD31.out HH31.out B31.out) ?_); rintro e w32 ⟨hb, ra6, rv6, rfl⟩; have B32 := Lib.hid (B31.out.trans (hb.mono B31.out.size)); clear hb))
      clear DD30 HH30 DD31 HH31 B6c U1 U2 T1 T2
      obtain ⟨dp, hdp, hde⟩ := DE.out
      have HDE := Lib.hid hde
      have hdi : (dp : Int) ≤ 64 := by omega
      clear hde DE
      go_upto_region 31 with (first
        | (go_at_call 33; (with_reducible refine Calls.mono (RI.out _ B32.out) ?_); rintro e w33 ⟨rfl, hb⟩; have B33 := Lib.hid (B32.out.trans (hb.mono B32.out.size)); clear hb)
        | (go_at_call 34; (with_reducible refine Calls.mono (HDE.out _ B33.out) ?_); rintro e w34 ⟨rfl, hb⟩; have B34 := Lib.hid (B33.out.trans (hb.mono B33.out.size)); clear hb))
      have hz3 := HZ3.out w34
      have hcv := ZA3.out (w34.alloc (.cells D3 5)) w34.heap.size (heap_alloc_at w34 _)
      have nb := below_new' w34 (.cells D3 5)
      have B35 := Lib.hid (B34.out.trans (nb.mono B34.out.size))
      clear nb
      go_upto_region 32 with (go_at_call 26; (with_reducible refine Calls.mono (F3.out _ B35.out) ?_); rintro e w36 ⟨rfl, hb⟩; have B36 := Lib.hid (B35.out.trans (hb.mono B35.out.size)); clear hb)
      clear hz3 hcv
      go_wp2_with (first
        | (go_at_call 26; (with_reducible refine Calls.mono (F4.out _ B36.out) ?_); rintro e w37 ⟨rfl, hb⟩; have B37 := Lib.hid (B36.out.trans (hb.mono B36.out.size)); clear hb)
        | (go_at_call 27; (with_reducible refine Calls.mono (W4.out _ B37.out) ?_); rintro e w38 ⟨rfl, hb⟩; have B38 := Lib.hid (B37.out.trans (hb.mono B37.out.size)); clear hb)
        | (go_at_call 28; (with_reducible refine Calls.mono (R0.out _ B38.out) ?_); rintro e w39 ⟨rfl, hb⟩; have B39 := Lib.hid (B38.out.trans (hb.mono B38.out.size)); clear hb)
        | (go_at_call 21; (with_reducible refine Calls.mono (seen_nil _) ?_); rintro e w40 ⟨rfl, hb⟩; have B40 := Lib.hid (B39.out.trans (hb.mono B39.out.size)); clear hb)
        | (go_at_call 35; (with_reducible refine Calls.mono (OD.out _ B40.out) ?_); rintro e w41 ⟨rfl, hb⟩; have B41 := Lib.hid (B40.out.trans (hb.mono B40.out.size)); clear hb)
        | (go_at_call 36; (with_reducible refine Calls.mono (FU.out _ B41.out) ?_); rintro e w42 ⟨rfl, hb⟩; have B42 := Lib.hid (B41.out.trans (hb.mono B41.out.size)); clear hb)
        | (go_at_call 12; (with_reducible refine Calls.mono (WO.out _ B42.out) ?_); rintro e w43 ⟨rfl, hb⟩; have B43 := Lib.hid (B42.out.trans (hb.mono B42.out.size)); clear hb))
      go_ret
      exact ⟨rfl, B43.out⟩
end Go.Proofs.YtbdimlppnhcicaaDoor
