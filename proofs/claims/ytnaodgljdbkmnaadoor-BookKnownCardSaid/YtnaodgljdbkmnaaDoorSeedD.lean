/- seed: a store, in memory; New, Count; nil stores. -/
import Derived.Test.YtnaodgljdbkmnaaDoorSeedC
import Derived.Laws.Rows
namespace Go.Proofs.YtnaodgljdbkmnaaDoor
set_option linter.unusedVariables false
open Go.RowKit
/-- what a spot keeps: a place, and its secret -/
abbrev Spot := Option (Nat × List UInt8)
def spotL : Spot → List Value
  | some (p, t) => [.int .i64 p, .string ⟨t.toArray⟩, .bool true]
  | none => [.int .i64 0, .string ⟨#[]⟩, .bool false]
def spotsL (g : Nat → Spot) : Nat → List Value
  | 0 => []
  | k + 1 => spotsL g k ++ spotL (g k)
def stL (g : Nat → Spot) (n : Nat) : List Value := spotsL g 21 ++ [.int .i64 n]
theorem spotL_len (x : Spot) : (spotL x).length = 3 := by rcases x with _ | ⟨p, t⟩ <;> rfl
theorem spotsL_len (g : Nat → Spot) : ∀ k, (spotsL g k).length = 3 * k
  | 0 => rfl
  | k + 1 => by rw [spotsL, List.length_append, spotsL_len g k, spotL_len]; omega
theorem spotsL_at (g : Nat → Spot) : ∀ k b, b < k → ∀ j, j < 3 → (spotsL g k)[b * 3 + j]? = (spotL (g b))[j]?
  | k + 1, b, hb, j, hj => by
    rw [spotsL]
    rcases Nat.lt_or_ge b k with h | h
    · rw [List.getElem?_append_left (by rw [spotsL_len]; omega)]
      exact spotsL_at g k b h j hj
    · obtain rfl : b = k := by omega
      rw [List.getElem?_append_right (by rw [spotsL_len]; omega), spotsL_len]
      congr 1
      omega
theorem stL_len (g : Nat → Spot) (n : Nat) : (stL g n).length = 64 := by
  unfold stL
  rw [List.length_append, spotsL_len]; rfl
theorem stL_at (g : Nat → Spot) (n : Nat) {b j : Nat} (hb : b < 21) (hj : j < 3) : (stL g n)[b * 3 + j]? = (spotL (g b))[j]? := by
  unfold stL
  rw [List.getElem?_append_left (by rw [spotsL_len]; omega)]
  exact spotsL_at g 21 b hb j hj
theorem stL_n (g : Nat → Spot) (n : Nat) : (stL g n)[63]? = some (.int .i64 n) := by
  unfold stL
  rw [List.getElem?_append_right (by rw [spotsL_len]; omega), spotsL_len]
  rfl
theorem stL_ext {L : List Value} {g : Nat → Spot} {n : Nat} (hl : L.length = 64) (h1 : ∀ b j, b < 21 → j < 3 → L[b * 3 + j]? = (spotL (g b))[j]?) (h2 : L[63]? = some (.int .i64 n)) : L = stL g n := by
  apply List.ext_getElem?
  intro m
  rcases Nat.lt_or_ge m 63 with h | h
  · have e : m = m / 3 * 3 + m % 3 := by omega
    rw [e, h1 _ _ (by omega) (by omega), stL_at g n (by omega) (by omega)]
  · rcases Nat.lt_or_ge m 64 with h' | h'
    · obtain rfl : m = 63 := by omega
      rw [h2, stL_n]
    · rw [List.getElem?_eq_none (by omega), List.getElem?_eq_none (by rw [stL_len]; omega)]
/-- a store lies there -/
def StAt (w : World) (sb : Nat) (g : Nat → Spot) (n : Nat) : Prop := w.heap[sb]? = some (.cells (stL g n).toArray 85 (0, 0))
theorem StAt.cell {w : World} {sb : Nat} {g : Nat → Spot} {n : Nat} (h : StAt w sb g n) {b j : Nat} (hb : b < 21) (hj : j < 3) : w.cell? ⟨sb, b * 3 + j, none⟩ = (spotL (g b))[j]? := by
  rw [cell_of_row _ _ _ _ _ _ h, List.getElem?_toArray, stL_at g n hb hj]
theorem StAt.cellN {w : World} {sb : Nat} {g : Nat → Spot} {n : Nat} (h : StAt w sb g n) : w.cell? ⟨sb, 63, none⟩ = some (.int .i64 n) := by
  rw [cell_of_row _ _ _ _ _ _ h, List.getElem?_toArray, stL_n]
theorem StAt.lt {w : World} {sb : Nat} {g : Nat → Spot} {n : Nat} (h : StAt w sb g n) : sb < w.heap.size := by
  rcases Nat.lt_or_ge sb w.heap.size with h' | h'
  · exact h'
  · unfold StAt at h; rw [Array.getElem?_eq_none h'] at h; cases h
theorem StAt.below {w w' : World} {sb : Nat} {g : Nat → Spot} {n : Nat} (h : StAt w sb g n) (hb : Below w.heap.size w w') : StAt w' sb g n := (hb.block sb h.lt).trans h
theorem StAt.frozen {w : World} {sb : Nat} {g : Nat → Spot} {n : Nat} (h : StAt w sb g n) (o : Nat) : w.frozen? ⟨sb, o, none⟩ = false := frozen_of_row _ _ _ _ _ h
theorem StAt.set {w : World} {sb : Nat} {g : Nat → Spot} {n k : Nat} (h : StAt w sb g n) (hk : k < 21) (x : Spot) (a0 a1 a2 : Value) (hx : spotL x = [a0, a1, a2]) :
    StAt (((w.setCell ⟨sb, k * 3, none⟩ a0).setCell ⟨sb, k * 3 + 1, none⟩ a1).setCell ⟨sb, k * 3 + 2, none⟩ a2) sb (fun b => if b = k then x else g b) n := by
  have h0 := heap_setCell_same _ sb (k * 3) _ 85 a0 h
  have h1 := heap_setCell_same _ sb (k * 3 + 1) _ 85 a1 h0
  have h2 := heap_setCell_same _ sb (k * 3 + 2) _ 85 a2 h1
  have key : (((stL g n).set (k * 3) a0).set (k * 3 + 1) a1).set (k * 3 + 2) a2 = stL (fun b => if b = k then x else g b) n := ?_
  · unfold StAt
    rw [h2, List.setIfInBounds_toArray, List.setIfInBounds_toArray, List.setIfInBounds_toArray, key]
  refine stL_ext (by rw [List.length_set, List.length_set, List.length_set, stL_len]) (fun b j hb hj => ?_) ?_
  · have e := stL_at g n hb hj
    by_cases hbk : b = k
    · subst hbk
      rw [if_pos rfl, hx]
      rcases (by omega : j = 0 ∨ j = 1 ∨ j = 2) with rfl | rfl | rfl
      · rw [List.getElem?_set_ne (by omega), List.getElem?_set_ne (by omega), Nat.add_zero, List.getElem?_set_self (by rw [stL_len]; omega)]; rfl
      · rw [List.getElem?_set_ne (by omega), List.getElem?_set_self (by rw [List.length_set, stL_len]; omega)]; rfl
      · rw [List.getElem?_set_self (by rw [List.length_set, List.length_set, stL_len]; omega)]; rfl
    · rw [if_neg hbk, List.getElem?_set_ne (by omega), List.getElem?_set_ne (by omega), List.getElem?_set_ne (by omega), e]
  · rw [List.getElem?_set_ne (by omega), List.getElem?_set_ne (by omega), List.getElem?_set_ne (by omega), stL_n]
theorem StAt.setN {w : World} {sb : Nat} {g : Nat → Spot} {n : Nat} (h : StAt w sb g n) (m : Nat) : StAt (w.setCell ⟨sb, 63, none⟩ (.int .i64 m)) sb g m := by
  have h0 := heap_setCell_same _ sb 63 _ 85 (.int .i64 m) h
  have key : (stL g n).set 63 (.int .i64 m) = stL g m := ?_
  · unfold StAt
    rw [h0, List.setIfInBounds_toArray, key]
  refine stL_ext (by rw [List.length_set, stL_len]) (fun b j hb hj => ?_) ?_
  · rw [List.getElem?_set_ne (by omega), stL_at g n hb hj]
  · rw [List.getElem?_set_self (by rw [stL_len]; omega)]
set_option maxRecDepth 100000 in
set_option maxHeartbeats 4000000 in
theorem new_any (w : World) : Calls Tryd.prog 16 #[] w fun e w' => e = .returned (.pointer (some ⟨w.heap.size, 0, none⟩)) ∧ StAt w' w.heap.size (fun _ => none) 0 ∧ Below w.heap.size w w' := by
  go_enter Tryd.func16, Tryd.ntmps16
  go_wp2
  go_ret
  refine ⟨rfl, ?_, (Below.refl _ _).alloc (Nat.le_refl _) _⟩
  unfold StAt
  rw [heap_alloc_at]
  rfl
set_option maxRecDepth 100000 in
set_option maxHeartbeats 4000000 in
theorem count_nil (w : World) : Calls Tryd.prog 18 #[.pointer none] w fun e w' => e = .returned (.int .i64 0) ∧ Below w.heap.size w w' := by
  go_enter Tryd.func18, Tryd.ntmps18
  go_wp2
  go_ret
  exact ⟨rfl, Below.refl _ _⟩
set_option maxRecDepth 100000 in
set_option maxHeartbeats 4000000 in
theorem count_any (sb : Nat) (g : Nat → Spot) (n : Nat) (w : World) (h : StAt w sb g n) : Calls Tryd.prog 18 #[.pointer (some ⟨sb, 0, none⟩)] w fun e w' => e = .returned (.int .i64 n) ∧ Below w.heap.size w w' := by
  have hc := h.cellN
  clear h
  go_enter Tryd.func18, Tryd.ntmps18
  go_wp2
  go_ret
  exact ⟨rfl, Below.refl _ _⟩
set_option maxRecDepth 100000 in
set_option maxHeartbeats 4000000 in
theorem kept_nil (w : World) : Calls Tryd.prog 19 #[.pointer none] w fun e w' => e = .returned (.int .i64 0) ∧ Below w.heap.size w w' := by
  go_enter Tryd.func19, Tryd.ntmps19
  go_wp2
  go_ret
  exact ⟨rfl, Below.refl _ _⟩
set_option maxRecDepth 100000 in
set_option maxHeartbeats 4000000 in
theorem copy_nil (w : World) : Calls Tryd.prog 23 #[.pointer none] w fun e w' => e = .returned (.pointer none) ∧ Below w.heap.size w w' := by
  go_enter Tryd.func23, Tryd.ntmps23
  go_wp2
  go_ret
  exact ⟨rfl, Below.refl _ _⟩
set_option maxRecDepth 100000 in
set_option maxHeartbeats 4000000 in
theorem get_nil (i : Int) (w : World) : Calls Tryd.prog 20 #[.pointer none, .int .i64 i] w fun e w' => e = .returned (.tuple #[.string ⟨#[]⟩, .int .i64 1]) ∧ Below w.heap.size w w' := by
  go_enter Tryd.func20, Tryd.ntmps20
  go_wp2
  go_ret2
  exact ⟨rfl, Below.refl _ _⟩
set_option maxRecDepth 100000 in
set_option maxHeartbeats 4000000 in
theorem add_nil (i : Int) (t : ByteArray) (w : World) : Calls Tryd.prog 17 #[.pointer none, .int .i64 i, .string t] w fun e w' => e = .returned (.int .i64 1) ∧ Below w.heap.size w w' := by
  go_enter Tryd.func17, Tryd.ntmps17
  go_wp2
  go_ret
  exact ⟨rfl, Below.refl _ _⟩
end Go.Proofs.YtnaodgljdbkmnaaDoor
