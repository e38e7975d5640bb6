/- relay: nil relays, the examples' calls. -/
import Derived.Test.YtjdbnaedlljfhaaKnownP
import Derived.Test.YtjdbnaedlljfhaaWorks
namespace Go.Proofs.Ytjdbnaedlljfhaa
set_option linter.unusedVariables false
open Go.RowKit
set_option maxRecDepth 100000 in
set_option maxHeartbeats 2000000 in
theorem circuit_any (a : ByteArray) (i : Int) (b : ByteArray) (k : Int) (w : World) : Calls Try.prog 27 #[.string a, .int .i64 i, .string b, .int .i64 k] w fun e w' => e = .returned (mkC a i b k).val ∧ Below w.heap.size w w' := by
  go_enter Try.func27, Try.ntmps27
  go_wp2
  exact bodyPost_ret (v := (mkC a i b k).val) (by simp [results, Try.results27, go_sem, mkC, Circ.val]) rfl ⟨rfl, (by (repeat' (first | (with_reducible exact Below.refl _ _) | (with_reducible refine Below.alloc ?_ ?_ _) | (with_reducible refine Below.drew ?_) | (with_reducible refine Below.setCell ?_ ?_ _) | go_size)))⟩
set_option maxRecDepth 100000 in
set_option maxHeartbeats 2000000 in
theorem in_nil (n : ByteArray) (i : Int) (w : World) : Calls Try.prog 15 #[.pointer none, .string n, .int .i64 i] w fun e w' => e = .returned (.tuple #[Circ.zero.val, .bool false]) ∧ Below w.heap.size w w' := by
  go_enter Try.func15, Try.ntmps15
  go_wp2
  exact bodyPost_ret (v := .tuple #[Circ.zero.val, .bool false]) (by simp [results, Try.results15, go_sem, Circ.zero, Circ.val]) rfl ⟨rfl, (by (repeat' (first | (with_reducible exact Below.refl _ _) | (with_reducible refine Below.alloc ?_ ?_ _) | (with_reducible refine Below.drew ?_) | (with_reducible refine Below.setCell ?_ ?_ _) | go_size)))⟩
set_option maxRecDepth 100000 in
set_option maxHeartbeats 2000000 in
theorem out_nil (n : ByteArray) (i : Int) (w : World) : Calls Try.prog 18 #[.pointer none, .string n, .int .i64 i] w fun e w' => e = .returned (.tuple #[Circ.zero.val, .bool false]) ∧ Below w.heap.size w w' := by
  go_enter Try.func18, Try.ntmps18
  go_wp2
  exact bodyPost_ret (v := .tuple #[Circ.zero.val, .bool false]) (by simp [results, Try.results18, go_sem, Circ.zero, Circ.val]) rfl ⟨rfl, (by (repeat' (first | (with_reducible exact Below.refl _ _) | (with_reducible refine Below.alloc ?_ ?_ _) | (with_reducible refine Below.drew ?_) | (with_reducible refine Below.setCell ?_ ?_ _) | go_size)))⟩
set_option maxRecDepth 100000 in
set_option maxHeartbeats 2000000 in
theorem close_nil (n : ByteArray) (i : Int) (w : World) : Calls Try.prog 20 #[.pointer none, .string n, .int .i64 i] w fun e w' => e = .returned (.tuple #[Circ.zero.val, .int .i64 1]) ∧ Below w.heap.size w w' := by
  go_enter Try.func20, Try.ntmps20
  go_wp2
  exact bodyPost_ret (v := .tuple #[Circ.zero.val, .int .i64 1]) (by simp [results, Try.results20, go_sem, Circ.zero, Circ.val]) rfl ⟨rfl, (by (repeat' (first | (with_reducible exact Below.refl _ _) | (with_reducible refine Below.alloc ?_ ?_ _) | (with_reducible refine Below.drew ?_) | (with_reducible refine Below.setCell ?_ ?_ _) | go_size)))⟩
set_option maxRecDepth 100000 in
set_option maxHeartbeats 2000000 in
theorem open_nil (c : Circ) (w : World) : Calls Try.prog 22 #[.pointer none, c.val] w fun e w' => e = .returned (.int .i64 1) ∧ Below w.heap.size w w' := by
  unfold Circ.val
  go_enter Try.func22, Try.ntmps22
  go_wp2
  go_ret
  exact ⟨rfl, (by (repeat' (first | (with_reducible exact Below.refl _ _) | (with_reducible refine Below.alloc ?_ ?_ _) | (with_reducible refine Below.drew ?_) | (with_reducible refine Below.setCell ?_ ?_ _) | go_size)))⟩
set_option maxRecDepth 100000 in
set_option maxHeartbeats 2000000 in
theorem list_nil (w : World) : Calls Try.prog 24 #[.pointer none] w fun e w' => e = .returned (.slice none 0 0) ∧ Below w.heap.size w w' := by
  go_enter Try.func24, Try.ntmps24
  go_wp2
  go_ret
  exact ⟨rfl, (by (repeat' (first | (with_reducible exact Below.refl _ _) | (with_reducible refine Below.alloc ?_ ?_ _) | (with_reducible refine Below.drew ?_) | (with_reducible refine Below.setCell ?_ ?_ _) | go_size)))⟩
set_option maxRecDepth 100000 in
set_option maxHeartbeats 2000000 in
theorem count_nil (w : World) : Calls Try.prog 25 #[.pointer none] w fun e w' => e = .returned (.int .i64 0) ∧ Below w.heap.size w w' := by
  go_enter Try.func25, Try.ntmps25
  go_wp2
  go_ret
  exact ⟨rfl, (by (repeat' (first | (with_reducible exact Below.refl _ _) | (with_reducible refine Below.alloc ?_ ?_ _) | (with_reducible refine Below.drew ?_) | (with_reducible refine Below.setCell ?_ ?_ _) | go_size)))⟩
/-- the calls of the examples -/
def L1 : List Circ := [mkC ⟨#[97]⟩ 1 ⟨#[98]⟩ 7]
def L2 : List Circ := [mkC ⟨#[97]⟩ 1 ⟨#[98]⟩ 7, mkC ⟨#[97]⟩ 2 ⟨#[98]⟩ 8]
def L3 : List Circ := [mkC ⟨#[97]⟩ 1 ⟨#[98]⟩ 7, mkC ⟨#[97]⟩ 2 ⟨#[98]⟩ 8, mkC ⟨#[98]⟩ 8 ⟨#[97]⟩ 2]
theorem op1 : openN [] (mkC ⟨#[97]⟩ 1 ⟨#[98]⟩ 7) = (L1, 0) := by
  unfold openN
  rw [if_pos (by decide +kernel), if_neg (by decide +kernel), if_neg (by decide)]; rfl
theorem op2 : openN L1 (mkC ⟨#[97]⟩ 1 ⟨#[99]⟩ 7) = (L1, 6) := by
  unfold openN
  rw [if_pos (by decide +kernel), if_pos (by decide +kernel)]
theorem op3 : openN L1 (mkC ⟨#[100]⟩ 1 ⟨#[98]⟩ 7) = (L1, 6) := by
  unfold openN
  rw [if_pos (by decide +kernel), if_pos (by decide +kernel)]
theorem op4 : openN L1 (mkC ⟨#[97]⟩ 2 ⟨#[98]⟩ 8) = (L2, 0) := by
  unfold openN
  rw [if_pos (by decide +kernel), if_neg (by decide +kernel), if_neg (by decide)]; rfl
theorem op5 : openN L2 (mkC ⟨#[]⟩ 2 ⟨#[98]⟩ 9) = (L2, 2) := by
  unfold openN
  rw [if_neg (by decide +kernel)]
theorem op6 : openN L2 (mkC ⟨#[97]⟩ (-1) ⟨#[98]⟩ 9) = (L2, 2) := by
  unfold openN
  rw [if_neg (by decide +kernel)]
theorem op7 (b : ByteArray) (hb : b.size = 101) : openN L2 (mkC ⟨#[97]⟩ 3 b 9) = (L2, 2) := by
  unfold openN
  rw [if_neg (by show ¬ (mayB ⟨#[97]⟩ 3 && mayB b 9) = true; rw [show mayB b 9 = false by unfold mayB; rw [decide_eq_false (by omega)]; simp]; simp)]
theorem op8 : openN L2 (mkC ⟨#[98]⟩ 8 ⟨#[97]⟩ 2) = (L3, 0) := by
  unfold openN
  rw [if_pos (by decide +kernel), if_neg (by decide +kernel), if_neg (by decide)]; rfl
theorem cl1 : closeN L3 ⟨#[98]⟩ 7 = (fillL 0, mkC ⟨#[97]⟩ 1 ⟨#[98]⟩ 7, 0) := by
  have h : findC (Circ.outIs ⟨#[98]⟩ 7) L3 0 = some (0, mkC ⟨#[97]⟩ 1 ⟨#[98]⟩ 7) := by
    unfold L3 findC
    rw [if_pos (by decide +kernel)]
  unfold closeN
  rw [h]; rfl
theorem none1 (n : ByteArray) (i : Int) (L : List Circ) (h : (L.all fun c => !Circ.outIs n i c) = true) : findC (Circ.outIs n i) L 0 = none :=
  findC_absent _ _ fun t x hx => by have := List.all_eq_true.1 h x (List.mem_of_getElem? hx); simpa using this
theorem none2 (n : ByteArray) (i : Int) (L : List Circ) (h : (L.all fun c => !Circ.inIs n i c) = true) : findC (Circ.inIs n i) L 0 = none :=
  findC_absent _ _ fun t x hx => by have := List.all_eq_true.1 h x (List.mem_of_getElem? hx); simpa using this
theorem cl2 : closeN (fillL 0) ⟨#[98]⟩ 7 = (fillL 0, Circ.zero, 5) := by
  unfold closeN
  rw [none1 _ _ _ (by decide +kernel)]
theorem in3 : findC (Circ.inIs ⟨#[97]⟩ 3) L3 0 = none := none2 _ _ _ (by decide +kernel)
end Go.Proofs.Ytjdbnaedlljfhaa
