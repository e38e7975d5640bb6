/- relay: what RelayKnown asks, in plain Lean. -/
import Derived.Test.YtjdbnaedlljfhaaPairsB
namespace Go.Proofs.Ytjdbnaedlljfhaa
set_option linter.unusedVariables false
open Go.RowKit
/-- circuits of one making -/
def mkC (a : ByteArray) (i : Int) (b : ByteArray) (k : Int) : Circ := ⟨a, i, b, k, 5015, 5000, 0, 0, ⟨#[72, 110, 57, 59]⟩, ⟨#[]⟩⟩
def fillC (i : Int) : Circ := mkC ⟨#[120]⟩ i ⟨#[121]⟩ i
def twoL : List Circ := [mkC ⟨#[97]⟩ 2 ⟨#[98]⟩ 8, mkC ⟨#[98]⟩ 8 ⟨#[97]⟩ 2]
def fillL (k : Nat) : List Circ := twoL ++ (List.range k).map fun j => fillC ((100 + j : Nat) : Int)
theorem fillL_len (k : Nat) : (fillL k).length = k + 2 := by simp [fillL, twoL]
theorem fillL_succ (k : Nat) : fillL (k + 1) = fillL k ++ [fillC ((100 + k : Nat) : Int)] := by
  unfold fillL
  rw [List.range_succ, List.map_append, ← List.append_assoc]; rfl
theorem mkC_fits (a : ByteArray) (i : Int) (b : ByteArray) (k : Int) (ha : a.size ≤ maxLen) (hb : b.size ≤ maxLen) : (mkC a i b k).fits := ⟨ha, hb⟩
theorem same_x (i j : Int) (h : i ≠ j) (n m : ByteArray) : sameP n i m j = false := by
  unfold sameP
  rw [beq_eq_false_iff_ne.mpr h, Bool.and_false]
theorem may_one (c : UInt8) (i : Int) (h : 0 ≤ i) : mayB ⟨#[c]⟩ i = true := by
  unfold mayB
  rw [decide_eq_true h, Bool.and_true]
  rw [ByteArray.toList_eq]; rfl
/-- what is not there -/
theorem fill_none (k : Nat) (z : Int) (hz : ∀ j, j < k → z ≠ ((100 + j : Nat) : Int)) (h2 : z ≠ 2) (h8 : z ≠ 8) (n : ByteArray) : findC (Circ.inIs n z) (fillL k) 0 = none ∧ findC (Circ.outIs n z) (fillL k) 0 = none := by
  have key : ∀ (t : Nat) (x : Circ), (fillL k)[t]? = some x → x.ii ≠ z ∧ x.oi ≠ z := by
    intro t x hx
    have hm := List.mem_of_getElem? hx
    unfold fillL twoL at hm
    rcases List.mem_append.1 hm with hm | hm
    · simp only [List.mem_cons, List.not_mem_nil, or_false] at hm
      rcases hm with rfl | rfl
      · exact ⟨fun e => h2 e.symm, fun e => h8 e.symm⟩
      · exact ⟨fun e => h8 e.symm, fun e => h2 e.symm⟩
    · obtain ⟨j, hj, rfl⟩ := List.mem_map.1 hm
      have := hz j (List.mem_range.1 hj)
      exact ⟨fun e => this e.symm, fun e => this e.symm⟩
  exact ⟨findC_absent _ _ fun t x hx => same_x _ _ (fun e => (key t x hx).1 e.symm) _ _, findC_absent _ _ fun t x hx => same_x _ _ (fun e => (key t x hx).2 e.symm) _ _⟩
theorem fill_open (k : Nat) (hk : k < 254) : openN (fillL k) (fillC ((100 + k : Nat) : Int)) = (fillL (k + 1), 0) := by
  obtain ⟨h1, h2⟩ := fill_none k ((100 + k : Nat) : Int) (fun j hj => by omega) (by omega) (by omega) ⟨#[120]⟩
  obtain ⟨_, h3⟩ := fill_none k ((100 + k : Nat) : Int) (fun j hj => by omega) (by omega) (by omega) ⟨#[121]⟩
  unfold openN
  rw [show (fillC ((100 + k : Nat) : Int)).ic = ⟨#[120]⟩ from rfl, show (fillC ((100 + k : Nat) : Int)).oc = ⟨#[121]⟩ from rfl, show (fillC ((100 + k : Nat) : Int)).ii = ((100 + k : Nat) : Int) from rfl, show (fillC ((100 + k : Nat) : Int)).oi = ((100 + k : Nat) : Int) from rfl]
  rw [may_one _ _ (by omega), may_one _ _ (by omega), h1, h3, fillL_succ]
  simp only [Bool.and_self, if_true, Option.isSome_none, Bool.or_self, Bool.false_eq_true, if_false]
  rw [if_neg (by rw [fillL_len]; omega)]
theorem full_open : openN (fillL 254) (fillC 1) = (fillL 254, 3) := by
  obtain ⟨h1, h2⟩ := fill_none 254 1 (fun j hj => by omega) (by omega) (by omega) ⟨#[120]⟩
  obtain ⟨_, h3⟩ := fill_none 254 1 (fun j hj => by omega) (by omega) (by omega) ⟨#[121]⟩
  unfold openN
  rw [show (fillC 1).ic = ⟨#[120]⟩ from rfl, show (fillC 1).oc = ⟨#[121]⟩ from rfl, show (fillC 1).ii = 1 from rfl, show (fillC 1).oi = 1 from rfl]
  rw [may_one _ _ (by omega), may_one _ _ (by omega), h1, h3]
  simp only [Bool.and_self, if_true, Option.isSome_none, Bool.or_self, Bool.false_eq_true, if_false]
  rw [if_pos (by rw [fillL_len]; omega)]
end Go.Proofs.Ytjdbnaedlljfhaa
