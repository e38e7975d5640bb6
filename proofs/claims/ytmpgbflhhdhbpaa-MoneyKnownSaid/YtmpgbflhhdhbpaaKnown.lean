/- The walks of the money functions: what each computes. -/
import Derived.Test.YtmpgbflhhdhbpaaRows
import Derived.Test.YtmpgbflhhdhbpaaMath
import Derived.Test.YtmpgbflhhdhbpaaDiv
import Derived.Test.YtmpgbflhhdhbpaaShare
import Derived.Test.YtmpgbflhhdhbpaaShelf
import Derived.Test.YtmpgbflhhdhbpaaWalk1
import Derived.Test.YtmpgbflhhdhbpaaWalk2
import Derived.Test.YtmpgbflhhdhbpaaWalk3
import Derived.Test.YtmpgbflhhdhbpaaWalk4
import Derived.Test.YtmpgbflhhdhbpaaWalk5
import Derived.Test.YtmpgbflhhdhbpaaFees
import Derived.Test.YtmpgbflhhdhbpaaShares
import Derived.Test.YtmpgbflhhdhbpaaBack
import Derived.Test.YtmpgbflhhdhbpaaAdds
import Derived.Deep.LoopGhost
import Derived.Deep.RegionHeld3
import Derived.WalkKit
import Derived.WalkSpells
import Derived.WalkLawsBesides
import Derived.Handy
import Derived.Deep.QuietTactic
import Derived.BigQuiet
namespace Go.Proofs.Ytmpgbflhhdhbpaa
open Go.RowKit

/-- the list that MoneyKnown goes through -/
def kl : List Int := [-9223372036854775808, -1, 0, 1, 2, 3, 999, 1000, 1001, 253, 724, 999999, 1000000, 1000001, 2099999999999999, 2100000000000000, 2100000000000001, 1050000000000000000, 1050000000000000001, 2099999999999999999, 2100000000000000000, 2100000000000000001, 9223372036854775807]
def KInv (w wr : World) : Prop := Below w.heap.size w wr ∧ w.heap.size + 1 ≤ wr.heap.size ∧ ∀ j, j < 23 → wr.cell? ⟨w.heap.size, j, none⟩ = some (.int .i64 (kl.getD j 0))
theorem KInv.step {w a b : World} (h : KInv w a) (hb : Below a.heap.size a b) : KInv w b := by
  obtain ⟨h1, h2, h3⟩ := h
  refine ⟨h1.trans (hb.mono (by omega)), by have := hb.size; omega, fun j hj => ?_⟩
  rw [below_cells hb _ _ (by omega)]; exact h3 j hj
theorem kkeep {w a b : World} {i k : Nat} {x y : Int} (h : KInv w a) (hi : a.cell? ⟨w.heap.size, i, none⟩ = some (.int .i64 x)) (hk : a.cell? ⟨w.heap.size, k, none⟩ = some (.int .i64 y)) (hb : Below a.heap.size a b) :
    KInv w b ∧ b.cell? ⟨w.heap.size, i, none⟩ = some (.int .i64 x) ∧ b.cell? ⟨w.heap.size, k, none⟩ = some (.int .i64 y) := by
  refine ⟨h.step hb, ?_, ?_⟩
  · rw [below_cells hb _ _ (by have := h.2.1; omega)]; exact hi
  · rw [below_cells hb _ _ (by have := h.2.1; omega)]; exact hk
theorem kstart (w : World) : KInv w (w.alloc (.cells #[.int .i64 (-9223372036854775808), .int .i64 (-1), .int .i64 0, .int .i64 1, .int .i64 2, .int .i64 3, .int .i64 999, .int .i64 1000, .int .i64 1001, .int .i64 253, .int .i64 724, .int .i64 999999, .int .i64 1000000, .int .i64 1000001, .int .i64 2099999999999999, .int .i64 2100000000000000, .int .i64 2100000000000001, .int .i64 1050000000000000000, .int .i64 1050000000000000001, .int .i64 2099999999999999999, .int .i64 2100000000000000000, .int .i64 2100000000000000001, .int .i64 9223372036854775807] 2)) := by
  refine ⟨(Below.refl _ _).alloc (Nat.le_refl _) _, by simp, fun j hj => ?_⟩
  have h : (w.alloc (.cells #[.int .i64 (-9223372036854775808), .int .i64 (-1), .int .i64 0, .int .i64 1, .int .i64 2, .int .i64 3, .int .i64 999, .int .i64 1000, .int .i64 1001, .int .i64 253, .int .i64 724, .int .i64 999999, .int .i64 1000000, .int .i64 1000001, .int .i64 2099999999999999, .int .i64 2100000000000000, .int .i64 2100000000000001, .int .i64 1050000000000000000, .int .i64 1050000000000000001, .int .i64 2099999999999999999, .int .i64 2100000000000000000, .int .i64 2100000000000000001, .int .i64 9223372036854775807] 2)).heap[w.heap.size]? = some (.cells #[.int .i64 (-9223372036854775808), .int .i64 (-1), .int .i64 0, .int .i64 1, .int .i64 2, .int .i64 3, .int .i64 999, .int .i64 1000, .int .i64 1001, .int .i64 253, .int .i64 724, .int .i64 999999, .int .i64 1000000, .int .i64 1000001, .int .i64 2099999999999999, .int .i64 2100000000000000, .int .i64 2100000000000001, .int .i64 1050000000000000000, .int .i64 1050000000000000001, .int .i64 2099999999999999999, .int .i64 2100000000000000000, .int .i64 2100000000000000001, .int .i64 9223372036854775807] 2 (0, 0)) := heap_alloc_new w _
  rw [cell_of_row _ _ _ _ _ _ h]
  match j, hj with
  | 0, _ => rfl
  | 1, _ => rfl
  | 2, _ => rfl
  | 3, _ => rfl
  | 4, _ => rfl
  | 5, _ => rfl
  | 6, _ => rfl
  | 7, _ => rfl
  | 8, _ => rfl
  | 9, _ => rfl
  | 10, _ => rfl
  | 11, _ => rfl
  | 12, _ => rfl
  | 13, _ => rfl
  | 14, _ => rfl
  | 15, _ => rfl
  | 16, _ => rfl
  | 17, _ => rfl
  | 18, _ => rfl
  | 19, _ => rfl
  | 20, _ => rfl
  | 21, _ => rfl
  | 22, _ => rfl
  | j + 23, h => exact absurd h (by omega)
theorem kkeep3 {w a b : World} {i j k : Nat} {x z y : Int} (h : KInv w a) (hi : a.cell? ⟨w.heap.size, i, none⟩ = some (.int .i64 x)) (hj : a.cell? ⟨w.heap.size, j, none⟩ = some (.int .i64 z)) (hk : a.cell? ⟨w.heap.size, k, none⟩ = some (.int .i64 y)) (hb : Below a.heap.size a b) :
    KInv w b ∧ b.cell? ⟨w.heap.size, i, none⟩ = some (.int .i64 x) ∧ b.cell? ⟨w.heap.size, j, none⟩ = some (.int .i64 z) ∧ b.cell? ⟨w.heap.size, k, none⟩ = some (.int .i64 y) := by
  refine ⟨h.step hb, ?_, ?_, ?_⟩
  · rw [below_cells hb _ _ (by have := h.2.1; omega)]; exact hi
  · rw [below_cells hb _ _ (by have := h.2.1; omega)]; exact hj
  · rw [below_cells hb _ _ (by have := h.2.1; omega)]; exact hk
theorem adds_pre {w a : World} (h : KInv w a) (k : Nat) (hk : k < 23) (x y : Int) : Calls Try.prog 5 #[.slice (some ⟨w.heap.size, 0, none⟩) k 23, .int .i64 x, .int .i64 y] a (TruePost a) := by
  by_cases h0 : k = 0
  · subst h0; exact adds_empty _ 23 (.inr ⟨_, rfl⟩) x y a
  · have hl : (kl.take k).length = k := by rw [List.length_take]; simp [kl]; omega
    have := adds_more w.heap.size 0 23 (kl.take k) (by omega) (by omega) x y a (by have := h.2.1; omega) (fun j hj => by
      have := h.2.2 j (by omega)
      rw [Nat.zero_add, this, List.getD_eq_getElem?_getD, List.getD_eq_getElem?_getD, List.getElem?_take_of_lt (by omega)])
    rw [hl] at this
    exact this
theorem adds_three {a : World} (g : Nat) (x y u v : Int) (c0 : a.cell? ⟨g, 0, none⟩ = some (.int .i64 1)) (c1 : a.cell? ⟨g, 1, none⟩ = some (.int .i64 u)) (c2 : a.cell? ⟨g, 2, none⟩ = some (.int .i64 v)) :
    Calls Try.prog 5 #[.slice (some ⟨g, 0, none⟩) 3 3, .int .i64 x, .int .i64 y] a (TruePost a) := by
  refine adds_more g 0 3 [1, u, v] (by simp) (by simp) x y a (World.block_lt_of_cell? a _ c0) ?_
  intro j hj
  match j, hj with
  | 0, _ => simpa using c0
  | 1, _ => simpa using c1
  | 2, _ => simpa using c2
set_option maxRecDepth 100000 in
set_option maxHeartbeats 4000000 in
theorem moneyKnown_any (w : World) : Calls Try.prog 8 #[] w (TruePost w) := by
  go_enter Try.func8, Try.ntmps8
  go_wp2
  go_loopw [2, 3, 4] (fun i k j wr => ∃ n : Nat, i = .int .i64 n ∧ n ≤ 23 ∧ KInv w wr) (fun i _ _ _ => 23 - (intOf i).toNat)
  case atStart => exact ⟨0, rfl, by omega, kstart w⟩
  case round =>
    obtain ⟨n, rfl, hn, hK⟩ := hrel
    obtain ⟨wo, rfl⟩ : ∃ wo : World, wo = wr := ⟨_, rfl⟩
    by_cases hlt : n < 23
    · have hc1 := hK.2.2 n hlt
      generalize kl.getD n 0 = x at hc1
      go_wp2_with (first | (go_at_call 7; (with_reducible refine Calls.mono (moneyTurns_any _ _) ?_); rintro e w1 ⟨rfl, hb1⟩) | go_in)
      have hK1 := hK.step hb1
      clear hb1 hK
      go_loopw [3, 4] (fun k j wr => ∃ m : Nat, k = .int .i64 m ∧ m ≤ 23 ∧ KInv w wr) (fun k _ _ => 23 - (intOf k).toNat)
      case atStart => exact ⟨0, rfl, by omega, hK1⟩
      case round =>
        obtain ⟨m, rfl, hm, hK⟩ := hrel
        obtain ⟨wp, rfl⟩ : ∃ wp : World, wp = wr := ⟨_, rfl⟩
        by_cases hlt2 : m < 23
        · have hc1 := hK.2.2 n hlt
          have hc2 := hK.2.2 m hlt2
          generalize kl.getD n 0 = x at hc1
          generalize kl.getD m 0 = y at hc2
          have b1 : (0 : Int) ≤ (m : Int) := by omega
          have b2 : (m : Int) ≤ 23 := by omega
          have b3 : (m : Int) < 23 := by omega
          have b4 : (0 : Int) ≤ (n : Int) := by omega
          have b5 : (n : Int) < 23 := by omega
          go_wp2_with fail
          go_region_held3 (fun w' => KInv w w' ∧ w'.cell? ⟨w.heap.size, n, none⟩ = some (.int .i64 x) ∧ w'.cell? ⟨w.heap.size, m, none⟩ = some (.int .i64 y)) ((go_split_ands; with_reducible exact kkeep (by with_reducible assumption) (by with_reducible assumption) (by with_reducible assumption) (by first | (with_reducible assumption) | (repeat' (first | (with_reducible exact Below.refl _ _) | (with_reducible refine Below.alloc ?_ ?_ _) | (with_reducible refine Below.drew ?_) | (with_reducible refine Below.setCell ?_ ?_ _) | (with_reducible refine below_drewN ?_ _) | (refine Below.trans ?_ (Below.mono (by assumption) ?_)) | go_size)))))
            (first
              | (go_at_call 6; go_split_ands; (with_reducible refine Calls.mono (moneyBack_any _ _ _) ?_); rintro e w3 ⟨rfl, hbC⟩)
              | (go_at_call 3; go_split_ands; (with_reducible refine Calls.mono (moneyFees_any _ _ _ _) ?_); rintro e w4 ⟨rfl, hbD⟩)
              | (go_at_call 5; go_split_ands; have hbA' := hbA; (with_reducible refine Calls.mono (adds_three _ y x x y (by go_cell) (by go_cell) (by go_cell)) ?_); rintro e w2 ⟨rfl, hbB⟩)
              | (go_at_call 5; go_split_ands; (with_reducible refine Calls.mono (adds_pre (by with_reducible assumption) _ hlt2 _ _) ?_); rintro e w1 ⟨rfl, hbA⟩))
          obtain ⟨hK4, _, _⟩ : KInv w w4 ∧ w4.cell? ⟨w.heap.size, n, none⟩ = some (.int .i64 x) ∧ w4.cell? ⟨w.heap.size, m, none⟩ = some (.int .i64 y) := by assumption
          have HK4 := Lib.hid hK4
          clear hbA hbB hbC hbD hc1 hc2 hK hK4
          go_wp2
          go_loopw [4] (fun j wr => ∃ l : Nat, j = .int .i64 l ∧ l ≤ 23 ∧ KInv w wr) (fun j _ => 23 - (intOf j).toNat)
          case atStart => exact ⟨0, rfl, by omega, HK4.out⟩
          case round =>
            obtain ⟨l, rfl, hl, hK⟩ := hrel
            by_cases hlt3 : l < 23
            · have hc1 := hK.2.2 n hlt
              have hc3 := hK.2.2 l hlt3
              have hc2 := hK.2.2 m hlt2
              generalize kl.getD n 0 = x at hc1
              generalize kl.getD l 0 = z at hc3
              generalize kl.getD m 0 = y at hc2
              have b6 : (0 : Int) ≤ (l : Int) := by omega
              have b7 : (l : Int) < 23 := by omega
              go_wp2_with fail
              go_region_held3 (fun w' => KInv w w' ∧ w'.cell? ⟨w.heap.size, n, none⟩ = some (.int .i64 x) ∧ w'.cell? ⟨w.heap.size, l, none⟩ = some (.int .i64 z) ∧ w'.cell? ⟨w.heap.size, m, none⟩ = some (.int .i64 y)) ((with_reducible exact kkeep3 hK hc1 hc3 hc2 (by first | (with_reducible assumption) | (with_reducible exact Below.drew (Below.refl _ _)))))
                (first
                  | (go_at_call 3; go_split_ands; (with_reducible refine Calls.mono (moneyFees_any _ _ _ _) ?_); rintro e w5 ⟨rfl, hbA⟩; have X5 : Below wr.heap.size wr w5 := (Below.drew (Below.refl wr.heap.size wr)).trans hbA)
                  | (go_at_call 4; go_split_ands; (with_reducible refine Calls.mono (moneyShares_any _ _ _ _ _) ?_); rintro e w6 ⟨rfl, hbB⟩; have X6 : Below wr.heap.size wr w6 := X5.trans (hbB.mono X5.size)))
              obtain ⟨hK6, _, _, _⟩ : KInv w w6 ∧ w6.cell? ⟨w.heap.size, n, none⟩ = some (.int .i64 x) ∧ w6.cell? ⟨w.heap.size, l, none⟩ = some (.int .i64 z) ∧ w6.cell? ⟨w.heap.size, m, none⟩ = some (.int .i64 y) := by assumption
              have HK6 := Lib.hid hK6
              clear hbA hbB X5 X6 hc1 hc2 hc3 hK hK6
              go_wp2
              go_roundw
              case rel => exact ⟨l + 1, by go_num, by omega, HK6.out⟩
              case measure => simp [intOf]; omega
            · obtain rfl : l = 23 := by omega
              have HK := Lib.hid hK
              clear hK
              go_wp2
              go_roundw
              case rel => exact ⟨m + 1, by go_num, by omega, HK.out⟩
              case measure => simp [intOf]; omega
        · obtain rfl : m = 23 := by omega
          have HK := Lib.hid hK
          clear hK
          go_wp2
          go_roundw
          case rel => exact ⟨n + 1, by go_num, by omega, HK.out⟩
          case measure => simp [intOf]; omega
    · obtain rfl : n = 23 := by omega
      have HK := Lib.hid hK
      clear hK
      go_wp2_with (go_at_call 15; (with_reducible refine Calls.mono (works_any _) ?_); rintro e w7 ⟨rfl, hb7⟩)
      go_ret
      exact ⟨rfl, HK.out.1.trans (hb7.mono (by have := HK.out.2.1; omega))⟩
end Go.Proofs.Ytmpgbflhhdhbpaa
