/- The walks of the money functions: what each computes. -/
import Derived.Test.YtmpgbflhhdhbpaaRows
import Derived.Test.YtmpgbflhhdhbpaaMath
import Derived.Test.YtmpgbflhhdhbpaaDiv
import Derived.Test.YtmpgbflhhdhbpaaShare
import Derived.Test.YtmpgbflhhdhbpaaShelf
import Derived.Test.YtmpgbflhhdhbpaaWalk1
import Derived.Test.YtmpgbflhhdhbpaaWalk2
import Derived.Test.YtmpgbflhhdhbpaaWalk3
import Derived.Test.YtmpgbflhhdhbpaaWalk4
import Derived.Test.YtmpgbflhhdhbpaaWalk5
import Derived.WalkKit
import Derived.WalkSpells
import Derived.WalkLawsBesides
import Derived.Handy
import Derived.Deep.QuietTactic
import Derived.BigQuiet
namespace Go.Proofs.Ytmpgbflhhdhbpaa
open Go.RowKit

set_option maxHeartbeats 1000000 in
theorem back_bad (a b : Int) (h : ¬ (0 ≤ a ∧ a ≤ 2100000000000000000 ∧ 0 ≤ b ∧ b ≤ 2100000000000000000)) (w : World) : Calls Try.prog 6 #[.int .i64 a, .int .i64 b] w (TruePost w) := by
  by_cases n0 : 0 ≤ a
  rotate_left
  · go_enter Try.func6, Try.ntmps6
    go_wp2_with (first | (go_at_call 15; (with_reducible refine Calls.mono (works_any _) ?_); rintro e w7 ⟨rfl, hb7⟩; have z7 := hb7.size; try simp only [World.size_alloc] at z7) | go_in)
    go_ret
    exact ⟨rfl, by (repeat' (first | (with_reducible exact Below.refl _ _) | (with_reducible refine Below.alloc ?_ ?_ _) | (with_reducible refine Below.drew ?_) | (with_reducible refine Below.setCell ?_ ?_ _) | (with_reducible refine below_drewN ?_ _) | (refine Below.trans ?_ (Below.mono (by assumption) ?_)) | go_size))⟩
  by_cases n1 : a ≤ 2100000000000000000
  rotate_left
  · go_enter Try.func6, Try.ntmps6
    go_wp2_with (first | (go_at_call 15; (with_reducible refine Calls.mono (works_any _) ?_); rintro e w7 ⟨rfl, hb7⟩; have z7 := hb7.size; try simp only [World.size_alloc] at z7) | go_in)
    go_ret
    exact ⟨rfl, by (repeat' (first | (with_reducible exact Below.refl _ _) | (with_reducible refine Below.alloc ?_ ?_ _) | (with_reducible refine Below.drew ?_) | (with_reducible refine Below.setCell ?_ ?_ _) | (with_reducible refine below_drewN ?_ _) | (refine Below.trans ?_ (Below.mono (by assumption) ?_)) | go_size))⟩
  by_cases n2 : 0 ≤ b
  rotate_left
  · go_enter Try.func6, Try.ntmps6
    go_wp2_with (first | (go_at_call 15; (with_reducible refine Calls.mono (works_any _) ?_); rintro e w7 ⟨rfl, hb7⟩; have z7 := hb7.size; try simp only [World.size_alloc] at z7) | go_in)
    go_ret
    exact ⟨rfl, by (repeat' (first | (with_reducible exact Below.refl _ _) | (with_reducible refine Below.alloc ?_ ?_ _) | (with_reducible refine Below.drew ?_) | (with_reducible refine Below.setCell ?_ ?_ _) | (with_reducible refine below_drewN ?_ _) | (refine Below.trans ?_ (Below.mono (by assumption) ?_)) | go_size))⟩
  by_cases n3 : b ≤ 2100000000000000000
  rotate_left
  · go_enter Try.func6, Try.ntmps6
    go_wp2_with (first | (go_at_call 15; (with_reducible refine Calls.mono (works_any _) ?_); rintro e w7 ⟨rfl, hb7⟩; have z7 := hb7.size; try simp only [World.size_alloc] at z7) | go_in)
    go_ret
    exact ⟨rfl, by (repeat' (first | (with_reducible exact Below.refl _ _) | (with_reducible refine Below.alloc ?_ ?_ _) | (with_reducible refine Below.drew ?_) | (with_reducible refine Below.setCell ?_ ?_ _) | (with_reducible refine below_drewN ?_ _) | (refine Below.trans ?_ (Below.mono (by assumption) ?_)) | go_size))⟩
  exfalso; omega

theorem sum_ba0 (a b s : Int) (hs : sumGo 0 [b, a, 0] = some s) (w : World) (bb : Nat) (c0 : w.cell? ⟨bb, 0, none⟩ = some (.int .i64 b)) (c1 : w.cell? ⟨bb, 1, none⟩ = some (.int .i64 a)) (c2 : w.cell? ⟨bb, 2, none⟩ = some (.int .i64 0)) :
    Calls Try.prog 19 #[.slice (some ⟨bb, 0, none⟩) 3 3] w (OptPost (some s) w) := by
  refine sum_any bb 0 3 [b, a, 0] (some s) w (by simp) hs ?_
  intro j hj
  match j, hj with
  | 0, _ => simpa using c0
  | 1, _ => simpa using c1
  | 2, _ => simpa using c2
theorem addO_some (a b : Int) (h0 : 0 ≤ a) (h1 : 0 ≤ b) (h2 : a + b ≤ 2100000000000000000) : addO a b = some (a + b) := by simp only [addO]; rw [if_pos ⟨h0, h1, h2⟩]
theorem addO_none (a b : Int) (h2 : ¬ (a + b ≤ 2100000000000000000)) : addO a b = none := by simp only [addO]; rw [if_neg (by omega)]
theorem subO_some (a b : Int) (h0 : 0 ≤ b) (h1 : b ≤ a) (h2 : a ≤ 2100000000000000000) : subO a b = some (a - b) := by simp only [subO]; rw [if_pos ⟨h0, h1, h2⟩]
theorem subO_none (a b : Int) (h2 : ¬ b ≤ a) : subO a b = none := by simp only [subO]; rw [if_neg (by omega)]
theorem sumGo_ba0 (a b : Int) (h0 : 0 ≤ a) (h1 : 0 ≤ b) (h2 : a + b ≤ 2100000000000000000) : sumGo 0 [b, a, 0] = some (a + b) := by
  rw [sum_cons _ _ _ h1 (by omega), sum_cons _ _ _ h0 (by omega), sum_cons _ _ _ (by omega) (by omega)]
  simp only [sumGo]
  congr 1; omega
set_option maxHeartbeats 1000000 in
theorem back_none (a b : Int) (h0 : 0 ≤ a) (h0' : a ≤ 2100000000000000000) (h1 : 0 ≤ b) (h1' : b ≤ 2100000000000000000) (h2 : ¬ (a + b ≤ 2100000000000000000)) (w : World) : Calls Try.prog 6 #[.int .i64 a, .int .i64 b] w (TruePost w) := by
  have HA := Lib.hid (addO_none a b h2)
  have qb : decide (2100000000000000000 < a + b) = true := by simp; omega
  go_enter Try.func6, Try.ntmps6
  go_wp2_with (first | (go_at_call 17; (with_reducible refine Calls.mono (add_any a b _) ?_); rintro e w1 k1; obtain ⟨rfl, hb1⟩ := opt_none k1 HA.out; clear k1; have z1 := hb1.size; try simp only [World.size_alloc] at z1) | (go_at_call 15; (with_reducible refine Calls.mono (works_any _) ?_); rintro e w7 ⟨rfl, hb7⟩; have z7 := hb7.size; try simp only [World.size_alloc] at z7) | go_in)
  go_ret
  exact ⟨rfl, by (repeat' (first | (with_reducible exact Below.refl _ _) | (with_reducible refine Below.alloc ?_ ?_ _) | (with_reducible refine Below.drew ?_) | (with_reducible refine Below.setCell ?_ ?_ _) | (with_reducible refine below_drewN ?_ _) | (refine Below.trans ?_ (Below.mono (by assumption) ?_)) | go_size))⟩
set_option maxHeartbeats 1000000 in
theorem back_ge (a b : Int) (h0 : 0 ≤ a) (h0' : a ≤ 2100000000000000000) (h1 : 0 ≤ b) (h1' : b ≤ 2100000000000000000) (h2 : a + b ≤ 2100000000000000000) (h3 : b ≤ a) (w : World) : Calls Try.prog 6 #[.int .i64 a, .int .i64 b] w (TruePost w) := by
  have HA := Lib.hid (addO_some a b h0 h1 h2)
  have HS : Hid (subO (a + b) b = some a) := by
    show _ = _; rw [subO_some _ _ h1 (by omega) h2]; congr 1; omega
  have HT := Lib.hid (sumGo_ba0 a b h0 h1 h2)
  have HD := Lib.hid (subO_some a b h1 h3 h0')
  have qb : decide (b ≤ a) = true := by simp; omega
  have qc : (a - b + b == a) = true := by simp
  go_enter Try.func6, Try.ntmps6
  go_wp2_with (first | (go_at_call 17; (with_reducible refine Calls.mono (add_any a b _) ?_); rintro e w1 k1; obtain ⟨rfl, hb1⟩ := opt_some k1 HA.out; clear k1; have z1 := hb1.size; try simp only [World.size_alloc] at z1) | (go_at_call 18; (with_reducible refine Calls.mono (sub_any (a + b) b _) ?_); rintro e w2 k2; obtain ⟨rfl, hb2⟩ := opt_some k2 HS.out; clear k2; have z2 := hb2.size; try simp only [World.size_alloc] at z2) | (go_at_call 19; (with_reducible refine Calls.mono (sum_ba0 a b _ HT.out _ _ (by go_cell) (by go_cell) (by go_cell)) ?_); rintro e w3 k3; obtain ⟨rfl, hb3⟩ := opt_some k3 rfl; clear k3; have z3 := hb3.size; try simp only [World.size_alloc] at z3) | (go_at_call 18; (with_reducible refine Calls.mono (sub_any a b _) ?_); rintro e w4 k4; obtain ⟨rfl, hb4⟩ := opt_some k4 HD.out; clear k4; have z4 := hb4.size; try simp only [World.size_alloc] at z4) | (go_at_call 15; (with_reducible refine Calls.mono (works_any _) ?_); rintro e w7 ⟨rfl, hb7⟩; have z7 := hb7.size; try simp only [World.size_alloc] at z7) | go_in)
  go_ret
  exact ⟨rfl, by (repeat' (first | (with_reducible exact Below.refl _ _) | (with_reducible refine Below.alloc ?_ ?_ _) | (with_reducible refine Below.drew ?_) | (with_reducible refine Below.setCell ?_ ?_ _) | (with_reducible refine below_drewN ?_ _) | (refine Below.trans ?_ (Below.mono (by assumption) ?_)) | go_size))⟩
set_option maxHeartbeats 1000000 in
theorem back_lt (a b : Int) (h0 : 0 ≤ a) (h0' : a ≤ 2100000000000000000) (h1 : 0 ≤ b) (h1' : b ≤ 2100000000000000000) (h2 : a + b ≤ 2100000000000000000) (h3 : ¬ b ≤ a) (w : World) : Calls Try.prog 6 #[.int .i64 a, .int .i64 b] w (TruePost w) := by
  have HA := Lib.hid (addO_some a b h0 h1 h2)
  have HS : Hid (subO (a + b) b = some a) := by
    show _ = _; rw [subO_some _ _ h1 (by omega) h2]; congr 1; omega
  have HT := Lib.hid (sumGo_ba0 a b h0 h1 h2)
  have HD := Lib.hid (subO_none a b h3)
  have qb : decide (b ≤ a) = false := by simp; omega
  go_enter Try.func6, Try.ntmps6
  go_wp2_with (first | (go_at_call 17; (with_reducible refine Calls.mono (add_any a b _) ?_); rintro e w1 k1; obtain ⟨rfl, hb1⟩ := opt_some k1 HA.out; clear k1; have z1 := hb1.size; try simp only [World.size_alloc] at z1) | (go_at_call 18; (with_reducible refine Calls.mono (sub_any (a + b) b _) ?_); rintro e w2 k2; obtain ⟨rfl, hb2⟩ := opt_some k2 HS.out; clear k2; have z2 := hb2.size; try simp only [World.size_alloc] at z2) | (go_at_call 19; (with_reducible refine Calls.mono (sum_ba0 a b _ HT.out _ _ (by go_cell) (by go_cell) (by go_cell)) ?_); rintro e w3 k3; obtain ⟨rfl, hb3⟩ := opt_some k3 rfl; clear k3; have z3 := hb3.size; try simp only [World.size_alloc] at z3) | (go_at_call 18; (with_reducible refine Calls.mono (sub_any a b _) ?_); rintro e w4 k4; obtain ⟨rfl, hb4⟩ := opt_none k4 HD.out; clear k4; have z4 := hb4.size; try simp only [World.size_alloc] at z4) | (go_at_call 15; (with_reducible refine Calls.mono (works_any _) ?_); rintro e w7 ⟨rfl, hb7⟩; have z7 := hb7.size; try simp only [World.size_alloc] at z7) | go_in)
  go_ret
  exact ⟨rfl, by (repeat' (first | (with_reducible exact Below.refl _ _) | (with_reducible refine Below.alloc ?_ ?_ _) | (with_reducible refine Below.drew ?_) | (with_reducible refine Below.setCell ?_ ?_ _) | (with_reducible refine below_drewN ?_ _) | (refine Below.trans ?_ (Below.mono (by assumption) ?_)) | go_size))⟩
theorem moneyBack_any (a b : Int) (w : World) : Calls Try.prog 6 #[.int .i64 a, .int .i64 b] w (TruePost w) := by
  by_cases h : 0 ≤ a ∧ a ≤ 2100000000000000000 ∧ 0 ≤ b ∧ b ≤ 2100000000000000000
  · obtain ⟨h0, h0', h1, h1'⟩ := h
    by_cases h2 : a + b ≤ 2100000000000000000
    · by_cases h3 : b ≤ a
      · exact back_ge a b h0 h0' h1 h1' h2 h3 w
      · exact back_lt a b h0 h0' h1 h1' h2 h3 w
    · exact back_none a b h0 h0' h1 h1' h2 w
  · exact back_bad a b h w

def CoinsPost (a : Int) (w : World) (e : Ending) (w' : World) : Prop := e = .returned (.tuple #[.int .i64 (a / 1000), .int .i64 (a % 1000), .int .i64 0]) ∧ w = w'

set_option maxHeartbeats 1000000 in
theorem coins_ok (a : Int) (h0 : 0 ≤ a) (h1 : a ≤ 2100000000000000000) (w : World) : Calls Try.prog 24 #[.int .i64 a] w (CoinsPost a w) := by
  go_enter Try.func24, Try.ntmps24
  go_wp2
  go_ret3
  exact ⟨rfl, rfl⟩
set_option maxHeartbeats 1000000 in
theorem coins_bad (a : Int) (h : ¬ (0 ≤ a ∧ a ≤ 2100000000000000000)) (w : World) : Calls Try.prog 24 #[.int .i64 a] w fun e w' => e = .returned (.tuple #[.int .i64 0, .int .i64 0, .int .i64 40]) ∧ w = w' := by
  by_cases n0 : 0 ≤ a
  · have n1 : 2100000000000000000 < a := by omega
    have qb : decide (a ≤ 2100000000000000000) = false := by simp; omega
    clear h
    go_enter Try.func24, Try.ntmps24
    go_wp2
    go_ret3
    exact ⟨rfl, rfl⟩
  · clear h
    go_enter Try.func24, Try.ntmps24
    go_wp2
    go_ret3
    exact ⟨rfl, rfl⟩

set_option maxHeartbeats 1000000 in
theorem coinsr_ok (a : Int) (h0 : 0 ≤ a) (h1 : a ≤ 2100000000000000000) (w : World) : Calls Try.prog 26 #[.int .i64 a] w (CoinsPost a w) := by
  go_enter Try.func26, Try.ntmps26
  go_wp2
  go_ret3
  exact ⟨rfl, rfl⟩
set_option maxHeartbeats 1000000 in
theorem coinsr_bad (a : Int) (h : ¬ (0 ≤ a ∧ a ≤ 2100000000000000000)) (w : World) : Calls Try.prog 26 #[.int .i64 a] w fun e w' => e = .returned (.tuple #[.int .i64 0, .int .i64 0, .int .i64 40]) ∧ w = w' := by
  by_cases n0 : 0 ≤ a
  · have n1 : 2100000000000000000 < a := by omega
    have qb : decide (a ≤ 2100000000000000000) = false := by simp; omega
    clear h
    go_enter Try.func26, Try.ntmps26
    go_wp2
    go_ret3
    exact ⟨rfl, rfl⟩
  · clear h
    go_enter Try.func26, Try.ntmps26
    go_wp2
    go_ret3
    exact ⟨rfl, rfl⟩

set_option maxHeartbeats 1000000 in
theorem turns_a (a : Int) (h0 : 0 ≤ a) (h1' : a ≤ 2100000000000000) (h1 : a ≤ 2100000000000000000) (w : World) : Calls Try.prog 7 #[.int .i64 a] w (TruePost w) := by
  have qc : (a / 1000 * 1000 + a % 1000 == a) = true := by simp; omega
  have qd : (a / 1000 * 1000 + a % 1000 != a) = false := by simp; omega
  have qe : (a == a / 1000 * 1000 + a % 1000) = true := by simp; omega
  have qg : decide (a / 1000 ≤ 2100000000000000) = true := by simp; omega
  have qh : decide (a % 1000 ≤ 999) = true := by simp; omega
  go_enter Try.func7, Try.ntmps7
  go_wp2_with (first | (go_at_call 24; (with_reducible refine Calls.mono (coins_ok a (by assumption) (by assumption) _) ?_); rintro e w1 ⟨rfl, rfl⟩) | (go_at_call 26; (with_reducible refine Calls.mono (coinsr_ok a (by assumption) (by assumption) _) ?_); rintro e w2 ⟨rfl, rfl⟩) | (go_at_call 15; (with_reducible refine Calls.mono (works_any _) ?_); rintro e w7 ⟨rfl, hb7⟩; have z7 := hb7.size; try simp only [World.size_alloc] at z7) | go_in)
  go_ret
  exact ⟨rfl, by (repeat' (first | (with_reducible exact Below.refl _ _) | (with_reducible refine Below.alloc ?_ ?_ _) | (with_reducible refine Below.drew ?_) | (with_reducible refine Below.setCell ?_ ?_ _) | (with_reducible refine below_drewN ?_ _) | (refine Below.trans ?_ (Below.mono (by assumption) ?_)) | go_size))⟩

set_option maxHeartbeats 1000000 in
theorem turns_b (a : Int) (h0 : 0 ≤ a) (h2 : 2100000000000000 < a) (h1 : a ≤ 2100000000000000000) (w : World) : Calls Try.prog 7 #[.int .i64 a] w (TruePost w) := by
  have qc : (a / 1000 * 1000 + a % 1000 == a) = true := by simp; omega
  have qd : (a / 1000 * 1000 + a % 1000 != a) = false := by simp; omega
  have qe : (a == a / 1000 * 1000 + a % 1000) = true := by simp; omega
  have qg : decide (a / 1000 ≤ 2100000000000000) = true := by simp; omega
  have qh : decide (a % 1000 ≤ 999) = true := by simp; omega
  have qf : decide (a ≤ 2100000000000000) = false := by simp; omega
  go_enter Try.func7, Try.ntmps7
  go_wp2_with (first | (go_at_call 24; (with_reducible refine Calls.mono (coins_ok a (by assumption) (by assumption) _) ?_); rintro e w1 ⟨rfl, rfl⟩) | (go_at_call 26; (with_reducible refine Calls.mono (coinsr_ok a (by assumption) (by assumption) _) ?_); rintro e w2 ⟨rfl, rfl⟩) | (go_at_call 15; (with_reducible refine Calls.mono (works_any _) ?_); rintro e w7 ⟨rfl, hb7⟩; have z7 := hb7.size; try simp only [World.size_alloc] at z7) | go_in)
  go_ret
  exact ⟨rfl, by (repeat' (first | (with_reducible exact Below.refl _ _) | (with_reducible refine Below.alloc ?_ ?_ _) | (with_reducible refine Below.drew ?_) | (with_reducible refine Below.setCell ?_ ?_ _) | (with_reducible refine below_drewN ?_ _) | (refine Below.trans ?_ (Below.mono (by assumption) ?_)) | go_size))⟩

set_option maxHeartbeats 1000000 in
theorem turns_c (a : Int) (h2 : 2100000000000000000 < a) (w : World) : Calls Try.prog 7 #[.int .i64 a] w (TruePost w) := by
  have HN : Hid (¬ (0 ≤ a ∧ a ≤ 2100000000000000000)) := fun h => by omega
  have qf : decide (a ≤ 2100000000000000) = false := by simp; omega
  go_enter Try.func7, Try.ntmps7
  go_wp2_with (first | (go_at_call 24; (with_reducible refine Calls.mono (coins_bad a HN.out _) ?_); rintro e w1 ⟨rfl, rfl⟩) | (go_at_call 26; (with_reducible refine Calls.mono (coinsr_bad a HN.out _) ?_); rintro e w2 ⟨rfl, rfl⟩) | (go_at_call 15; (with_reducible refine Calls.mono (works_any _) ?_); rintro e w7 ⟨rfl, hb7⟩; have z7 := hb7.size; try simp only [World.size_alloc] at z7) | go_in)
  go_ret
  exact ⟨rfl, by (repeat' (first | (with_reducible exact Below.refl _ _) | (with_reducible refine Below.alloc ?_ ?_ _) | (with_reducible refine Below.drew ?_) | (with_reducible refine Below.setCell ?_ ?_ _) | (with_reducible refine below_drewN ?_ _) | (refine Below.trans ?_ (Below.mono (by assumption) ?_)) | go_size))⟩

set_option maxHeartbeats 1000000 in
theorem turns_d (a : Int) (h2 : a < 0) (w : World) : Calls Try.prog 7 #[.int .i64 a] w (TruePost w) := by
  have HN : Hid (¬ (0 ≤ a ∧ a ≤ 2100000000000000000)) := fun h => by omega
  go_enter Try.func7, Try.ntmps7
  go_wp2_with (first | (go_at_call 24; (with_reducible refine Calls.mono (coins_bad a HN.out _) ?_); rintro e w1 ⟨rfl, rfl⟩) | (go_at_call 26; (with_reducible refine Calls.mono (coinsr_bad a HN.out _) ?_); rintro e w2 ⟨rfl, rfl⟩) | (go_at_call 15; (with_reducible refine Calls.mono (works_any _) ?_); rintro e w7 ⟨rfl, hb7⟩; have z7 := hb7.size; try simp only [World.size_alloc] at z7) | go_in)
  go_ret
  exact ⟨rfl, by (repeat' (first | (with_reducible exact Below.refl _ _) | (with_reducible refine Below.alloc ?_ ?_ _) | (with_reducible refine Below.drew ?_) | (with_reducible refine Below.setCell ?_ ?_ _) | (with_reducible refine below_drewN ?_ _) | (refine Below.trans ?_ (Below.mono (by assumption) ?_)) | go_size))⟩

theorem moneyTurns_any (a : Int) (w : World) : Calls Try.prog 7 #[.int .i64 a] w (TruePost w) := by
  by_cases h0 : 0 ≤ a
  · by_cases h1 : a ≤ 2100000000000000000
    · by_cases h2 : a ≤ 2100000000000000
      · exact turns_a a h0 h2 h1 w
      · exact turns_b a h0 (by omega) h1 w
    · exact turns_c a (by omega) w
  · exact turns_d a (by omega) w

end Go.Proofs.Ytmpgbflhhdhbpaa
