/- The walks of the money functions: what each computes. -/
import Derived.Test.YtmpgbflhhdhbpaaRows
import Derived.Test.YtmpgbflhhdhbpaaMath
import Derived.Test.YtmpgbflhhdhbpaaDiv
import Derived.Test.YtmpgbflhhdhbpaaShare
import Derived.Test.YtmpgbflhhdhbpaaShelf
import Derived.Test.YtmpgbflhhdhbpaaWalk1
import Derived.Test.YtmpgbflhhdhbpaaWalk2
import Derived.Test.YtmpgbflhhdhbpaaWalk3
import Derived.Test.YtmpgbflhhdhbpaaWalk4
import Derived.Test.YtmpgbflhhdhbpaaWalk5
import Derived.WalkKit
import Derived.WalkSpells
import Derived.WalkLawsBesides
import Derived.Handy
import Derived.Deep.QuietTactic
import Derived.BigQuiet
namespace Go.Proofs.Ytmpgbflhhdhbpaa
open Go.RowKit

set_option maxHeartbeats 1000000 in
theorem shares_bad (a b c r : Int) (h : ¬ (0 ≤ a ∧ a ≤ 2100000000000000000 ∧ 0 ≤ b ∧ b ≤ 2100000000000000000 ∧ a + b ≤ 2100000000000000000 ∧ 0 ≤ c ∧ c ≤ 2100000000000000000 ∧ 0 ≤ r ∧ r ≤ 2100000000000000000)) (w : World) : Calls Try.prog 4 #[.int .i64 a, .int .i64 b, .int .i64 c, .int .i64 r] w (TruePost w) := by
  by_cases n0 : 0 ≤ a
  rotate_left
  · go_enter Try.func4, Try.ntmps4
    go_wp2_with (first | (go_at_call 15; (with_reducible refine Calls.mono (works_any _) ?_); rintro e w7 ⟨rfl, hb7⟩; have z7 := hb7.size; try simp only [World.size_alloc] at z7) | go_in)
    go_ret
    exact ⟨rfl, by (repeat' (first | (with_reducible exact Below.refl _ _) | (with_reducible refine Below.alloc ?_ ?_ _) | (with_reducible refine Below.drew ?_) | (with_reducible refine Below.setCell ?_ ?_ _) | (with_reducible refine below_drewN ?_ _) | (refine Below.trans ?_ (Below.mono (by assumption) ?_)) | go_size))⟩
  by_cases n1 : a ≤ 2100000000000000000
  rotate_left
  · go_enter Try.func4, Try.ntmps4
    go_wp2_with (first | (go_at_call 15; (with_reducible refine Calls.mono (works_any _) ?_); rintro e w7 ⟨rfl, hb7⟩; have z7 := hb7.size; try simp only [World.size_alloc] at z7) | go_in)
    go_ret
    exact ⟨rfl, by (repeat' (first | (with_reducible exact Below.refl _ _) | (with_reducible refine Below.alloc ?_ ?_ _) | (with_reducible refine Below.drew ?_) | (with_reducible refine Below.setCell ?_ ?_ _) | (with_reducible refine below_drewN ?_ _) | (refine Below.trans ?_ (Below.mono (by assumption) ?_)) | go_size))⟩
  by_cases n2 : 0 ≤ b
  rotate_left
  · go_enter Try.func4, Try.ntmps4
    go_wp2_with (first | (go_at_call 15; (with_reducible refine Calls.mono (works_any _) ?_); rintro e w7 ⟨rfl, hb7⟩; have z7 := hb7.size; try simp only [World.size_alloc] at z7) | go_in)
    go_ret
    exact ⟨rfl, by (repeat' (first | (with_reducible exact Below.refl _ _) | (with_reducible refine Below.alloc ?_ ?_ _) | (with_reducible refine Below.drew ?_) | (with_reducible refine Below.setCell ?_ ?_ _) | (with_reducible refine below_drewN ?_ _) | (refine Below.trans ?_ (Below.mono (by assumption) ?_)) | go_size))⟩
  by_cases n3 : b ≤ 2100000000000000000
  rotate_left
  · go_enter Try.func4, Try.ntmps4
    go_wp2_with (first | (go_at_call 15; (with_reducible refine Calls.mono (works_any _) ?_); rintro e w7 ⟨rfl, hb7⟩; have z7 := hb7.size; try simp only [World.size_alloc] at z7) | go_in)
    go_ret
    exact ⟨rfl, by (repeat' (first | (with_reducible exact Below.refl _ _) | (with_reducible refine Below.alloc ?_ ?_ _) | (with_reducible refine Below.drew ?_) | (with_reducible refine Below.setCell ?_ ?_ _) | (with_reducible refine below_drewN ?_ _) | (refine Below.trans ?_ (Below.mono (by assumption) ?_)) | go_size))⟩
  by_cases n4 : a + b ≤ 2100000000000000000
  rotate_left
  · go_enter Try.func4, Try.ntmps4
    go_wp2_with (first | (go_at_call 15; (with_reducible refine Calls.mono (works_any _) ?_); rintro e w7 ⟨rfl, hb7⟩; have z7 := hb7.size; try simp only [World.size_alloc] at z7) | go_in)
    go_ret
    exact ⟨rfl, by (repeat' (first | (with_reducible exact Below.refl _ _) | (with_reducible refine Below.alloc ?_ ?_ _) | (with_reducible refine Below.drew ?_) | (with_reducible refine Below.setCell ?_ ?_ _) | (with_reducible refine below_drewN ?_ _) | (refine Below.trans ?_ (Below.mono (by assumption) ?_)) | go_size))⟩
  by_cases n5 : 0 ≤ c
  rotate_left
  · go_enter Try.func4, Try.ntmps4
    go_wp2_with (first | (go_at_call 15; (with_reducible refine Calls.mono (works_any _) ?_); rintro e w7 ⟨rfl, hb7⟩; have z7 := hb7.size; try simp only [World.size_alloc] at z7) | go_in)
    go_ret
    exact ⟨rfl, by (repeat' (first | (with_reducible exact Below.refl _ _) | (with_reducible refine Below.alloc ?_ ?_ _) | (with_reducible refine Below.drew ?_) | (with_reducible refine Below.setCell ?_ ?_ _) | (with_reducible refine below_drewN ?_ _) | (refine Below.trans ?_ (Below.mono (by assumption) ?_)) | go_size))⟩
  by_cases n6 : c ≤ 2100000000000000000
  rotate_left
  · go_enter Try.func4, Try.ntmps4
    go_wp2_with (first | (go_at_call 15; (with_reducible refine Calls.mono (works_any _) ?_); rintro e w7 ⟨rfl, hb7⟩; have z7 := hb7.size; try simp only [World.size_alloc] at z7) | go_in)
    go_ret
    exact ⟨rfl, by (repeat' (first | (with_reducible exact Below.refl _ _) | (with_reducible refine Below.alloc ?_ ?_ _) | (with_reducible refine Below.drew ?_) | (with_reducible refine Below.setCell ?_ ?_ _) | (with_reducible refine below_drewN ?_ _) | (refine Below.trans ?_ (Below.mono (by assumption) ?_)) | go_size))⟩
  by_cases n7 : 0 ≤ r
  rotate_left
  · go_enter Try.func4, Try.ntmps4
    go_wp2_with (first | (go_at_call 15; (with_reducible refine Calls.mono (works_any _) ?_); rintro e w7 ⟨rfl, hb7⟩; have z7 := hb7.size; try simp only [World.size_alloc] at z7) | go_in)
    go_ret
    exact ⟨rfl, by (repeat' (first | (with_reducible exact Below.refl _ _) | (with_reducible refine Below.alloc ?_ ?_ _) | (with_reducible refine Below.drew ?_) | (with_reducible refine Below.setCell ?_ ?_ _) | (with_reducible refine below_drewN ?_ _) | (refine Below.trans ?_ (Below.mono (by assumption) ?_)) | go_size))⟩
  by_cases n8 : r ≤ 2100000000000000000
  rotate_left
  · go_enter Try.func4, Try.ntmps4
    go_wp2_with (first | (go_at_call 15; (with_reducible refine Calls.mono (works_any _) ?_); rintro e w7 ⟨rfl, hb7⟩; have z7 := hb7.size; try simp only [World.size_alloc] at z7) | go_in)
    go_ret
    exact ⟨rfl, by (repeat' (first | (with_reducible exact Below.refl _ _) | (with_reducible refine Below.alloc ?_ ?_ _) | (with_reducible refine Below.drew ?_) | (with_reducible refine Below.setCell ?_ ?_ _) | (with_reducible refine below_drewN ?_ _) | (refine Below.trans ?_ (Below.mono (by assumption) ?_)) | go_size))⟩
  exfalso; omega

set_option maxHeartbeats 2000000 in
theorem shares_000 (a b c r : Int) (g0 : 0 ≤ a) (g1 : a ≤ 2100000000000000000) (g2 : 0 ≤ b) (g3 : b ≤ 2100000000000000000) (g4 : a + b ≤ 2100000000000000000) (g5 : 0 ≤ c) (g6 : c ≤ 2100000000000000000) (g7 : 0 ≤ r) (g8 : r ≤ 2100000000000000000) (HA : Hid (feeO a c r = none)) (HB : Hid (feeO b c r = none)) (HC : Hid (feeO (a + b) c r = none)) (w : World) : Calls Try.prog 4 #[.int .i64 a, .int .i64 b, .int .i64 c, .int .i64 r] w (TruePost w) := by
  go_enter Try.func4, Try.ntmps4
  go_wp2_with (first | (go_at_call 9; (with_reducible refine Calls.mono (fee_any a c r _) ?_); rintro e w1 k1; obtain ⟨rfl, hb1⟩ := opt_none k1 HA.out; clear k1; have z1 := hb1.size; try simp only [World.size_alloc] at z1) | (go_at_call 9; (with_reducible refine Calls.mono (fee_any b c r _) ?_); rintro e w2 k2; obtain ⟨rfl, hb2⟩ := opt_none k2 HB.out; clear k2; have z2 := hb2.size; try simp only [World.size_alloc] at z2) | (go_at_call 9; (with_reducible refine Calls.mono (fee_any (a + b) c r _) ?_); rintro e w3 k3; obtain ⟨rfl, hb3⟩ := opt_none k3 HC.out; clear k3; have z3 := hb3.size; try simp only [World.size_alloc] at z3) | (go_at_call 15; (with_reducible refine Calls.mono (works_any _) ?_); rintro e w7 ⟨rfl, hb7⟩; have z7 := hb7.size; try simp only [World.size_alloc] at z7) | go_in)
  go_ret
  exact ⟨rfl, by (repeat' (first | (with_reducible exact Below.refl _ _) | (with_reducible refine Below.alloc ?_ ?_ _) | (with_reducible refine Below.drew ?_) | (with_reducible refine Below.setCell ?_ ?_ _) | (with_reducible refine below_drewN ?_ _) | (refine Below.trans ?_ (Below.mono (by assumption) ?_)) | go_size))⟩

set_option maxHeartbeats 2000000 in
theorem shares_010 (a b c r : Int) (y : Int) (g0 : 0 ≤ a) (g1 : a ≤ 2100000000000000000) (g2 : 0 ≤ b) (g3 : b ≤ 2100000000000000000) (g4 : a + b ≤ 2100000000000000000) (g5 : 0 ≤ c) (g6 : c ≤ 2100000000000000000) (g7 : 0 ≤ r) (g8 : r ≤ 2100000000000000000) (HA : Hid (feeO a c r = none)) (HB : Hid (feeO b c r = some y)) (HC : Hid (feeO (a + b) c r = none)) (w : World) : Calls Try.prog 4 #[.int .i64 a, .int .i64 b, .int .i64 c, .int .i64 r] w (TruePost w) := by
  go_enter Try.func4, Try.ntmps4
  go_wp2_with (first | (go_at_call 9; (with_reducible refine Calls.mono (fee_any a c r _) ?_); rintro e w1 k1; obtain ⟨rfl, hb1⟩ := opt_none k1 HA.out; clear k1; have z1 := hb1.size; try simp only [World.size_alloc] at z1) | (go_at_call 9; (with_reducible refine Calls.mono (fee_any b c r _) ?_); rintro e w2 k2; obtain ⟨rfl, hb2⟩ := opt_some k2 HB.out; clear k2; have z2 := hb2.size; try simp only [World.size_alloc] at z2) | (go_at_call 9; (with_reducible refine Calls.mono (fee_any (a + b) c r _) ?_); rintro e w3 k3; obtain ⟨rfl, hb3⟩ := opt_none k3 HC.out; clear k3; have z3 := hb3.size; try simp only [World.size_alloc] at z3) | (go_at_call 15; (with_reducible refine Calls.mono (works_any _) ?_); rintro e w7 ⟨rfl, hb7⟩; have z7 := hb7.size; try simp only [World.size_alloc] at z7) | go_in)
  go_ret
  exact ⟨rfl, by (repeat' (first | (with_reducible exact Below.refl _ _) | (with_reducible refine Below.alloc ?_ ?_ _) | (with_reducible refine Below.drew ?_) | (with_reducible refine Below.setCell ?_ ?_ _) | (with_reducible refine below_drewN ?_ _) | (refine Below.trans ?_ (Below.mono (by assumption) ?_)) | go_size))⟩

set_option maxHeartbeats 2000000 in
theorem shares_100 (a b c r : Int) (x : Int) (g0 : 0 ≤ a) (g1 : a ≤ 2100000000000000000) (g2 : 0 ≤ b) (g3 : b ≤ 2100000000000000000) (g4 : a + b ≤ 2100000000000000000) (g5 : 0 ≤ c) (g6 : c ≤ 2100000000000000000) (g7 : 0 ≤ r) (g8 : r ≤ 2100000000000000000) (HA : Hid (feeO a c r = some x)) (HB : Hid (feeO b c r = none)) (HC : Hid (feeO (a + b) c r = none)) (w : World) : Calls Try.prog 4 #[.int .i64 a, .int .i64 b, .int .i64 c, .int .i64 r] w (TruePost w) := by
  go_enter Try.func4, Try.ntmps4
  go_wp2_with (first | (go_at_call 9; (with_reducible refine Calls.mono (fee_any a c r _) ?_); rintro e w1 k1; obtain ⟨rfl, hb1⟩ := opt_some k1 HA.out; clear k1; have z1 := hb1.size; try simp only [World.size_alloc] at z1) | (go_at_call 9; (with_reducible refine Calls.mono (fee_any b c r _) ?_); rintro e w2 k2; obtain ⟨rfl, hb2⟩ := opt_none k2 HB.out; clear k2; have z2 := hb2.size; try simp only [World.size_alloc] at z2) | (go_at_call 9; (with_reducible refine Calls.mono (fee_any (a + b) c r _) ?_); rintro e w3 k3; obtain ⟨rfl, hb3⟩ := opt_none k3 HC.out; clear k3; have z3 := hb3.size; try simp only [World.size_alloc] at z3) | (go_at_call 15; (with_reducible refine Calls.mono (works_any _) ?_); rintro e w7 ⟨rfl, hb7⟩; have z7 := hb7.size; try simp only [World.size_alloc] at z7) | go_in)
  go_ret
  exact ⟨rfl, by (repeat' (first | (with_reducible exact Below.refl _ _) | (with_reducible refine Below.alloc ?_ ?_ _) | (with_reducible refine Below.drew ?_) | (with_reducible refine Below.setCell ?_ ?_ _) | (with_reducible refine below_drewN ?_ _) | (refine Below.trans ?_ (Below.mono (by assumption) ?_)) | go_size))⟩

set_option maxHeartbeats 2000000 in
theorem shares_110 (a b c r : Int) (x y : Int) (g0 : 0 ≤ a) (g1 : a ≤ 2100000000000000000) (g2 : 0 ≤ b) (g3 : b ≤ 2100000000000000000) (g4 : a + b ≤ 2100000000000000000) (g5 : 0 ≤ c) (g6 : c ≤ 2100000000000000000) (g7 : 0 ≤ r) (g8 : r ≤ 2100000000000000000) (HA : Hid (feeO a c r = some x)) (HB : Hid (feeO b c r = some y)) (HC : Hid (feeO (a + b) c r = none)) (w : World) : Calls Try.prog 4 #[.int .i64 a, .int .i64 b, .int .i64 c, .int .i64 r] w (TruePost w) := by
  go_enter Try.func4, Try.ntmps4
  go_wp2_with (first | (go_at_call 9; (with_reducible refine Calls.mono (fee_any a c r _) ?_); rintro e w1 k1; obtain ⟨rfl, hb1⟩ := opt_some k1 HA.out; clear k1; have z1 := hb1.size; try simp only [World.size_alloc] at z1) | (go_at_call 9; (with_reducible refine Calls.mono (fee_any b c r _) ?_); rintro e w2 k2; obtain ⟨rfl, hb2⟩ := opt_some k2 HB.out; clear k2; have z2 := hb2.size; try simp only [World.size_alloc] at z2) | (go_at_call 9; (with_reducible refine Calls.mono (fee_any (a + b) c r _) ?_); rintro e w3 k3; obtain ⟨rfl, hb3⟩ := opt_none k3 HC.out; clear k3; have z3 := hb3.size; try simp only [World.size_alloc] at z3) | (go_at_call 15; (with_reducible refine Calls.mono (works_any _) ?_); rintro e w7 ⟨rfl, hb7⟩; have z7 := hb7.size; try simp only [World.size_alloc] at z7) | go_in)
  go_ret
  exact ⟨rfl, by (repeat' (first | (with_reducible exact Below.refl _ _) | (with_reducible refine Below.alloc ?_ ?_ _) | (with_reducible refine Below.drew ?_) | (with_reducible refine Below.setCell ?_ ?_ _) | (with_reducible refine below_drewN ?_ _) | (refine Below.trans ?_ (Below.mono (by assumption) ?_)) | go_size))⟩

set_option maxHeartbeats 2000000 in
theorem shares_111 (a b c r : Int) (x y z : Int) (g0 : 0 ≤ a) (g1 : a ≤ 2100000000000000000) (g2 : 0 ≤ b) (g3 : b ≤ 2100000000000000000) (g4 : a + b ≤ 2100000000000000000) (g5 : 0 ≤ c) (g6 : c ≤ 2100000000000000000) (g7 : 0 ≤ r) (g8 : r ≤ 2100000000000000000) (l1 : x ≤ z) (l2 : y ≤ z) (l3 : c ≤ x) (l4 : 0 ≤ z + c - x - y) (l5 : z + c - x - y ≤ 1) (l6 : z ≤ 2100000000000000000) (l7 : c ≤ y) (HA : Hid (feeO a c r = some x)) (HB : Hid (feeO b c r = some y)) (HC : Hid (feeO (a + b) c r = some z)) (w : World) : Calls Try.prog 4 #[.int .i64 a, .int .i64 b, .int .i64 c, .int .i64 r] w (TruePost w) := by
  by_cases d0 : z + c - x - y = 0
  · have db : (z + c - x - y == 0) = true := by rw [d0]; rfl
    clear d0
    go_enter Try.func4, Try.ntmps4
    go_wp2_with (first | (go_at_call 9; (with_reducible refine Calls.mono (fee_any a c r _) ?_); rintro e w1 k1; obtain ⟨rfl, hb1⟩ := opt_some k1 HA.out; clear k1; have z1 := hb1.size; try simp only [World.size_alloc] at z1) | (go_at_call 9; (with_reducible refine Calls.mono (fee_any b c r _) ?_); rintro e w2 k2; obtain ⟨rfl, hb2⟩ := opt_some k2 HB.out; clear k2; have z2 := hb2.size; try simp only [World.size_alloc] at z2) | (go_at_call 9; (with_reducible refine Calls.mono (fee_any (a + b) c r _) ?_); rintro e w3 k3; obtain ⟨rfl, hb3⟩ := opt_some k3 HC.out; clear k3; have z3 := hb3.size; try simp only [World.size_alloc] at z3) | (go_at_call 15; (with_reducible refine Calls.mono (works_any _) ?_); rintro e w7 ⟨rfl, hb7⟩; have z7 := hb7.size; try simp only [World.size_alloc] at z7) | go_in)
    go_ret
    exact ⟨rfl, by (repeat' (first | (with_reducible exact Below.refl _ _) | (with_reducible refine Below.alloc ?_ ?_ _) | (with_reducible refine Below.drew ?_) | (with_reducible refine Below.setCell ?_ ?_ _) | (with_reducible refine below_drewN ?_ _) | (refine Below.trans ?_ (Below.mono (by assumption) ?_)) | go_size))⟩
  · have d1 : z + c - x - y = 1 := by omega
    have db : (z + c - x - y == 0) = false := by rw [d1]; rfl
    have dc : (z + c - x - y == 1) = true := by rw [d1]; rfl
    clear d0 d1
    go_enter Try.func4, Try.ntmps4
    go_wp2_with (first | (go_at_call 9; (with_reducible refine Calls.mono (fee_any a c r _) ?_); rintro e w1 k1; obtain ⟨rfl, hb1⟩ := opt_some k1 HA.out; clear k1; have z1 := hb1.size; try simp only [World.size_alloc] at z1) | (go_at_call 9; (with_reducible refine Calls.mono (fee_any b c r _) ?_); rintro e w2 k2; obtain ⟨rfl, hb2⟩ := opt_some k2 HB.out; clear k2; have z2 := hb2.size; try simp only [World.size_alloc] at z2) | (go_at_call 9; (with_reducible refine Calls.mono (fee_any (a + b) c r _) ?_); rintro e w3 k3; obtain ⟨rfl, hb3⟩ := opt_some k3 HC.out; clear k3; have z3 := hb3.size; try simp only [World.size_alloc] at z3) | (go_at_call 15; (with_reducible refine Calls.mono (works_any _) ?_); rintro e w7 ⟨rfl, hb7⟩; have z7 := hb7.size; try simp only [World.size_alloc] at z7) | go_in)
    go_ret
    exact ⟨rfl, by (repeat' (first | (with_reducible exact Below.refl _ _) | (with_reducible refine Below.alloc ?_ ?_ _) | (with_reducible refine Below.drew ?_) | (with_reducible refine Below.setCell ?_ ?_ _) | (with_reducible refine below_drewN ?_ _) | (refine Below.trans ?_ (Below.mono (by assumption) ?_)) | go_size))⟩

theorem fee_some (a c r : Int) (g0 : 0 ≤ a) (g1 : a ≤ 2100000000000000000) (g5 : 0 ≤ c) (g6 : c ≤ 2100000000000000000) (g7 : 0 ≤ r) (g8 : r ≤ 2100000000000000000) (h : c + a * r / 1000000 ≤ 2100000000000000000) : feeO a c r = some (c + a * r / 1000000) := by
  simp only [feeO]; rw [if_pos ⟨g0, g1, g5, g6, g7, g8, h⟩]
theorem share_law (a b c r z : Int) (g0 : 0 ≤ a) (g1 : a ≤ 2100000000000000000) (g2 : 0 ≤ b) (g3 : b ≤ 2100000000000000000) (g5 : 0 ≤ c) (g6 : c ≤ 2100000000000000000) (g7 : 0 ≤ r) (g8 : r ≤ 2100000000000000000) (hz : feeO (a + b) c r = some z) :
    ∃ x y, feeO a c r = some x ∧ feeO b c r = some y ∧ x ≤ z ∧ y ≤ z ∧ c ≤ x ∧ 0 ≤ z + c - x - y ∧ z + c - x - y ≤ 1 ∧ z ≤ 2100000000000000000 ∧ c ≤ y := by
  have hz2 : z = c + (a + b) * r / 1000000 ∧ c + (a + b) * r / 1000000 ≤ 2100000000000000000 := by
    simp only [feeO] at hz
    split at hz
    · rename_i h; cases hz; exact ⟨rfl, h.2.2.2.2.2.2⟩
    · cases hz
  obtain ⟨rfl, h⟩ := hz2
  have e : (a + b) * r = a * r + b * r := Int.add_mul a b r
  have na : 0 ≤ a * r := Int.mul_nonneg g0 g7
  have nb : 0 ≤ b * r := Int.mul_nonneg g2 g7
  rw [e] at h ⊢
  refine ⟨_, _, fee_some a c r g0 g1 g5 g6 g7 g8 ?_, fee_some b c r g2 g3 g5 g6 g7 g8 ?_, ?_⟩ <;> (generalize a * r = p at *; generalize b * r = q at *; omega)

theorem moneyShares_any (a b c r : Int) (w : World) : Calls Try.prog 4 #[.int .i64 a, .int .i64 b, .int .i64 c, .int .i64 r] w (TruePost w) := by
  by_cases h : 0 ≤ a ∧ a ≤ 2100000000000000000 ∧ 0 ≤ b ∧ b ≤ 2100000000000000000 ∧ a + b ≤ 2100000000000000000 ∧ 0 ≤ c ∧ c ≤ 2100000000000000000 ∧ 0 ≤ r ∧ r ≤ 2100000000000000000
  · obtain ⟨g0, g1, g2, g3, g4, g5, g6, g7, g8⟩ := h
    cases hz : feeO (a + b) c r with
    | none =>
      cases hx : feeO a c r <;> cases hy : feeO b c r
      · exact shares_000 a b c r g0 g1 g2 g3 g4 g5 g6 g7 g8 hx hy hz w
      · exact shares_010 a b c r _ g0 g1 g2 g3 g4 g5 g6 g7 g8 hx hy hz w
      · exact shares_100 a b c r _ g0 g1 g2 g3 g4 g5 g6 g7 g8 hx hy hz w
      · exact shares_110 a b c r _ _ g0 g1 g2 g3 g4 g5 g6 g7 g8 hx hy hz w
    | some z =>
      obtain ⟨x, y, hx, hy, l1, l2, l3, l4, l5, l6, l7⟩ := share_law a b c r z g0 g1 g2 g3 g5 g6 g7 g8 hz
      exact shares_111 a b c r x y z g0 g1 g2 g3 g4 g5 g6 g7 g8 l1 l2 l3 l4 l5 l6 l7 hx hy hz w
  · exact shares_bad a b c r h w

end Go.Proofs.Ytmpgbflhhdhbpaa
