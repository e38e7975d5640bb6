/- The walks of the money functions: what each computes. -/
import Derived.Test.YtmpgbflhhdhbpaaRows
import Derived.Test.YtmpgbflhhdhbpaaMath
import Derived.Test.YtmpgbflhhdhbpaaDiv
import Derived.Test.YtmpgbflhhdhbpaaShare
import Derived.Test.YtmpgbflhhdhbpaaShelf
import Derived.Test.YtmpgbflhhdhbpaaWalk1
import Derived.Test.YtmpgbflhhdhbpaaWalk2
import Derived.Test.YtmpgbflhhdhbpaaWalk3
import Derived.Test.YtmpgbflhhdhbpaaWalk4
import Derived.Test.YtmpgbflhhdhbpaaWalk5
import Derived.WalkKit
import Derived.WalkSpells
import Derived.WalkLawsBesides
import Derived.Handy
import Derived.Deep.QuietTactic
import Derived.BigQuiet
namespace Go.Proofs.Ytmpgbflhhdhbpaa
open Go.RowKit

set_option maxHeartbeats 2000000 in
theorem moneyFees_000 (a b r : Int) (HF : Hid (feeO a b r = none)) (HG : Hid (grossO a b r = none)) (HC : Hid (costO a r = none)) (w : World) : Calls Try.prog 3 #[.int .i64 a, .int .i64 b, .int .i64 r] w (TruePost w) := by
  go_enter Try.func3, Try.ntmps3
  go_wp2_with (first | (go_at_call 9; (with_reducible refine Calls.mono (fee_any a b r _) ?_); rintro e w1 k1; obtain ⟨rfl, hb1⟩ := opt_none k1 HF.out; clear k1; have z1 := hb1.size; try simp only [World.size_alloc] at z1) | (go_at_call 10; (with_reducible refine Calls.mono (gross_any a b r _) ?_); rintro e w2 k2; obtain ⟨rfl, hb2⟩ := opt_none k2 HG.out; clear k2; have z2 := hb2.size; try simp only [World.size_alloc] at z2) | (go_at_call 11; (with_reducible refine Calls.mono (cost_any a r _) ?_); rintro e w3 k3; obtain ⟨rfl, hb3⟩ := opt_none k3 HC.out; clear k3; have z3 := hb3.size; try simp only [World.size_alloc] at z3) | (go_at_call 12; (with_reducible refine Calls.mono (feer_any a b r _) ?_); rintro e w4 k4; obtain ⟨rfl, hb4⟩ := opt_none k4 HF.out; clear k4; have z4 := hb4.size; try simp only [World.size_alloc] at z4) | (go_at_call 13; (with_reducible refine Calls.mono (grossr_any a b r _) ?_); rintro e w5 k5; obtain ⟨rfl, hb5⟩ := opt_none k5 HG.out; clear k5; have z5 := hb5.size; try simp only [World.size_alloc] at z5) | (go_at_call 14; (with_reducible refine Calls.mono (costr_any a r _) ?_); rintro e w6 k6; obtain ⟨rfl, hb6⟩ := opt_none k6 HC.out; clear k6; have z6 := hb6.size; try simp only [World.size_alloc] at z6) | (go_at_call 15; (with_reducible refine Calls.mono (works_any _) ?_); rintro e w7 ⟨rfl, hb7⟩; have z7 := hb7.size; try simp only [World.size_alloc] at z7) | fail)
  go_ret
  exact ⟨rfl, by (repeat' (first | (with_reducible exact Below.refl _ _) | (with_reducible refine Below.alloc ?_ ?_ _) | (with_reducible refine Below.drew ?_) | (with_reducible refine Below.setCell ?_ ?_ _) | (with_reducible refine below_drewN ?_ _) | (refine Below.trans ?_ (Below.mono (by assumption) ?_)) | go_size))⟩

set_option maxHeartbeats 2000000 in
theorem moneyFees_001 (a b r : Int) (z : Int) (HF : Hid (feeO a b r = none)) (HG : Hid (grossO a b r = none)) (HC : Hid (costO a r = some z)) (w : World) : Calls Try.prog 3 #[.int .i64 a, .int .i64 b, .int .i64 r] w (TruePost w) := by
  go_enter Try.func3, Try.ntmps3
  go_wp2_with (first | (go_at_call 9; (with_reducible refine Calls.mono (fee_any a b r _) ?_); rintro e w1 k1; obtain ⟨rfl, hb1⟩ := opt_none k1 HF.out; clear k1; have z1 := hb1.size; try simp only [World.size_alloc] at z1) | (go_at_call 10; (with_reducible refine Calls.mono (gross_any a b r _) ?_); rintro e w2 k2; obtain ⟨rfl, hb2⟩ := opt_none k2 HG.out; clear k2; have z2 := hb2.size; try simp only [World.size_alloc] at z2) | (go_at_call 11; (with_reducible refine Calls.mono (cost_any a r _) ?_); rintro e w3 k3; obtain ⟨rfl, hb3⟩ := opt_some k3 HC.out; clear k3; have z3 := hb3.size; try simp only [World.size_alloc] at z3) | (go_at_call 12; (with_reducible refine Calls.mono (feer_any a b r _) ?_); rintro e w4 k4; obtain ⟨rfl, hb4⟩ := opt_none k4 HF.out; clear k4; have z4 := hb4.size; try simp only [World.size_alloc] at z4) | (go_at_call 13; (with_reducible refine Calls.mono (grossr_any a b r _) ?_); rintro e w5 k5; obtain ⟨rfl, hb5⟩ := opt_none k5 HG.out; clear k5; have z5 := hb5.size; try simp only [World.size_alloc] at z5) | (go_at_call 14; (with_reducible refine Calls.mono (costr_any a r _) ?_); rintro e w6 k6; obtain ⟨rfl, hb6⟩ := opt_some k6 HC.out; clear k6; have z6 := hb6.size; try simp only [World.size_alloc] at z6) | (go_at_call 15; (with_reducible refine Calls.mono (works_any _) ?_); rintro e w7 ⟨rfl, hb7⟩; have z7 := hb7.size; try simp only [World.size_alloc] at z7) | fail)
  go_ret
  exact ⟨rfl, by (repeat' (first | (with_reducible exact Below.refl _ _) | (with_reducible refine Below.alloc ?_ ?_ _) | (with_reducible refine Below.drew ?_) | (with_reducible refine Below.setCell ?_ ?_ _) | (with_reducible refine below_drewN ?_ _) | (refine Below.trans ?_ (Below.mono (by assumption) ?_)) | go_size))⟩

set_option maxHeartbeats 2000000 in
theorem moneyFees_100 (a b r : Int) (x : Int) (HF : Hid (feeO a b r = some x)) (HG : Hid (grossO a b r = none)) (HC : Hid (costO a r = none)) (w : World) : Calls Try.prog 3 #[.int .i64 a, .int .i64 b, .int .i64 r] w (TruePost w) := by
  go_enter Try.func3, Try.ntmps3
  go_wp2_with (first | (go_at_call 9; (with_reducible refine Calls.mono (fee_any a b r _) ?_); rintro e w1 k1; obtain ⟨rfl, hb1⟩ := opt_some k1 HF.out; clear k1; have z1 := hb1.size; try simp only [World.size_alloc] at z1) | (go_at_call 10; (with_reducible refine Calls.mono (gross_any a b r _) ?_); rintro e w2 k2; obtain ⟨rfl, hb2⟩ := opt_none k2 HG.out; clear k2; have z2 := hb2.size; try simp only [World.size_alloc] at z2) | (go_at_call 11; (with_reducible refine Calls.mono (cost_any a r _) ?_); rintro e w3 k3; obtain ⟨rfl, hb3⟩ := opt_none k3 HC.out; clear k3; have z3 := hb3.size; try simp only [World.size_alloc] at z3) | (go_at_call 12; (with_reducible refine Calls.mono (feer_any a b r _) ?_); rintro e w4 k4; obtain ⟨rfl, hb4⟩ := opt_some k4 HF.out; clear k4; have z4 := hb4.size; try simp only [World.size_alloc] at z4) | (go_at_call 13; (with_reducible refine Calls.mono (grossr_any a b r _) ?_); rintro e w5 k5; obtain ⟨rfl, hb5⟩ := opt_none k5 HG.out; clear k5; have z5 := hb5.size; try simp only [World.size_alloc] at z5) | (go_at_call 14; (with_reducible refine Calls.mono (costr_any a r _) ?_); rintro e w6 k6; obtain ⟨rfl, hb6⟩ := opt_none k6 HC.out; clear k6; have z6 := hb6.size; try simp only [World.size_alloc] at z6) | (go_at_call 15; (with_reducible refine Calls.mono (works_any _) ?_); rintro e w7 ⟨rfl, hb7⟩; have z7 := hb7.size; try simp only [World.size_alloc] at z7) | fail)
  go_ret
  exact ⟨rfl, by (repeat' (first | (with_reducible exact Below.refl _ _) | (with_reducible refine Below.alloc ?_ ?_ _) | (with_reducible refine Below.drew ?_) | (with_reducible refine Below.setCell ?_ ?_ _) | (with_reducible refine below_drewN ?_ _) | (refine Below.trans ?_ (Below.mono (by assumption) ?_)) | go_size))⟩

set_option maxHeartbeats 2000000 in
theorem moneyFees_101 (a b r : Int) (x z : Int) (HF : Hid (feeO a b r = some x)) (HG : Hid (grossO a b r = none)) (HC : Hid (costO a r = some z)) (w : World) : Calls Try.prog 3 #[.int .i64 a, .int .i64 b, .int .i64 r] w (TruePost w) := by
  go_enter Try.func3, Try.ntmps3
  go_wp2_with (first | (go_at_call 9; (with_reducible refine Calls.mono (fee_any a b r _) ?_); rintro e w1 k1; obtain ⟨rfl, hb1⟩ := opt_some k1 HF.out; clear k1; have z1 := hb1.size; try simp only [World.size_alloc] at z1) | (go_at_call 10; (with_reducible refine Calls.mono (gross_any a b r _) ?_); rintro e w2 k2; obtain ⟨rfl, hb2⟩ := opt_none k2 HG.out; clear k2; have z2 := hb2.size; try simp only [World.size_alloc] at z2) | (go_at_call 11; (with_reducible refine Calls.mono (cost_any a r _) ?_); rintro e w3 k3; obtain ⟨rfl, hb3⟩ := opt_some k3 HC.out; clear k3; have z3 := hb3.size; try simp only [World.size_alloc] at z3) | (go_at_call 12; (with_reducible refine Calls.mono (feer_any a b r _) ?_); rintro e w4 k4; obtain ⟨rfl, hb4⟩ := opt_some k4 HF.out; clear k4; have z4 := hb4.size; try simp only [World.size_alloc] at z4) | (go_at_call 13; (with_reducible refine Calls.mono (grossr_any a b r _) ?_); rintro e w5 k5; obtain ⟨rfl, hb5⟩ := opt_none k5 HG.out; clear k5; have z5 := hb5.size; try simp only [World.size_alloc] at z5) | (go_at_call 14; (with_reducible refine Calls.mono (costr_any a r _) ?_); rintro e w6 k6; obtain ⟨rfl, hb6⟩ := opt_some k6 HC.out; clear k6; have z6 := hb6.size; try simp only [World.size_alloc] at z6) | (go_at_call 15; (with_reducible refine Calls.mono (works_any _) ?_); rintro e w7 ⟨rfl, hb7⟩; have z7 := hb7.size; try simp only [World.size_alloc] at z7) | fail)
  go_ret
  exact ⟨rfl, by (repeat' (first | (with_reducible exact Below.refl _ _) | (with_reducible refine Below.alloc ?_ ?_ _) | (with_reducible refine Below.drew ?_) | (with_reducible refine Below.setCell ?_ ?_ _) | (with_reducible refine below_drewN ?_ _) | (refine Below.trans ?_ (Below.mono (by assumption) ?_)) | go_size))⟩

set_option maxHeartbeats 2000000 in
theorem moneyFees_110 (a b r : Int) (x y : Int) (HF : Hid (feeO a b r = some x)) (HG : Hid (grossO a b r = some y)) (HC : Hid (costO a r = none)) (w : World) : Calls Try.prog 3 #[.int .i64 a, .int .i64 b, .int .i64 r] w (TruePost w) := by
  go_enter Try.func3, Try.ntmps3
  go_wp2_with (first | (go_at_call 9; (with_reducible refine Calls.mono (fee_any a b r _) ?_); rintro e w1 k1; obtain ⟨rfl, hb1⟩ := opt_some k1 HF.out; clear k1; have z1 := hb1.size; try simp only [World.size_alloc] at z1) | (go_at_call 10; (with_reducible refine Calls.mono (gross_any a b r _) ?_); rintro e w2 k2; obtain ⟨rfl, hb2⟩ := opt_some k2 HG.out; clear k2; have z2 := hb2.size; try simp only [World.size_alloc] at z2) | (go_at_call 11; (with_reducible refine Calls.mono (cost_any a r _) ?_); rintro e w3 k3; obtain ⟨rfl, hb3⟩ := opt_none k3 HC.out; clear k3; have z3 := hb3.size; try simp only [World.size_alloc] at z3) | (go_at_call 12; (with_reducible refine Calls.mono (feer_any a b r _) ?_); rintro e w4 k4; obtain ⟨rfl, hb4⟩ := opt_some k4 HF.out; clear k4; have z4 := hb4.size; try simp only [World.size_alloc] at z4) | (go_at_call 13; (with_reducible refine Calls.mono (grossr_any a b r _) ?_); rintro e w5 k5; obtain ⟨rfl, hb5⟩ := opt_some k5 HG.out; clear k5; have z5 := hb5.size; try simp only [World.size_alloc] at z5) | (go_at_call 14; (with_reducible refine Calls.mono (costr_any a r _) ?_); rintro e w6 k6; obtain ⟨rfl, hb6⟩ := opt_none k6 HC.out; clear k6; have z6 := hb6.size; try simp only [World.size_alloc] at z6) | (go_at_call 15; (with_reducible refine Calls.mono (works_any _) ?_); rintro e w7 ⟨rfl, hb7⟩; have z7 := hb7.size; try simp only [World.size_alloc] at z7) | fail)
  go_ret
  exact ⟨rfl, by (repeat' (first | (with_reducible exact Below.refl _ _) | (with_reducible refine Below.alloc ?_ ?_ _) | (with_reducible refine Below.drew ?_) | (with_reducible refine Below.setCell ?_ ?_ _) | (with_reducible refine below_drewN ?_ _) | (refine Below.trans ?_ (Below.mono (by assumption) ?_)) | go_size))⟩

set_option maxHeartbeats 2000000 in
theorem moneyFees_111 (a b r : Int) (x y z : Int) (HF : Hid (feeO a b r = some x)) (HG : Hid (grossO a b r = some y)) (HC : Hid (costO a r = some z)) (w : World) : Calls Try.prog 3 #[.int .i64 a, .int .i64 b, .int .i64 r] w (TruePost w) := by
  go_enter Try.func3, Try.ntmps3
  go_wp2_with (first | (go_at_call 9; (with_reducible refine Calls.mono (fee_any a b r _) ?_); rintro e w1 k1; obtain ⟨rfl, hb1⟩ := opt_some k1 HF.out; clear k1; have z1 := hb1.size; try simp only [World.size_alloc] at z1) | (go_at_call 10; (with_reducible refine Calls.mono (gross_any a b r _) ?_); rintro e w2 k2; obtain ⟨rfl, hb2⟩ := opt_some k2 HG.out; clear k2; have z2 := hb2.size; try simp only [World.size_alloc] at z2) | (go_at_call 11; (with_reducible refine Calls.mono (cost_any a r _) ?_); rintro e w3 k3; obtain ⟨rfl, hb3⟩ := opt_some k3 HC.out; clear k3; have z3 := hb3.size; try simp only [World.size_alloc] at z3) | (go_at_call 12; (with_reducible refine Calls.mono (feer_any a b r _) ?_); rintro e w4 k4; obtain ⟨rfl, hb4⟩ := opt_some k4 HF.out; clear k4; have z4 := hb4.size; try simp only [World.size_alloc] at z4) | (go_at_call 13; (with_reducible refine Calls.mono (grossr_any a b r _) ?_); rintro e w5 k5; obtain ⟨rfl, hb5⟩ := opt_some k5 HG.out; clear k5; have z5 := hb5.size; try simp only [World.size_alloc] at z5) | (go_at_call 14; (with_reducible refine Calls.mono (costr_any a r _) ?_); rintro e w6 k6; obtain ⟨rfl, hb6⟩ := opt_some k6 HC.out; clear k6; have z6 := hb6.size; try simp only [World.size_alloc] at z6) | (go_at_call 15; (with_reducible refine Calls.mono (works_any _) ?_); rintro e w7 ⟨rfl, hb7⟩; have z7 := hb7.size; try simp only [World.size_alloc] at z7) | fail)
  go_ret
  exact ⟨rfl, by (repeat' (first | (with_reducible exact Below.refl _ _) | (with_reducible refine Below.alloc ?_ ?_ _) | (with_reducible refine Below.drew ?_) | (with_reducible refine Below.setCell ?_ ?_ _) | (with_reducible refine below_drewN ?_ _) | (refine Below.trans ?_ (Below.mono (by assumption) ?_)) | go_size))⟩

theorem moneyFees_any (a b r : Int) (w : World) : Calls Try.prog 3 #[.int .i64 a, .int .i64 b, .int .i64 r] w (TruePost w) := by
  cases hf : feeO a b r with
  | none =>
    have hg : grossO a b r = none := by simp only [grossO, hf]
    cases hc : costO a r with
    | none => exact moneyFees_000 a b r hf hg hc w
    | some z => exact moneyFees_001 a b r z hf hg hc w
  | some x =>
    cases hg : grossO a b r with
    | none =>
      cases hc : costO a r with
      | none => exact moneyFees_100 a b r x hf hg hc w
      | some z => exact moneyFees_101 a b r x z hf hg hc w
    | some y =>
      cases hc : costO a r with
      | none => exact moneyFees_110 a b r x y hf hg hc w
      | some z => exact moneyFees_111 a b r x y z hf hg hc w

end Go.Proofs.Ytmpgbflhhdhbpaa
