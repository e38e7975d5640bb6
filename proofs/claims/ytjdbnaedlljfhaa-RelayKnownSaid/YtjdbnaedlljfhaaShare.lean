import Derived.Test.YtjdbnaedlljfhaaRows
import Derived.Test.YtjdbnaedlljfhaaMath
import Derived.WalkKit
import Derived.WalkSpells
import Derived.WalkLawsBesides
import Derived.Handy
import Derived.Deep.QuietTactic
import Derived.BigQuiet
namespace Go.Proofs.Ytjdbnaedlljfhaa
open Go.RowKit

def SharePost (a b y : Int) (w : World) (e : Ending) (w' : World) : Prop :=
  Below w.heap.size w w' ∧ (a * b / y ≤ 2100000000000000000 → e = .returned (.tuple #[.int .i64 (a * b / y), .bool true])) ∧ (2100000000000000000 < a * b / y → ∃ z, e = .returned (.tuple #[.int .i64 z, .bool false]))
theorem below_drewN {B : Nat} {a w : World} (h : Below B a w) (n : Nat) : Below B a (w.drewN n) := by
  induction n with
  | zero => exact h
  | succ n ih => exact ih.drew

set_option maxHeartbeats 800000 in
theorem share_a (a b : Int) (a0 : 0 ≤ a) (a1 : a ≤ 2100000000000000000) (b0 : 0 ≤ b) (b1 : b ≤ 2100000000000000000) (w : World) :
    Calls Try.prog 47 #[.int .i64 a, .int .i64 b, .int .i64 1000000] w (SharePost a b 1000000 w) := by
  go_enter Try.func47, Try.ntmps47
  go_wp2
  go_quiet (fail)
  go_wp2
  go_loop [8, 9, 12] (fun q r k => ∃ q' r' k' : Int, q = .int .i64 q' ∧ r = .int .i64 r' ∧ k = .int .i64 k' ∧ shareInv a b 1000000 q' r' k' ∧ 0 ≤ q' ∧ 0 ≤ r' ∧ r' < 1000000 ∧ k' ≤ 62 ∧ -1 ≤ k' ) (fun _ _ k => (intOf k + 1).toNat)
  case atStart => exact ⟨0, 0, 62, rfl, rfl, rfl, share_start a b 1000000 b0 b1 (by omega), by omega, by omega, by omega, by omega, by omega⟩
  case round =>
    obtain ⟨q, r, k, rfl, rfl, rfl, hi, q0, r0, r1, k0, k1⟩ := hrel
    by_cases hk : 0 ≤ k
    · by_cases hq : q ≤ 2100000000000000000
      · by_cases hb : b / 2 ^ k.toNat % 2 = 1
        · have hn := share_step1a a b q r k a0 hk hi hb
          have hb' : (bits BinOp.and IntKind.i64 (b / 2 ^ k.toNat) 1 == 1) = true := by rw [bit_and b _ b0 b1, hb]; rfl
          clear hb
          go_wp2
          go_round
          case rel => exact ⟨_, _, _, rfl, rfl, rfl, hn, hn.1, hn.2.1, hn.2.2.1, by omega, by omega⟩
          case measure => simp [intOf]; omega
        · have hb2 : b / 2 ^ k.toNat % 2 = 0 := by omega
          have hn := share_step0a a b q r k hk hi hb2
          have hb' : (bits BinOp.and IntKind.i64 (b / 2 ^ k.toNat) 1 == 1) = false := by rw [bit_and b _ b0 b1, hb2]; rfl
          clear hb hb2
          go_wp2
          go_round
          case rel => exact ⟨_, _, _, rfl, rfl, rfl, hn, hn.1, hn.2.1, hn.2.2.1, by omega, by omega⟩
          case measure => simp [intOf]; omega
      · have hbig := share_big a b 1000000 q r k a0 b0 (by omega) hi
        go_wp2
        go_ret2
        exact ⟨below_drewN (Below.refl _ _) _, fun h => by omega, fun _ => ⟨0, rfl⟩⟩
    · obtain rfl : k = -1 := by omega
      have hend := share_end a b 1000000 q r (by omega) hi
      have HE := Lib.hid hend; clear hend
      by_cases hq : q ≤ 2100000000000000000
      all_goals
        go_wp2
        go_ret2
        refine ⟨below_drewN (Below.refl _ _) _, fun h => ?_, fun h => ?_⟩
        · rw [HE.out] at h ⊢
          first | (exfalso; omega) | simp [hq]
        · rw [HE.out] at h
          first | (exfalso; omega) | exact ⟨q, by simp [hq]⟩

set_option maxHeartbeats 800000 in
theorem share_b (a b : Int) (a0 : 0 ≤ a) (a1 : a ≤ 2100000000000000000) (b0 : 0 ≤ b) (b1 : b ≤ 2100000000000000000) (w : World) :
    Calls Try.prog 47 #[.int .i64 a, .int .i64 b, .int .i64 1000] w (SharePost a b 1000 w) := by
  go_enter Try.func47, Try.ntmps47
  go_wp2
  go_quiet (fail)
  go_wp2
  go_loop [8, 9, 12] (fun q r k => ∃ q' r' k' : Int, q = .int .i64 q' ∧ r = .int .i64 r' ∧ k = .int .i64 k' ∧ shareInv a b 1000 q' r' k' ∧ 0 ≤ q' ∧ 0 ≤ r' ∧ r' < 1000 ∧ k' ≤ 62 ∧ -1 ≤ k' ) (fun _ _ k => (intOf k + 1).toNat)
  case atStart => exact ⟨0, 0, 62, rfl, rfl, rfl, share_start a b 1000 b0 b1 (by omega), by omega, by omega, by omega, by omega, by omega⟩
  case round =>
    obtain ⟨q, r, k, rfl, rfl, rfl, hi, q0, r0, r1, k0, k1⟩ := hrel
    by_cases hk : 0 ≤ k
    · by_cases hq : q ≤ 2100000000000000000
      · by_cases hb : b / 2 ^ k.toNat % 2 = 1
        · have hn := share_step1b a b q r k a0 hk hi hb
          have hb' : (bits BinOp.and IntKind.i64 (b / 2 ^ k.toNat) 1 == 1) = true := by rw [bit_and b _ b0 b1, hb]; rfl
          clear hb
          go_wp2
          go_round
          case rel => exact ⟨_, _, _, rfl, rfl, rfl, hn, hn.1, hn.2.1, hn.2.2.1, by omega, by omega⟩
          case measure => simp [intOf]; omega
        · have hb2 : b / 2 ^ k.toNat % 2 = 0 := by omega
          have hn := share_step0b a b q r k hk hi hb2
          have hb' : (bits BinOp.and IntKind.i64 (b / 2 ^ k.toNat) 1 == 1) = false := by rw [bit_and b _ b0 b1, hb2]; rfl
          clear hb hb2
          go_wp2
          go_round
          case rel => exact ⟨_, _, _, rfl, rfl, rfl, hn, hn.1, hn.2.1, hn.2.2.1, by omega, by omega⟩
          case measure => simp [intOf]; omega
      · have hbig := share_big a b 1000 q r k a0 b0 (by omega) hi
        go_wp2
        go_ret2
        exact ⟨below_drewN (Below.refl _ _) _, fun h => by omega, fun _ => ⟨0, rfl⟩⟩
    · obtain rfl : k = -1 := by omega
      have hend := share_end a b 1000 q r (by omega) hi
      have HE := Lib.hid hend; clear hend
      by_cases hq : q ≤ 2100000000000000000
      all_goals
        go_wp2
        go_ret2
        refine ⟨below_drewN (Below.refl _ _) _, fun h => ?_, fun h => ?_⟩
        · rw [HE.out] at h ⊢
          first | (exfalso; omega) | simp [hq]
        · rw [HE.out] at h
          first | (exfalso; omega) | exact ⟨q, by simp [hq]⟩

end Go.Proofs.Ytjdbnaedlljfhaa
