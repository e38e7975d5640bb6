/- seed: trailing zeros; low, both. -/
import Derived.Test.YtnaodgljdbkmnaaDoorSeedA
import Derived.Lib.TrailingZeros
import Derived.Laws.Bits64b
import Derived.Lib.LaidTab
namespace Go.Proofs.YtnaodgljdbkmnaaDoor
set_option linter.unusedVariables false
open Go.RowKit
/-- the table of math/bits -/
def tz64 : List Int := [0, 1, 56, 2, 57, 49, 28, 3, 61, 58, 42, 50, 38, 29, 17, 4, 62, 47, 59, 36, 45, 43, 51, 22, 53, 39, 33, 30, 24, 18, 12, 5, 63, 55, 48, 27, 60, 41, 37, 16, 46, 35, 44, 21, 52, 32, 23, 11, 54, 26, 40, 15, 34, 20, 31, 10, 25, 14, 19, 9, 13, 8, 7, 6]
def Bru (w : World) : Prop := Lib.TabIs Tryd.prog w "math/bits.deBruijn64tab" .u8 tz64
theorem Bru.below {w w' : World} (h : Bru w) (hb : Below w.heap.size w w') : Bru w' := Lib.tabBelow_of_tabIs h w' hb
theorem gBru : Tryd.prog.globalNamed "math/bits.deBruijn64tab" = some 0 := by kernel_rfl
theorem tz64_same : tz64 = Lib.deBruijn64tab.map Int.ofNat := by decide +kernel
theorem Bru.cell {w : World} (h : Bru w) {j : Nat} (hj : j < 64) : w.cell? ⟨0, j, none⟩ = some (.int .u8 (Lib.deBruijn64tab.getD j 0 : Nat)) := by
  have := Lib.TabIs.cell h gBru j (by show j < tz64.length; exact hj)
  rw [this, tz64_same, List.getD_eq_getElem?_getD, List.getD_eq_getElem?_getD, List.getElem?_map]
  cases hx : Lib.deBruijn64tab[j]? with
  | none => rfl
  | some n => rfl
theorem tz_key (x a : Nat) (hx : x < 18446744073709551616) (hx0 : x ≠ 0) (hlow : x &&& (18446744073709551616 - x) = a) :
    IntKind.u64.wrap (bits BinOp.and IntKind.u64 (x : Int) (IntKind.u64.wrap (-(x : Int))) * 285870213051353865) / 288230376151711744 = ((a * 285870213051353865 % 18446744073709551616 / 288230376151711744 : Nat) : Int) := by
  have e1 : IntKind.u64.wrap (-(x : Int)) = ((18446744073709551616 - x : Nat) : Int) := by rw [IntKind.wrap_u64]; omega
  rw [e1, bits_and_u64_nat x _ hx (by omega), hlow, IntKind.wrap_u64]
  omega
set_option maxRecDepth 100000 in
set_option maxHeartbeats 4000000 in
theorem tz64_zero (w : World) : Calls Tryd.prog 68 #[.int .u64 0] w fun e w' => e = .returned (.int .i64 64) ∧ w' = w := by
  go_enter Tryd.func68, Tryd.ntmps68
  go_wp2
  go_ret
  exact ⟨rfl, rfl⟩
set_option maxRecDepth 100000 in
set_option maxHeartbeats 4000000 in
theorem tz64_core (x k idx : Nat) (w : World) (hx0 : ((x : Int) == 0) = false)
    (key : IntKind.u64.wrap (bits BinOp.and IntKind.u64 (x : Int) (IntKind.u64.wrap (-(x : Int))) * 285870213051353865) / 288230376151711744 = (idx : Int))
    (hi : idx < 64) (hk : k < 64) (hcell : w.cell? ⟨0, idx, none⟩ = some (.int .u8 k)) :
    Calls Tryd.prog 68 #[.int .u64 x] w fun e w' => e = .returned (.int .i64 k) ∧ w' = w := by
  go_enter Tryd.func68, Tryd.ntmps68
  go_wp2_with (simp only [key])
  go_ret
  exact ⟨rfl, rfl⟩
theorem tz64_any (x : Nat) (hx : x < 18446744073709551616) (w : World) (hT : Bru w) :
    Calls Tryd.prog 68 #[.int .u64 x] w fun e w' => e = .returned (.int .i64 (Lib.ctz 64 x)) ∧ w' = w := by
  by_cases hx0 : x = 0
  · subst hx0
    exact tz64_zero w
  · obtain ⟨hlow, hk⟩ := Lib.lowest_bit 64 x hx0 hx
    obtain ⟨hi, htab⟩ := Lib.deBruijn64_at _ hk
    have hcell := hT.cell hi
    rw [htab] at hcell
    exact tz64_core x _ _ w (by simp; omega) (tz_key x _ hx hx0 hlow) hi hk hcell
theorem ctz_low : ∀ (f g x : Nat), f ≤ g → 0 < x → min f (Lib.ctzFrom g x) = lowF f x
  | 0, g, x, _, _ => by simp [lowF]
  | f + 1, 0, x, h, _ => by omega
  | f + 1, g + 1, x, h, h0 => by
    unfold lowF Lib.ctzFrom
    by_cases hx : x % 2 = 1
    · rw [if_pos hx, if_pos hx]; exact Nat.min_eq_right (Nat.zero_le _)
    · rw [if_neg hx, if_neg hx, ← ctz_low f g (x / 2) (by omega) (by omega)]
      omega
theorem lowF_zero : ∀ f, lowF f 0 = f
  | 0 => rfl
  | f + 1 => by unfold lowF; rw [if_neg (by decide), show 0 / 2 = 0 from rfl, lowF_zero f]
theorem ctz_min (x : Nat) : min 20 (Lib.ctz 64 x) = lowP x := by
  unfold Lib.ctz lowP
  by_cases h : x = 0
  · rw [if_pos h, h, lowF_zero]; rfl
  · rw [if_neg h]; exact ctz_low 20 64 x (by omega) (by omega)
theorem ctz_le (x : Nat) (hx : x < 18446744073709551616) : Lib.ctz 64 x ≤ 64 := by
  by_cases h : x = 0
  · unfold Lib.ctz; rw [if_pos h]; exact Nat.le_refl _
  · have := (Lib.lowest_bit 64 x h hx).2; omega
set_option maxRecDepth 100000 in
set_option maxHeartbeats 4000000 in
theorem low_any (i : Nat) (w : World) (hi : i < 9223372036854775808) (hT : Bru w) : Calls Tryd.prog 46 #[.int .i64 i] w fun e w' => e = .returned (.int .i64 (lowP i)) ∧ w' = w := by
  have HZ := Lib.hid (tz64_any i (by omega) w hT)
  have hm := ctz_min i
  have hc := ctz_le i (by omega)
  generalize Lib.ctz 64 i = z at HZ hm hc
  have hl := low_le i
  generalize lowP i = k at hm hl ⊢
  clear hT
  go_enter Tryd.func46, Tryd.ntmps46
  go_wp2_with (go_at_call 68; (with_reducible refine Calls.mono HZ.out ?_); rintro e w1 ⟨rfl, rfl⟩)
  go_ret
  have e : min 20 (z : Int) = (k : Int) := by omega
  exact ⟨by show Ending.returned (.int .i64 (min 20 (z : Int))) = _; rw [e], rfl⟩
set_option maxRecDepth 100000 in
set_option maxHeartbeats 4000000 in
theorem rlow_any (i : Nat) (w : World) (hi : i < 9223372036854775808) : Calls Tryd.prog 47 #[.int .i64 i] w fun e w' => e = .returned (.int .i64 (lowP i)) ∧ Below w.heap.size w w' := by
  go_enter Tryd.func47, Tryd.ntmps47
  go_wp2
  go_loopw [3] (fun bv wr => ∃ b : Nat, b ≤ 20 ∧ bv = .int .i64 b ∧ i % 2 ^ b = 0 ∧ Hid (Below w.heap.size w wr)) (fun bv _ => 20 - (intOf bv).toNat)
  case atStart => exact ⟨0, by omega, rfl, by simp [Nat.mod_one], Below.refl _ _⟩
  case round =>
    obtain ⟨b, hb, rfl, hm, hB⟩ := hrel
    have hbz := bit_z i b hi
    by_cases hlt : b < 20
    · have hbi : (b : Int) < 20 := by omega
      cases hbit : bitP i b with
      | true =>
        rw [hbit] at hbz
        simp only [if_true] at hbz
        have hl := low_eq hb hm (fun _ => hbit)
        have HLO := Lib.hid hl
        clear hl hm
        go_wp2_with fail
        go_ret
        exact ⟨by rw [HLO.out]; rfl, hB.out⟩
      | false =>
        rw [hbit] at hbz
        simp only [Bool.false_eq_true, if_false] at hbz
        have hm2 : i % 2 ^ (b + 1) = 0 := by
          unfold bitP at hbit
          have h2 : (i / 2 ^ b) % 2 = 0 := by
            rcases Nat.mod_two_eq_zero_or_one (i / 2 ^ b) with h | h
            · exact h
            · rw [h] at hbit; cases hbit
          rw [Nat.pow_succ, Nat.mod_mul, hm, h2]; simp
        clear hm
        go_wp2_with fail
        go_roundw
        case rel => exact ⟨b + 1, by omega, by go_num, hm2, hB.out⟩
        case measure => (simp [intOf] <;> omega)
    · obtain rfl : b = 20 := by omega
      have HLO := Lib.hid (low_eq (Nat.le_refl 20) hm (fun h => by omega))
      try rw [show ((20 : Nat) : Int) = 20 from rfl]
      clear hm hbz
      go_wp2_with fail
      go_ret
      exact ⟨by rw [HLO.out]; rfl, hB.out⟩
end Go.Proofs.YtnaodgljdbkmnaaDoor
