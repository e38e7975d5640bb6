/- The walks of the money functions: what each computes. -/
import Derived.Test.YtjdbnaedlljfhaaRows
import Derived.Test.YtjdbnaedlljfhaaMath
import Derived.Test.YtjdbnaedlljfhaaDiv
import Derived.Test.YtjdbnaedlljfhaaShare
import Derived.Test.YtjdbnaedlljfhaaShelf
import Derived.Test.YtjdbnaedlljfhaaWalk1
import Derived.WalkKit
import Derived.WalkSpells
import Derived.WalkLawsBesides
import Derived.Handy
import Derived.Deep.QuietTactic
import Derived.BigQuiet
namespace Go.Proofs.Ytjdbnaedlljfhaa
open Go.RowKit

/-- the 128 bits of a product -/
theorem mul_any (x y hi lo : Int) (x0 : 0 ≤ x) (x1 : x ≤ 2100000000000000000) (y0 : 0 ≤ y) (y1 : y ≤ 2100000000000000000) (l0 : 0 ≤ lo) (l1 : lo < 18446744073709551616) (h : x * y = hi * 18446744073709551616 + lo) (w : World) :
    Calls Try.prog 45 #[.int .u64 x, .int .u64 y] w fun e w' => e = .returned (.tuple #[.int .u64 hi, .int .u64 lo]) ∧ w = w' := by
  obtain ⟨x, rfl⟩ := Int.eq_ofNat_of_zero_le x0
  obtain ⟨y, rfl⟩ := Int.eq_ofNat_of_zero_le y0
  refine (Try.bits_Mul64 x y (by omega) (by omega) w).mono ?_
  rintro e w' ⟨rfl, rfl⟩
  have e1 : ((x * y / 18446744073709551616 : Nat) : Int) = hi := by rw [Int.natCast_ediv, Int.natCast_mul, h]; omega
  have e2 : ((x * y % 18446744073709551616 : Nat) : Int) = lo := by rw [Int.natCast_emod, Int.natCast_mul, h]; omega
  rw [e1, e2]
  exact ⟨rfl, rfl⟩

def DivPost (q r : Int) (w : World) (e : Ending) (w' : World) : Prop := e = .returned (.tuple #[.int .u64 q, .int .u64 r]) ∧ Below w.heap.size w w'
theorem divA (h l q r : Int) (h0 : 0 ≤ h) (h1 : h < 1000000) (l0 : 0 ≤ l) (l1 : l < 18446744073709551616) (r0 : 0 ≤ r) (r1 : r < 1000000) (e : h * 18446744073709551616 + l = q * 1000000 + r) (w : World) :
    Calls Try.prog 46 #[.int .u64 h, .int .u64 l, .int .u64 1000000] w (DivPost q r w) := by
  have e1 : (h * 18446744073709551616 + l) / 1000000 = q := by omega
  have e2 : (h * 18446744073709551616 + l) % 1000000 = r := by omega
  by_cases hh : h = 0
  · subst hh
    refine (div_a0 l l0 l1 w).mono ?_
    rintro e w' ⟨rfl, n, rfl⟩
    rw [show l / 1000000 = q by omega, show l % 1000000 = r by omega]
    exact ⟨rfl, below_drewN (Below.refl _ _) _⟩
  · refine (div_a h l (by omega) h1 l0 l1 w).mono ?_
    rintro e w' ⟨rfl, rfl⟩
    rw [e1, e2]
    exact ⟨rfl, Below.refl _ _⟩
theorem divB (h l q r : Int) (h0 : 0 ≤ h) (h1 : h < 1000) (l0 : 0 ≤ l) (l1 : l < 18446744073709551616) (r0 : 0 ≤ r) (r1 : r < 1000) (e : h * 18446744073709551616 + l = q * 1000 + r) (w : World) :
    Calls Try.prog 46 #[.int .u64 h, .int .u64 l, .int .u64 1000] w (DivPost q r w) := by
  have e1 : (h * 18446744073709551616 + l) / 1000 = q := by omega
  have e2 : (h * 18446744073709551616 + l) % 1000 = r := by omega
  by_cases hh : h = 0
  · subst hh
    refine (div_b0 l l0 l1 w).mono ?_
    rintro e w' ⟨rfl, n, rfl⟩
    rw [show l / 1000 = q by omega, show l % 1000 = r by omega]
    exact ⟨rfl, below_drewN (Below.refl _ _) _⟩
  · refine (div_b h l (by omega) h1 l0 l1 w).mono ?_
    rintro e w' ⟨rfl, rfl⟩
    rw [e1, e2]
    exact ⟨rfl, Below.refl _ _⟩

/-- a product's parts -/
theorem parts (p y : Int) (p0 : 0 ≤ p) (hy : 0 < y) : ∃ hi lo q r : Int, p = hi * 18446744073709551616 + lo ∧ 0 ≤ hi ∧ 0 ≤ lo ∧ lo < 18446744073709551616 ∧ hi * 18446744073709551616 + lo = q * y + r ∧ 0 ≤ r ∧ r < y ∧ p / y = q ∧ 0 ≤ q := by
  refine ⟨p / 18446744073709551616, p % 18446744073709551616, p / y, p % y, by omega, by omega, by omega, by omega, ?_, Int.emod_nonneg _ (by omega), Int.emod_lt_of_pos _ hy, rfl, Int.ediv_nonneg p0 (by omega)⟩
  have := Int.ediv_mul_add_emod p y
  omega

theorem field44 (w : World) (x y : Int) : (Instr.field 75 (.agg #[.int .u64 x, .int .u64 y]) 0).run Try.prog w = .ok (.agg #[.int .u64 x, .int .u64 y]) w := by kernel_rfl
attribute [local go_sem] field44

set_option maxHeartbeats 1000000 in
theorem fee_q (a b r : Int) (a0 : 0 ≤ a) (a1 : a ≤ 2100000000000000000) (b0 : 0 ≤ b) (b1 : b ≤ 2100000000000000000) (r0 : 0 ≤ r) (r1 : r ≤ 2100000000000000000) (w : World) :
    Calls Try.prog 12 #[.int .i64 a, .int .i64 b, .int .i64 r] w (OptPost (feeO a b r) w) := by
  obtain ⟨hi, lo, q, rr, hp, hi0, lo0, lo1, hq, rr0, rr1, hqq, q0⟩ := parts (a * r) 1000000 (Int.mul_nonneg a0 r0) (by omega)
  have HM := fun w => mul_any a r hi lo a0 a1 r0 r1 lo0 lo1 hp w
  have HD := fun h1 w => divA hi lo q rr hi0 h1 lo0 lo1 rr0 rr1 hq w
  have ho : feeO a b r = if b + q ≤ 2100000000000000000 then some (b + q) else none := by
    simp only [feeO, hqq, a0, a1, b0, b1, r0, r1, true_and]
  replace HM := Lib.hid HM; replace HD := Lib.hid HD; have HO := Lib.hid ho; have HQ := Lib.hid hq; clear hp lo1 hq hqq ho
  by_cases h1 : hi < 1000000
  · replace HD := Lib.hid (HD.out h1)
    by_cases q1 : q ≤ 2100000000000000000
    · have HS : Hid (∀ (w : World) (bb : Nat), w.cell? ⟨bb, 0, none⟩ = some (.int .i64 b) → w.cell? ⟨bb, 1, none⟩ = some (.int .i64 q) → Calls Try.prog 36 #[.slice (some ⟨bb, 0, none⟩) 2 2] w (OptPost (feeO a b r) w)) := by
        intro w bb c0 c1
        refine sum_any bb 0 2 [b, q] (feeO a b r) w (by simp) ?_ ?_
        · rw [HO.out]
          simp only [sumGo]
          split
          · rename_i h; split
            · rename_i h2; rw [if_pos (by omega)]; simp
            · rename_i h2; rw [if_neg (by omega)]
          · rename_i h; exfalso; omega
        · intro j hj
          match j, hj with
          | 0, _ => simpa using c0
          | 1, _ => simpa using c1
      by_cases q2 : b + q ≤ 2100000000000000000
      · have HF : Hid (feeO a b r = some (b + q)) := by show _ = _; rw [HO.out, if_pos q2]
        go_enter Try.func12, Try.ntmps12
        go_wp2_with (first | (go_at_call 45; refine (HM.out _).mono ?_; rintro e w' ⟨rfl, rfl⟩) | (go_at_call 46; refine (HD.out _).mono ?_; rintro e w1 ⟨rfl, hb⟩; have z1 := hb.size; simp only [World.size_alloc] at z1) | (go_at_call 36; refine Calls.mono (HS.out _ _ (by go_cell) (by go_cell)) ?_; rintro e w2 ⟨hb2, hy, hn⟩; obtain rfl := hy _ HF.out; clear hy hn; have z2 := hb2.size; simp only [World.size_alloc] at z2) | go_in)
        go_ret2
        exact OptPost.yes (by (repeat' (first | (with_reducible exact Below.refl _ _) | (with_reducible refine Below.alloc ?_ ?_ _) | (with_reducible refine Below.drew ?_) | (with_reducible refine Below.setCell ?_ ?_ _) | (with_reducible refine below_drewN ?_ _) | (refine Below.trans ?_ (Below.mono (by assumption) ?_)) | go_size))) HF.out
      · have HF : Hid (feeO a b r = none) := by show _ = _; rw [HO.out, if_neg q2]
        go_enter Try.func12, Try.ntmps12
        go_wp2_with (first | (go_at_call 45; refine (HM.out _).mono ?_; rintro e w' ⟨rfl, rfl⟩) | (go_at_call 46; refine (HD.out _).mono ?_; rintro e w1 ⟨rfl, hb⟩; have z1 := hb.size; simp only [World.size_alloc] at z1) | (go_at_call 36; refine Calls.mono (HS.out _ _ (by go_cell) (by go_cell)) ?_; rintro e w2 ⟨hb2, hy, hn⟩; obtain rfl := hn HF.out; clear hy hn; have z2 := hb2.size; simp only [World.size_alloc] at z2) | go_in)
        go_ret2
        exact OptPost.no (by (repeat' (first | (with_reducible exact Below.refl _ _) | (with_reducible refine Below.alloc ?_ ?_ _) | (with_reducible refine Below.drew ?_) | (with_reducible refine Below.setCell ?_ ?_ _) | (with_reducible refine below_drewN ?_ _) | (refine Below.trans ?_ (Below.mono (by assumption) ?_)) | go_size))) HF.out
    · have qb : decide (q ≤ 2100000000000000000) = false := by simp; omega
      by_cases q3 : q ≤ 9223372036854775807
      · go_enter Try.func12, Try.ntmps12
        go_wp2_with (first | (go_at_call 45; refine (HM.out _).mono ?_; rintro e w' ⟨rfl, rfl⟩) | (go_at_call 46; refine (HD.out _).mono ?_; rintro e w1 ⟨rfl, hb⟩; have z1 := hb.size; simp only [World.size_alloc] at z1) | go_in)
        go_ret2
        exact OptPost.no (by (repeat' (first | (with_reducible exact Below.refl _ _) | (with_reducible refine Below.alloc ?_ ?_ _) | (with_reducible refine Below.drew ?_) | (with_reducible refine Below.setCell ?_ ?_ _) | (with_reducible refine below_drewN ?_ _) | (refine Below.trans ?_ (Below.mono (by assumption) ?_)) | go_size))) (by rw [HO.out, if_neg (by omega)])
      · go_enter Try.func12, Try.ntmps12
        go_wp2_with (first | (go_at_call 45; refine (HM.out _).mono ?_; rintro e w' ⟨rfl, rfl⟩) | (go_at_call 46; refine (HD.out _).mono ?_; rintro e w1 ⟨rfl, hb⟩; have z1 := hb.size; simp only [World.size_alloc] at z1) | go_in)

        go_ret2
        exact OptPost.no (by (repeat' (first | (with_reducible exact Below.refl _ _) | (with_reducible refine Below.alloc ?_ ?_ _) | (with_reducible refine Below.drew ?_) | (with_reducible refine Below.setCell ?_ ?_ _) | (with_reducible refine below_drewN ?_ _) | (refine Below.trans ?_ (Below.mono (by assumption) ?_)) | go_size))) (by rw [HO.out, if_neg (by omega)])
  · have : ¬ (b + q ≤ 2100000000000000000) := by have := HQ.out; omega
    have ho := HO.out; rw [if_neg this] at ho; clear this
    have HN := Lib.hid ho; clear ho
    go_enter Try.func12, Try.ntmps12
    go_wp2_with (first | (go_at_call 45; refine (HM.out _).mono ?_; rintro e w' ⟨rfl, rfl⟩) | go_in)
    go_ret2
    exact OptPost.no (by go_grown) HN.out

end Go.Proofs.Ytjdbnaedlljfhaa
