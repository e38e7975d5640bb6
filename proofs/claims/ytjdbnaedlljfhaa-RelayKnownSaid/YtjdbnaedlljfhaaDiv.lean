import Derived.Test.YtjdbnaedlljfhaaRows
import Derived.Test.YtjdbnaedlljfhaaMath
import Derived.WalkKit
import Derived.WalkSpells
import Derived.WalkLawsBesides
import Derived.Handy
import Derived.Deep.QuietTactic
import Derived.BigQuiet
namespace Go.Proofs.Ytjdbnaedlljfhaa
open Go.RowKit
set_option maxRecDepth 4000 in
set_option maxHeartbeats 400000 in
theorem lz_a (w : World) :
    Calls Try.prog 48 #[.int .u64 1000000] w fun e w' => e = .returned (.int .i64 44) ∧ w = w' := by
  go_enter Try.func48, Try.ntmps48
  go_wp2
  go_ret
  exact ⟨by kernel_rfl, rfl⟩
set_option maxRecDepth 4000 in
set_option maxHeartbeats 400000 in
theorem lz_b (w : World) :
    Calls Try.prog 48 #[.int .u64 1000] w fun e w' => e = .returned (.int .i64 54) ∧ w = w' := by
  go_enter Try.func48, Try.ntmps48
  go_wp2
  go_ret
  exact ⟨by kernel_rfl, rfl⟩



set_option maxRecDepth 100000 in
set_option maxHeartbeats 800000 in
theorem div_a (h l : Int) (h0 : 1 ≤ h) (h1 : h < 1000000) (l0 : 0 ≤ l) (l1 : l < 18446744073709551616) (w : World) :
    Calls Try.prog 46 #[.int .u64 h, .int .u64 l, .int .u64 1000000] w fun e w' => e = .returned (.tuple #[.int .u64 ((h * 18446744073709551616 + l) / 1000000), .int .u64 ((h * 18446744073709551616 + l) % 1000000)]) ∧ w = w' := by
  have hh : (h == 0) = false := by simp; omega
  have e1 : bits BinOp.and IntKind.u64 17592186044416000000 4294967295 = 0 := by decide +kernel
  obtain ⟨u, q, r, c, c1, c0, v, q2, r2, x, f1, f2, f3, f4, f5, f6, f7, f8, f9, f10, f11, f12, f13, f14, f15, f16, f17, f18, f19, f20, f21, f22, f23, f24, f25, f26, f27, f28⟩ := divFactsA h l (by omega) h1 l0 l1
  have F27 := Lib.hid f27; have F28 := Lib.hid f28; clear f27 f28
  clear l1
  go_enter Try.func46, Try.ntmps46
  go_wp2_with (go_at_call 48; refine (lz_a _).mono ?_; rintro e w' ⟨rfl, rfl⟩)
  refine wp_loop_once ?_
  go_wp2
  refine wp_loop_once ?_
  go_wp2
  go_ret2
  rw [← F27.out, ← F28.out]
  exact ⟨rfl, rfl⟩

set_option maxRecDepth 100000 in
set_option maxHeartbeats 800000 in
theorem div_b (h l : Int) (h0 : 1 ≤ h) (h1 : h < 1000) (l0 : 0 ≤ l) (l1 : l < 18446744073709551616) (w : World) :
    Calls Try.prog 46 #[.int .u64 h, .int .u64 l, .int .u64 1000] w fun e w' => e = .returned (.tuple #[.int .u64 ((h * 18446744073709551616 + l) / 1000), .int .u64 ((h * 18446744073709551616 + l) % 1000)]) ∧ w = w' := by
  have hh : (h == 0) = false := by simp; omega
  have e1 : bits BinOp.and IntKind.u64 18014398509481984000 4294967295 = 0 := by decide +kernel
  obtain ⟨u, q, r, c, c1, c0, v, q2, r2, x, f1, f2, f3, f4, f5, f6, f7, f8, f9, f10, f11, f12, f13, f14, f15, f16, f17, f18, f19, f20, f21, f22, f23, f24, f25, f26, f27, f28⟩ := divFactsB h l (by omega) h1 l0 l1
  have F27 := Lib.hid f27; have F28 := Lib.hid f28; clear f27 f28
  clear l1
  go_enter Try.func46, Try.ntmps46
  go_wp2_with (go_at_call 48; refine (lz_b _).mono ?_; rintro e w' ⟨rfl, rfl⟩)
  refine wp_loop_once ?_
  go_wp2
  refine wp_loop_once ?_
  go_wp2
  go_ret2
  rw [← F27.out, ← F28.out]
  exact ⟨rfl, rfl⟩

/-- The quotient at the divisor a million, the high word below it: whatever the high word. -/
theorem div_a0 (l : Int) (l0 : 0 ≤ l) (l1 : l < 18446744073709551616) (w : World) :
    Calls Try.prog 46 #[.int .u64 0, .int .u64 l, .int .u64 1000000] w fun e w' => e = .returned (.tuple #[.int .u64 (l / 1000000), .int .u64 (l % 1000000)]) ∧ ∃ n, w' = w.drewN n := by
  have f1 : IntKind.u64.wrap (l.tdiv 1000000) = l / 1000000 := by rw [Int.tdiv_eq_ediv_of_nonneg l0, IntKind.wrap_u64]; omega
  have f2 : l.tmod 1000000 = l % 1000000 := Int.tmod_eq_emod_of_nonneg l0
  clear l1
  go_enter Try.func46, Try.ntmps46
  go_wp2_with fail
  go_quiet (fail)
  go_wp2
  go_ret2
  exact ⟨rfl, _, rfl⟩

/-- The quotient at the divisor a million, the high word below it: whatever the high word. -/
theorem div_b0 (l : Int) (l0 : 0 ≤ l) (l1 : l < 18446744073709551616) (w : World) :
    Calls Try.prog 46 #[.int .u64 0, .int .u64 l, .int .u64 1000] w fun e w' => e = .returned (.tuple #[.int .u64 (l / 1000), .int .u64 (l % 1000)]) ∧ ∃ n, w' = w.drewN n := by
  have f1 : IntKind.u64.wrap (l.tdiv 1000) = l / 1000 := by rw [Int.tdiv_eq_ediv_of_nonneg l0, IntKind.wrap_u64]; omega
  have f2 : l.tmod 1000 = l % 1000 := Int.tmod_eq_emod_of_nonneg l0
  clear l1
  go_enter Try.func46, Try.ntmps46
  go_wp2_with fail
  go_quiet (fail)
  go_wp2
  go_ret2
  exact ⟨rfl, _, rfl⟩

end Go.Proofs.Ytjdbnaedlljfhaa
