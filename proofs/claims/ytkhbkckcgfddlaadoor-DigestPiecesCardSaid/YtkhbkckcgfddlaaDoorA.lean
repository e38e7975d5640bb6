/- The digest's rotations. -/
import Derived.Test.YtkhbkckcgfddlaaDoorChecked
import Derived.Test.YtkhbkckcgfddlaaDoorSha
import Derived.Lib.Hide
import Derived.WalkKit
import Derived.Deep.CutRange
import Derived.Deep.QuietTactic
import Derived.BigQuiet
namespace Go.Proofs.YtkhbkckcgfddlaaDoor
open Go.RowKit
attribute [local go_sem] run_xor run_and run_or run_add run_not
theorem rot_7 (x : W32) (w : World) : Calls Tryd.prog 22 #[U x, .int .i64 (-7)] w fun e w' => e = .returned (U (rotr x 7)) ∧ w' = w := by
  have h1 : bits .and .u64 (IntKind.u64.wrap (-7)) 31 = 25 := by kernel_rfl
  have h2 : ∀ W : World, (binOp .shl 34 (U x) (.int .u64 25)).run Tryd.prog W = .ok (U (x <<< 25)) W := fun W => run_shl Tryd.prog 34 x .u64 25 (by decide) W
  have h3 : ∀ W : World, (binOp .shr 34 (U x) (.int .u64 7)).run Tryd.prog W = .ok (U (x >>> 7)) W := fun W => run_shr Tryd.prog 34 x .u64 7 (by decide) W
  go_enter Tryd.func22, Tryd.ntmps22
  go_wp2
  go_ret
  exact ⟨by rw [BitVec.or_comm]; rfl, rfl⟩
theorem rot_18 (x : W32) (w : World) : Calls Tryd.prog 22 #[U x, .int .i64 (-18)] w fun e w' => e = .returned (U (rotr x 18)) ∧ w' = w := by
  have h1 : bits .and .u64 (IntKind.u64.wrap (-18)) 31 = 14 := by kernel_rfl
  have h2 : ∀ W : World, (binOp .shl 34 (U x) (.int .u64 14)).run Tryd.prog W = .ok (U (x <<< 14)) W := fun W => run_shl Tryd.prog 34 x .u64 14 (by decide) W
  have h3 : ∀ W : World, (binOp .shr 34 (U x) (.int .u64 18)).run Tryd.prog W = .ok (U (x >>> 18)) W := fun W => run_shr Tryd.prog 34 x .u64 18 (by decide) W
  go_enter Tryd.func22, Tryd.ntmps22
  go_wp2
  go_ret
  exact ⟨by rw [BitVec.or_comm]; rfl, rfl⟩
theorem rot_17 (x : W32) (w : World) : Calls Tryd.prog 22 #[U x, .int .i64 (-17)] w fun e w' => e = .returned (U (rotr x 17)) ∧ w' = w := by
  have h1 : bits .and .u64 (IntKind.u64.wrap (-17)) 31 = 15 := by kernel_rfl
  have h2 : ∀ W : World, (binOp .shl 34 (U x) (.int .u64 15)).run Tryd.prog W = .ok (U (x <<< 15)) W := fun W => run_shl Tryd.prog 34 x .u64 15 (by decide) W
  have h3 : ∀ W : World, (binOp .shr 34 (U x) (.int .u64 17)).run Tryd.prog W = .ok (U (x >>> 17)) W := fun W => run_shr Tryd.prog 34 x .u64 17 (by decide) W
  go_enter Tryd.func22, Tryd.ntmps22
  go_wp2
  go_ret
  exact ⟨by rw [BitVec.or_comm]; rfl, rfl⟩
theorem rot_19 (x : W32) (w : World) : Calls Tryd.prog 22 #[U x, .int .i64 (-19)] w fun e w' => e = .returned (U (rotr x 19)) ∧ w' = w := by
  have h1 : bits .and .u64 (IntKind.u64.wrap (-19)) 31 = 13 := by kernel_rfl
  have h2 : ∀ W : World, (binOp .shl 34 (U x) (.int .u64 13)).run Tryd.prog W = .ok (U (x <<< 13)) W := fun W => run_shl Tryd.prog 34 x .u64 13 (by decide) W
  have h3 : ∀ W : World, (binOp .shr 34 (U x) (.int .u64 19)).run Tryd.prog W = .ok (U (x >>> 19)) W := fun W => run_shr Tryd.prog 34 x .u64 19 (by decide) W
  go_enter Tryd.func22, Tryd.ntmps22
  go_wp2
  go_ret
  exact ⟨by rw [BitVec.or_comm]; rfl, rfl⟩
theorem rot_6 (x : W32) (w : World) : Calls Tryd.prog 22 #[U x, .int .i64 (-6)] w fun e w' => e = .returned (U (rotr x 6)) ∧ w' = w := by
  have h1 : bits .and .u64 (IntKind.u64.wrap (-6)) 31 = 26 := by kernel_rfl
  have h2 : ∀ W : World, (binOp .shl 34 (U x) (.int .u64 26)).run Tryd.prog W = .ok (U (x <<< 26)) W := fun W => run_shl Tryd.prog 34 x .u64 26 (by decide) W
  have h3 : ∀ W : World, (binOp .shr 34 (U x) (.int .u64 6)).run Tryd.prog W = .ok (U (x >>> 6)) W := fun W => run_shr Tryd.prog 34 x .u64 6 (by decide) W
  go_enter Tryd.func22, Tryd.ntmps22
  go_wp2
  go_ret
  exact ⟨by rw [BitVec.or_comm]; rfl, rfl⟩
theorem rot_11 (x : W32) (w : World) : Calls Tryd.prog 22 #[U x, .int .i64 (-11)] w fun e w' => e = .returned (U (rotr x 11)) ∧ w' = w := by
  have h1 : bits .and .u64 (IntKind.u64.wrap (-11)) 31 = 21 := by kernel_rfl
  have h2 : ∀ W : World, (binOp .shl 34 (U x) (.int .u64 21)).run Tryd.prog W = .ok (U (x <<< 21)) W := fun W => run_shl Tryd.prog 34 x .u64 21 (by decide) W
  have h3 : ∀ W : World, (binOp .shr 34 (U x) (.int .u64 11)).run Tryd.prog W = .ok (U (x >>> 11)) W := fun W => run_shr Tryd.prog 34 x .u64 11 (by decide) W
  go_enter Tryd.func22, Tryd.ntmps22
  go_wp2
  go_ret
  exact ⟨by rw [BitVec.or_comm]; rfl, rfl⟩
theorem rot_25 (x : W32) (w : World) : Calls Tryd.prog 22 #[U x, .int .i64 (-25)] w fun e w' => e = .returned (U (rotr x 25)) ∧ w' = w := by
  have h1 : bits .and .u64 (IntKind.u64.wrap (-25)) 31 = 7 := by kernel_rfl
  have h2 : ∀ W : World, (binOp .shl 34 (U x) (.int .u64 7)).run Tryd.prog W = .ok (U (x <<< 7)) W := fun W => run_shl Tryd.prog 34 x .u64 7 (by decide) W
  have h3 : ∀ W : World, (binOp .shr 34 (U x) (.int .u64 25)).run Tryd.prog W = .ok (U (x >>> 25)) W := fun W => run_shr Tryd.prog 34 x .u64 25 (by decide) W
  go_enter Tryd.func22, Tryd.ntmps22
  go_wp2
  go_ret
  exact ⟨by rw [BitVec.or_comm]; rfl, rfl⟩
theorem rot_2 (x : W32) (w : World) : Calls Tryd.prog 22 #[U x, .int .i64 (-2)] w fun e w' => e = .returned (U (rotr x 2)) ∧ w' = w := by
  have h1 : bits .and .u64 (IntKind.u64.wrap (-2)) 31 = 30 := by kernel_rfl
  have h2 : ∀ W : World, (binOp .shl 34 (U x) (.int .u64 30)).run Tryd.prog W = .ok (U (x <<< 30)) W := fun W => run_shl Tryd.prog 34 x .u64 30 (by decide) W
  have h3 : ∀ W : World, (binOp .shr 34 (U x) (.int .u64 2)).run Tryd.prog W = .ok (U (x >>> 2)) W := fun W => run_shr Tryd.prog 34 x .u64 2 (by decide) W
  go_enter Tryd.func22, Tryd.ntmps22
  go_wp2
  go_ret
  exact ⟨by rw [BitVec.or_comm]; rfl, rfl⟩
theorem rot_13 (x : W32) (w : World) : Calls Tryd.prog 22 #[U x, .int .i64 (-13)] w fun e w' => e = .returned (U (rotr x 13)) ∧ w' = w := by
  have h1 : bits .and .u64 (IntKind.u64.wrap (-13)) 31 = 19 := by kernel_rfl
  have h2 : ∀ W : World, (binOp .shl 34 (U x) (.int .u64 19)).run Tryd.prog W = .ok (U (x <<< 19)) W := fun W => run_shl Tryd.prog 34 x .u64 19 (by decide) W
  have h3 : ∀ W : World, (binOp .shr 34 (U x) (.int .u64 13)).run Tryd.prog W = .ok (U (x >>> 13)) W := fun W => run_shr Tryd.prog 34 x .u64 13 (by decide) W
  go_enter Tryd.func22, Tryd.ntmps22
  go_wp2
  go_ret
  exact ⟨by rw [BitVec.or_comm]; rfl, rfl⟩
theorem rot_22 (x : W32) (w : World) : Calls Tryd.prog 22 #[U x, .int .i64 (-22)] w fun e w' => e = .returned (U (rotr x 22)) ∧ w' = w := by
  have h1 : bits .and .u64 (IntKind.u64.wrap (-22)) 31 = 10 := by kernel_rfl
  have h2 : ∀ W : World, (binOp .shl 34 (U x) (.int .u64 10)).run Tryd.prog W = .ok (U (x <<< 10)) W := fun W => run_shl Tryd.prog 34 x .u64 10 (by decide) W
  have h3 : ∀ W : World, (binOp .shr 34 (U x) (.int .u64 22)).run Tryd.prog W = .ok (U (x >>> 22)) W := fun W => run_shr Tryd.prog 34 x .u64 22 (by decide) W
  go_enter Tryd.func22, Tryd.ntmps22
  go_wp2
  go_ret
  exact ⟨by rw [BitVec.or_comm]; rfl, rfl⟩
end Go.Proofs.YtkhbkckcgfddlaaDoor
