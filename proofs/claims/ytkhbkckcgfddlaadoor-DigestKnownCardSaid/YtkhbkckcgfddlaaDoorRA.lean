/- The document's digest: turn, constants, words. -/
import Derived.Test.YtkhbkckcgfddlaaDoorT
import Derived.Deep.RegionHeldLaw
import Derived.Deep.AppendLies
namespace Go.Proofs.YtkhbkckcgfddlaaDoor
open Go.RowKit
attribute [local go_sem] run_xor run_and run_or run_add run_not
attribute [local go_sem] match_U match_B run_store_U run_store_B conv_b shl_24 shl_16 shl_8 shr_3 shr_10
theorem turn_7 (x : W32) (w : World) : Calls Tryd.prog 21 #[U x, .int .i64 7] w fun e w' => e = .returned (U (rotr x 7)) ∧ ∃ m, w' = w.drewN m := by
  have h2 : ∀ W : World, (binOp .shl 34 (U x) (.int .i64 25)).run Tryd.prog W = .ok (U (x <<< 25)) W := fun W => run_shl Tryd.prog 34 x .i64 25 (by decide) W
  have h3 : ∀ W : World, (binOp .shr 34 (U x) (.int .i64 7)).run Tryd.prog W = .ok (U (x >>> 7)) W := fun W => run_shr Tryd.prog 34 x .i64 7 (by decide) W
  go_enter Tryd.func21, Tryd.ntmps21
  go_upto_region 1 with fail
  go_quiet (fail)
  go_wp2
  go_ret
  exact ⟨rfl, _, rfl⟩
theorem turn_18 (x : W32) (w : World) : Calls Tryd.prog 21 #[U x, .int .i64 18] w fun e w' => e = .returned (U (rotr x 18)) ∧ ∃ m, w' = w.drewN m := by
  have h2 : ∀ W : World, (binOp .shl 34 (U x) (.int .i64 14)).run Tryd.prog W = .ok (U (x <<< 14)) W := fun W => run_shl Tryd.prog 34 x .i64 14 (by decide) W
  have h3 : ∀ W : World, (binOp .shr 34 (U x) (.int .i64 18)).run Tryd.prog W = .ok (U (x >>> 18)) W := fun W => run_shr Tryd.prog 34 x .i64 18 (by decide) W
  go_enter Tryd.func21, Tryd.ntmps21
  go_upto_region 1 with fail
  go_quiet (fail)
  go_wp2
  go_ret
  exact ⟨rfl, _, rfl⟩
theorem turn_17 (x : W32) (w : World) : Calls Tryd.prog 21 #[U x, .int .i64 17] w fun e w' => e = .returned (U (rotr x 17)) ∧ ∃ m, w' = w.drewN m := by
  have h2 : ∀ W : World, (binOp .shl 34 (U x) (.int .i64 15)).run Tryd.prog W = .ok (U (x <<< 15)) W := fun W => run_shl Tryd.prog 34 x .i64 15 (by decide) W
  have h3 : ∀ W : World, (binOp .shr 34 (U x) (.int .i64 17)).run Tryd.prog W = .ok (U (x >>> 17)) W := fun W => run_shr Tryd.prog 34 x .i64 17 (by decide) W
  go_enter Tryd.func21, Tryd.ntmps21
  go_upto_region 1 with fail
  go_quiet (fail)
  go_wp2
  go_ret
  exact ⟨rfl, _, rfl⟩
theorem turn_19 (x : W32) (w : World) : Calls Tryd.prog 21 #[U x, .int .i64 19] w fun e w' => e = .returned (U (rotr x 19)) ∧ ∃ m, w' = w.drewN m := by
  have h2 : ∀ W : World, (binOp .shl 34 (U x) (.int .i64 13)).run Tryd.prog W = .ok (U (x <<< 13)) W := fun W => run_shl Tryd.prog 34 x .i64 13 (by decide) W
  have h3 : ∀ W : World, (binOp .shr 34 (U x) (.int .i64 19)).run Tryd.prog W = .ok (U (x >>> 19)) W := fun W => run_shr Tryd.prog 34 x .i64 19 (by decide) W
  go_enter Tryd.func21, Tryd.ntmps21
  go_upto_region 1 with fail
  go_quiet (fail)
  go_wp2
  go_ret
  exact ⟨rfl, _, rfl⟩
theorem turn_6 (x : W32) (w : World) : Calls Tryd.prog 21 #[U x, .int .i64 6] w fun e w' => e = .returned (U (rotr x 6)) ∧ ∃ m, w' = w.drewN m := by
  have h2 : ∀ W : World, (binOp .shl 34 (U x) (.int .i64 26)).run Tryd.prog W = .ok (U (x <<< 26)) W := fun W => run_shl Tryd.prog 34 x .i64 26 (by decide) W
  have h3 : ∀ W : World, (binOp .shr 34 (U x) (.int .i64 6)).run Tryd.prog W = .ok (U (x >>> 6)) W := fun W => run_shr Tryd.prog 34 x .i64 6 (by decide) W
  go_enter Tryd.func21, Tryd.ntmps21
  go_upto_region 1 with fail
  go_quiet (fail)
  go_wp2
  go_ret
  exact ⟨rfl, _, rfl⟩
theorem turn_11 (x : W32) (w : World) : Calls Tryd.prog 21 #[U x, .int .i64 11] w fun e w' => e = .returned (U (rotr x 11)) ∧ ∃ m, w' = w.drewN m := by
  have h2 : ∀ W : World, (binOp .shl 34 (U x) (.int .i64 21)).run Tryd.prog W = .ok (U (x <<< 21)) W := fun W => run_shl Tryd.prog 34 x .i64 21 (by decide) W
  have h3 : ∀ W : World, (binOp .shr 34 (U x) (.int .i64 11)).run Tryd.prog W = .ok (U (x >>> 11)) W := fun W => run_shr Tryd.prog 34 x .i64 11 (by decide) W
  go_enter Tryd.func21, Tryd.ntmps21
  go_upto_region 1 with fail
  go_quiet (fail)
  go_wp2
  go_ret
  exact ⟨rfl, _, rfl⟩
theorem turn_25 (x : W32) (w : World) : Calls Tryd.prog 21 #[U x, .int .i64 25] w fun e w' => e = .returned (U (rotr x 25)) ∧ ∃ m, w' = w.drewN m := by
  have h2 : ∀ W : World, (binOp .shl 34 (U x) (.int .i64 7)).run Tryd.prog W = .ok (U (x <<< 7)) W := fun W => run_shl Tryd.prog 34 x .i64 7 (by decide) W
  have h3 : ∀ W : World, (binOp .shr 34 (U x) (.int .i64 25)).run Tryd.prog W = .ok (U (x >>> 25)) W := fun W => run_shr Tryd.prog 34 x .i64 25 (by decide) W
  go_enter Tryd.func21, Tryd.ntmps21
  go_upto_region 1 with fail
  go_quiet (fail)
  go_wp2
  go_ret
  exact ⟨rfl, _, rfl⟩
theorem turn_2 (x : W32) (w : World) : Calls Tryd.prog 21 #[U x, .int .i64 2] w fun e w' => e = .returned (U (rotr x 2)) ∧ ∃ m, w' = w.drewN m := by
  have h2 : ∀ W : World, (binOp .shl 34 (U x) (.int .i64 30)).run Tryd.prog W = .ok (U (x <<< 30)) W := fun W => run_shl Tryd.prog 34 x .i64 30 (by decide) W
  have h3 : ∀ W : World, (binOp .shr 34 (U x) (.int .i64 2)).run Tryd.prog W = .ok (U (x >>> 2)) W := fun W => run_shr Tryd.prog 34 x .i64 2 (by decide) W
  go_enter Tryd.func21, Tryd.ntmps21
  go_upto_region 1 with fail
  go_quiet (fail)
  go_wp2
  go_ret
  exact ⟨rfl, _, rfl⟩
theorem turn_13 (x : W32) (w : World) : Calls Tryd.prog 21 #[U x, .int .i64 13] w fun e w' => e = .returned (U (rotr x 13)) ∧ ∃ m, w' = w.drewN m := by
  have h2 : ∀ W : World, (binOp .shl 34 (U x) (.int .i64 19)).run Tryd.prog W = .ok (U (x <<< 19)) W := fun W => run_shl Tryd.prog 34 x .i64 19 (by decide) W
  have h3 : ∀ W : World, (binOp .shr 34 (U x) (.int .i64 13)).run Tryd.prog W = .ok (U (x >>> 13)) W := fun W => run_shr Tryd.prog 34 x .i64 13 (by decide) W
  go_enter Tryd.func21, Tryd.ntmps21
  go_upto_region 1 with fail
  go_quiet (fail)
  go_wp2
  go_ret
  exact ⟨rfl, _, rfl⟩
theorem turn_22 (x : W32) (w : World) : Calls Tryd.prog 21 #[U x, .int .i64 22] w fun e w' => e = .returned (U (rotr x 22)) ∧ ∃ m, w' = w.drewN m := by
  have h2 : ∀ W : World, (binOp .shl 34 (U x) (.int .i64 10)).run Tryd.prog W = .ok (U (x <<< 10)) W := fun W => run_shl Tryd.prog 34 x .i64 10 (by decide) W
  have h3 : ∀ W : World, (binOp .shr 34 (U x) (.int .i64 22)).run Tryd.prog W = .ok (U (x >>> 22)) W := fun W => run_shr Tryd.prog 34 x .i64 22 (by decide) W
  go_enter Tryd.func21, Tryd.ntmps21
  go_upto_region 1 with fail
  go_quiet (fail)
  go_wp2
  go_ret
  exact ⟨rfl, _, rfl⟩
theorem table_val : #[.int .u32 1116352408, .int .u32 1899447441, .int .u32 3049323471, .int .u32 3921009573, .int .u32 961987163, .int .u32 1508970993, .int .u32 2453635748, .int .u32 2870763221, .int .u32 3624381080, .int .u32 310598401, .int .u32 607225278, .int .u32 1426881987, .int .u32 1925078388, .int .u32 2162078206, .int .u32 2614888103, .int .u32 3248222580, .int .u32 3835390401, .int .u32 4022224774, .int .u32 264347078, .int .u32 604807628, .int .u32 770255983, .int .u32 1249150122, .int .u32 1555081692, .int .u32 1996064986, .int .u32 2554220882, .int .u32 2821834349, .int .u32 2952996808, .int .u32 3210313671, .int .u32 3336571891, .int .u32 3584528711, .int .u32 113926993, .int .u32 338241895, .int .u32 666307205, .int .u32 773529912, .int .u32 1294757372, .int .u32 1396182291, .int .u32 1695183700, .int .u32 1986661051, .int .u32 2177026350, .int .u32 2456956037, .int .u32 2730485921, .int .u32 2820302411, .int .u32 3259730800, .int .u32 3345764771, .int .u32 3516065817, .int .u32 3600352804, .int .u32 4094571909, .int .u32 275423344, .int .u32 430227734, .int .u32 506948616, .int .u32 659060556, .int .u32 883997877, .int .u32 958139571, .int .u32 1322822218, .int .u32 1537002063, .int .u32 1747873779, .int .u32 1955562222, .int .u32 2024104815, .int .u32 2227730452, .int .u32 2361852424, .int .u32 2428436474, .int .u32 2756734187, .int .u32 3204031479, .int .u32 3329325298] = Words tableK := by kernel_rfl
set_option maxRecDepth 100000 in
theorem constants_any (w : World) : Calls Tryd.prog 19 #[] w fun e w' => e = .returned (.slice (some ⟨w.heap.size, 0, none⟩) 64 64) ∧ w' = w.alloc (.cells (Words tableK) 34) := by
  rw [← table_val]
  go_enter Tryd.func19, Tryd.ntmps19
  go_wp2
  go_ret
  exact ⟨rfl, rfl⟩
theorem info34 : (Tryd.prog.info? 34).map (fun i => (i.zero, i.size, i.bytes)) = some (some (.int .u32 0), 1, 4) := by kernel_rfl
theorem info5 : (Tryd.prog.info? 5).map (fun i => (i.zero, i.size, i.bytes)) = some (some (.int .u8 0), 1, 1) := by kernel_rfl
end Go.Proofs.YtkhbkckcgfddlaaDoor
