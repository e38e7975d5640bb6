/- term, the document's: parts, none, public, fits. -/
import Derived.Test.YtlheoipengndnabDoorRefA
namespace Go.Proofs.YtlheoipengndnabDoor
set_option linter.unusedVariables false
open Go.RowKit
def partsI (c : UInt8) : Int := match arity c with | some k => k | none => -1
theorem parts_80 (w : World) : Calls Tryd.prog 53 #[.int .u8 80] w (fun e w' => w = w' ∧ e = .returned (.int .i64 1)) := by
  go_enter Tryd.func53, Tryd.ntmps53
  go_wp2
  go_ret
  exact ⟨rfl, rfl⟩
theorem parts_72 (w : World) : Calls Tryd.prog 53 #[.int .u8 72] w (fun e w' => w = w' ∧ e = .returned (.int .i64 1)) := by
  go_enter Tryd.func53, Tryd.ntmps53
  go_wp2
  go_ret
  exact ⟨rfl, rfl⟩
theorem parts_83 (w : World) : Calls Tryd.prog 53 #[.int .u8 83] w (fun e w' => w = w' ∧ e = .returned (.int .i64 2)) := by
  go_enter Tryd.func53, Tryd.ntmps53
  go_wp2
  go_ret
  exact ⟨rfl, rfl⟩
theorem parts_66 (w : World) : Calls Tryd.prog 53 #[.int .u8 66] w (fun e w' => w = w' ∧ e = .returned (.int .i64 2)) := by
  go_enter Tryd.func53, Tryd.ntmps53
  go_wp2
  go_ret
  exact ⟨rfl, rfl⟩
theorem parts_88 (w : World) : Calls Tryd.prog 53 #[.int .u8 88] w (fun e w' => w = w' ∧ e = .returned (.int .i64 2)) := by
  go_enter Tryd.func53, Tryd.ntmps53
  go_wp2
  go_ret
  exact ⟨rfl, rfl⟩
theorem parts_68 (w : World) : Calls Tryd.prog 53 #[.int .u8 68] w (fun e w' => w = w' ∧ e = .returned (.int .i64 2)) := by
  go_enter Tryd.func53, Tryd.ntmps53
  go_wp2
  go_ret
  exact ⟨rfl, rfl⟩
theorem parts_86 (w : World) : Calls Tryd.prog 53 #[.int .u8 86] w (fun e w' => w = w' ∧ e = .returned (.int .i64 2)) := by
  go_enter Tryd.func53, Tryd.ntmps53
  go_wp2
  go_ret
  exact ⟨rfl, rfl⟩
theorem parts_87 (w : World) : Calls Tryd.prog 53 #[.int .u8 87] w (fun e w' => w = w' ∧ e = .returned (.int .i64 2)) := by
  go_enter Tryd.func53, Tryd.ntmps53
  go_wp2
  go_ret
  exact ⟨rfl, rfl⟩
theorem parts_75 (w : World) : Calls Tryd.prog 53 #[.int .u8 75] w (fun e w' => w = w' ∧ e = .returned (.int .i64 2)) := by
  go_enter Tryd.func53, Tryd.ntmps53
  go_wp2
  go_ret
  exact ⟨rfl, rfl⟩
theorem parts_76 (w : World) : Calls Tryd.prog 53 #[.int .u8 76] w (fun e w' => w = w' ∧ e = .returned (.int .i64 2)) := by
  go_enter Tryd.func53, Tryd.ntmps53
  go_wp2
  go_ret
  exact ⟨rfl, rfl⟩
theorem parts_no (w : World) (c : Int) (h0 : 0 ≤ c) (h1 : c ≤ 255) (n80 : c ≠ 80) (n72 : c ≠ 72) (n83 : c ≠ 83) (n66 : c ≠ 66) (n88 : c ≠ 88) (n68 : c ≠ 68) (n86 : c ≠ 86) (n87 : c ≠ 87) (n75 : c ≠ 75) (n76 : c ≠ 76) : Calls Tryd.prog 53 #[.int .u8 c] w (fun e w' => w = w' ∧ e = .returned (.int .i64 (-1))) := by
  go_enter Tryd.func53, Tryd.ntmps53
  go_wp2
  go_ret
  exact ⟨rfl, rfl⟩
theorem parts_any (w : World) (c : UInt8) : Calls Tryd.prog 53 #[.int .u8 c.toNat] w (fun e w' => w = w' ∧ e = .returned (.int .i64 (partsI c))) := by
  by_cases n80 : c = 80
  · subst n80; exact parts_80 w
  by_cases n72 : c = 72
  · subst n72; exact parts_72 w
  by_cases n83 : c = 83
  · subst n83; exact parts_83 w
  by_cases n66 : c = 66
  · subst n66; exact parts_66 w
  by_cases n88 : c = 88
  · subst n88; exact parts_88 w
  by_cases n68 : c = 68
  · subst n68; exact parts_68 w
  by_cases n86 : c = 86
  · subst n86; exact parts_86 w
  by_cases n87 : c = 87
  · subst n87; exact parts_87 w
  by_cases n75 : c = 75
  · subst n75; exact parts_75 w
  by_cases n76 : c = 76
  · subst n76; exact parts_76 w
  have ha : arity c = none := by
    unfold arity
    rw [if_neg (by rintro (h | h) <;> contradiction), if_neg (by rintro (h | h | h | h | h | h | h | h) <;> contradiction)]
  have e : partsI c = -1 := by unfold partsI; rw [ha]
  rw [e]
  have hc : (c.toNat : Int) ≤ 255 := by have := c.toNat_lt; omega
  have ne : ∀ k : UInt8, c ≠ k → (c.toNat : Int) ≠ (k.toNat : Int) := fun k h h' => h (UInt8.toNat_inj.mp (by omega))
  exact parts_no w c.toNat (by omega) hc (ne 80 n80) (ne 72 n72) (ne 83 n83) (ne 66 n66) (ne 88 n88) (ne 68 n68) (ne 86 n86) (ne 87 n87) (ne 75 n75) (ne 76 n76)
theorem none_any (w : World) : Calls Tryd.prog 51 #[] w (fun e w' => Below w.heap.size w w' ∧ e = .returned (.agg #[.int .i64 (-1), .int .i64 0, .int .u64 0, .int .i64 0, .slice none 0 0])) := by
  go_enter Tryd.func51, Tryd.ntmps51
  go_wp2
  refine bodyPost_ret (v := .agg #[.int .i64 (-1), .int .i64 0, .int .u64 0, .int .i64 0, .slice none 0 0]) (by simp [results, Tryd.results51, go_sem]) rfl ⟨?_, rfl⟩
  exact (Below.refl _ _).alloc (Nat.le_refl _) _
theorem rpublic_any (w : World) (c : UInt8) : Calls Tryd.prog 38 #[.int .u8 c.toNat] w (fun e w' => w = w' ∧ e = .returned (.bool (c == 80 || c == 87 || c == 76))) := by
  rw [← beq_u8 c 80, ← beq_u8 c 87, ← beq_u8 c 76]
  obtain ⟨x, hx⟩ : ∃ x : Int, (c.toNat : Int) = x := ⟨_, rfl⟩
  rw [hx]
  have e80 : (((80 : UInt8).toNat : Nat) : Int) = 80 := rfl
  have e87 : (((87 : UInt8).toNat : Nat) : Int) = 87 := rfl
  have e76 : (((76 : UInt8).toNat : Nat) : Int) = 76 := rfl
  rw [e80, e87, e76]
  clear e80 e87 e76 hx
  by_cases h1 : (x == 80) = true
  · rw [h1]
    go_enter Tryd.func38, Tryd.ntmps38
    go_wp2
    go_ret
    exact ⟨rfl, rfl⟩
  · have h1' : (x == 80) = false := by simpa using h1
    by_cases h2 : (x == 87) = true
    · rw [h1', h2]
      clear h1
      go_enter Tryd.func38, Tryd.ntmps38
      go_wp2
      go_ret
      exact ⟨rfl, rfl⟩
    · have h2' : (x == 87) = false := by simpa using h2
      rw [h1', h2']
      clear h1 h2
      go_enter Tryd.func38, Tryd.ntmps38
      go_wp2
      go_ret
      exact ⟨rfl, rfl⟩
end Go.Proofs.YtlheoipengndnabDoor
