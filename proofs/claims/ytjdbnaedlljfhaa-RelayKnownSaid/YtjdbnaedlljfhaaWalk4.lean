/- The walks of the money functions: what each computes. -/
import Derived.Test.YtjdbnaedlljfhaaRows
import Derived.Test.YtjdbnaedlljfhaaMath
import Derived.Test.YtjdbnaedlljfhaaDiv
import Derived.Test.YtjdbnaedlljfhaaShare
import Derived.Test.YtjdbnaedlljfhaaShelf
import Derived.Test.YtjdbnaedlljfhaaWalk1
import Derived.Test.YtjdbnaedlljfhaaWalk2
import Derived.Test.YtjdbnaedlljfhaaWalk3
import Derived.WalkKit
import Derived.WalkSpells
import Derived.WalkLawsBesides
import Derived.Handy
import Derived.Deep.QuietTactic
import Derived.BigQuiet
namespace Go.Proofs.Ytjdbnaedlljfhaa
open Go.RowKit
attribute [local go_sem] field44

set_option maxHeartbeats 1000000 in
theorem addr_ok (a b : Int) (h0 : 0 ≤ a) (h1 : a ≤ 2100000000000000000) (h2 : 0 ≤ b) (h3 : b ≤ 2100000000000000000) (h4 : a + b ≤ 2100000000000000000) (w : World) : Calls Try.prog 44 #[.int .i64 a, .int .i64 b] w (OptPost (addO a b) w) := by
  have HO : Hid (addO a b = some (a + b)) := by show _ = _; simp only [addO]; rw [if_pos (by omega)]
  go_enter Try.func44, Try.ntmps44
  go_wp2
  go_ret2
  exact OptPost.yes (by (repeat' (first | (with_reducible exact Below.refl _ _) | (with_reducible refine Below.alloc ?_ ?_ _) | (with_reducible refine Below.drew ?_) | (with_reducible refine Below.setCell ?_ ?_ _) | (with_reducible refine below_drewN ?_ _) | (refine Below.trans ?_ (Below.mono (by assumption) ?_)) | go_size))) HO.out

set_option maxHeartbeats 1000000 in
theorem addr_bad (a b : Int) (h : ¬ (0 ≤ a ∧ a ≤ 2100000000000000000 ∧ 0 ≤ b ∧ b ≤ 2100000000000000000 ∧ a + b ≤ 2100000000000000000)) (w : World) : Calls Try.prog 44 #[.int .i64 a, .int .i64 b] w (OptPost (addO a b) w) := by
  have HO : Hid (addO a b = none) := by show _ = _; simp only [addO]; rw [if_neg (by omega)]
  by_cases n0 : 0 ≤ a
  rotate_left
  · go_enter Try.func44, Try.ntmps44
    go_wp2
    go_ret2
    exact OptPost.no (by (repeat' (first | (with_reducible exact Below.refl _ _) | (with_reducible refine Below.alloc ?_ ?_ _) | (with_reducible refine Below.drew ?_) | (with_reducible refine Below.setCell ?_ ?_ _) | (with_reducible refine below_drewN ?_ _) | (refine Below.trans ?_ (Below.mono (by assumption) ?_)) | go_size))) HO.out
  by_cases n1 : a ≤ 2100000000000000000
  rotate_left
  · go_enter Try.func44, Try.ntmps44
    go_wp2
    go_ret2
    exact OptPost.no (by (repeat' (first | (with_reducible exact Below.refl _ _) | (with_reducible refine Below.alloc ?_ ?_ _) | (with_reducible refine Below.drew ?_) | (with_reducible refine Below.setCell ?_ ?_ _) | (with_reducible refine below_drewN ?_ _) | (refine Below.trans ?_ (Below.mono (by assumption) ?_)) | go_size))) HO.out
  by_cases n2 : 0 ≤ b
  rotate_left
  · go_enter Try.func44, Try.ntmps44
    go_wp2
    go_ret2
    exact OptPost.no (by (repeat' (first | (with_reducible exact Below.refl _ _) | (with_reducible refine Below.alloc ?_ ?_ _) | (with_reducible refine Below.drew ?_) | (with_reducible refine Below.setCell ?_ ?_ _) | (with_reducible refine below_drewN ?_ _) | (refine Below.trans ?_ (Below.mono (by assumption) ?_)) | go_size))) HO.out
  by_cases n3 : b ≤ 2100000000000000000
  rotate_left
  · go_enter Try.func44, Try.ntmps44
    go_wp2
    go_ret2
    exact OptPost.no (by (repeat' (first | (with_reducible exact Below.refl _ _) | (with_reducible refine Below.alloc ?_ ?_ _) | (with_reducible refine Below.drew ?_) | (with_reducible refine Below.setCell ?_ ?_ _) | (with_reducible refine below_drewN ?_ _) | (refine Below.trans ?_ (Below.mono (by assumption) ?_)) | go_size))) HO.out
  by_cases n4 : a + b ≤ 2100000000000000000
  rotate_left
  · go_enter Try.func44, Try.ntmps44
    go_wp2
    go_ret2
    exact OptPost.no (by (repeat' (first | (with_reducible exact Below.refl _ _) | (with_reducible refine Below.alloc ?_ ?_ _) | (with_reducible refine Below.drew ?_) | (with_reducible refine Below.setCell ?_ ?_ _) | (with_reducible refine below_drewN ?_ _) | (refine Below.trans ?_ (Below.mono (by assumption) ?_)) | go_size))) HO.out
  exfalso; omega

theorem addr_any (a b : Int) (w : World) : Calls Try.prog 44 #[.int .i64 a, .int .i64 b] w (OptPost (addO a b) w) := by
  by_cases h : 0 ≤ a ∧ a ≤ 2100000000000000000 ∧ 0 ≤ b ∧ b ≤ 2100000000000000000 ∧ a + b ≤ 2100000000000000000
  · exact addr_ok a b h.1 h.2.1 h.2.2.1 h.2.2.2.1 h.2.2.2.2 w
  · exact addr_bad a b h w

/-- what is known of a call's outcome, once it is known which of the two it is -/
theorem opt_none {o : Option Int} {w : World} {e : Ending} {w' : World} (h : OptPost o w e w') (ho : o = none) : e = .returned (.tuple #[.int .i64 0, .int .i64 40]) ∧ Below w.heap.size w w' := ⟨h.2.2 ho, h.1⟩
theorem opt_some {o : Option Int} {w : World} {e : Ending} {w' : World} {v : Int} (h : OptPost o w e w') (ho : o = some v) : e = .returned (.tuple #[.int .i64 v, .int .i64 0]) ∧ Below w.heap.size w w' := ⟨h.2.1 _ ho, h.1⟩

set_option maxHeartbeats 1000000 in
theorem gross_any (a b r : Int) (w : World) : Calls Try.prog 42 #[.int .i64 a, .int .i64 b, .int .i64 r] w (OptPost (grossO a b r) w) := by
  cases hf : feeO a b r with
  | none =>
    have HG : Hid (grossO a b r = none) := by show _ = _; simp only [grossO, hf]
    have HF := Lib.hid hf; clear hf
    go_enter Try.func42, Try.ntmps42
    go_wp2_with (first | (go_at_call 12; refine Calls.mono (fee_any a b r _) ?_; rintro e w1 h1; obtain ⟨rfl, hb1⟩ := opt_none h1 HF.out; have z1 := hb1.size; try simp only [World.size_alloc] at z1) | go_in)
    go_ret2
    exact OptPost.no (by (repeat' (first | (with_reducible exact Below.refl _ _) | (with_reducible refine Below.alloc ?_ ?_ _) | (with_reducible refine Below.drew ?_) | (with_reducible refine Below.setCell ?_ ?_ _) | (with_reducible refine below_drewN ?_ _) | (refine Below.trans ?_ (Below.mono (by assumption) ?_)) | go_size))) HG.out
  | some f =>
    have hf0 : 0 ≤ f ∧ f ≤ 2100000000000000000 := by
      simp only [feeO] at hf; split at hf
      · cases hf; constructor
        · have : 0 ≤ a * r / 1000000 := Int.ediv_nonneg (Int.mul_nonneg (by omega) (by omega)) (by omega)
          omega
        · omega
      · cases hf
    obtain ⟨f0, f1⟩ := hf0
    have hg : grossO a b r = addO a f := by simp only [grossO, hf]
    have HF := Lib.hid hf; clear hf
    cases ha : addO a f with
    | none =>
      have HR : Hid (grossO a b r = none) := by show _ = _; rw [hg, ha]
      have HG := Lib.hid ha; clear ha hg
      go_enter Try.func42, Try.ntmps42
      go_wp2_with (first | (go_at_call 12; refine Calls.mono (fee_any a b r _) ?_; rintro e w1 h1; obtain ⟨rfl, hb1⟩ := opt_some h1 HF.out; have z1 := hb1.size; try simp only [World.size_alloc] at z1) | (go_at_call 36; refine Calls.mono (sum_two a f _ (sumGo_two a f) _ _ (by go_cell) (by go_cell)) ?_; rintro e w2 h2; obtain ⟨rfl, hb2⟩ := opt_none h2 HG.out; have z2 := hb2.size; try simp only [World.size_alloc] at z2) | go_in)
      go_ret2
      exact OptPost.no (by (repeat' (first | (with_reducible exact Below.refl _ _) | (with_reducible refine Below.alloc ?_ ?_ _) | (with_reducible refine Below.drew ?_) | (with_reducible refine Below.setCell ?_ ?_ _) | (with_reducible refine below_drewN ?_ _) | (refine Below.trans ?_ (Below.mono (by assumption) ?_)) | go_size))) HR.out
    | some v =>
      have HR : Hid (grossO a b r = some v) := by show _ = _; rw [hg, ha]
      have HG := Lib.hid ha; clear ha hg
      go_enter Try.func42, Try.ntmps42
      go_wp2_with (first | (go_at_call 12; refine Calls.mono (fee_any a b r _) ?_; rintro e w1 h1; obtain ⟨rfl, hb1⟩ := opt_some h1 HF.out; have z1 := hb1.size; try simp only [World.size_alloc] at z1) | (go_at_call 36; refine Calls.mono (sum_two a f _ (sumGo_two a f) _ _ (by go_cell) (by go_cell)) ?_; rintro e w2 h2; obtain ⟨rfl, hb2⟩ := opt_some h2 HG.out; have z2 := hb2.size; try simp only [World.size_alloc] at z2) | go_in)
      go_ret2
      exact OptPost.yes (by (repeat' (first | (with_reducible exact Below.refl _ _) | (with_reducible refine Below.alloc ?_ ?_ _) | (with_reducible refine Below.drew ?_) | (with_reducible refine Below.setCell ?_ ?_ _) | (with_reducible refine below_drewN ?_ _) | (refine Below.trans ?_ (Below.mono (by assumption) ?_)) | go_size))) HR.out

set_option maxHeartbeats 1000000 in
theorem grossr_any (a b r : Int) (w : World) : Calls Try.prog 30 #[.int .i64 a, .int .i64 b, .int .i64 r] w (OptPost (grossO a b r) w) := by
  cases hf : feeO a b r with
  | none =>
    have HG : Hid (grossO a b r = none) := by show _ = _; simp only [grossO, hf]
    have HF := Lib.hid hf; clear hf
    go_enter Try.func30, Try.ntmps30
    go_wp2_with (first | (go_at_call 43; refine Calls.mono (feer_any a b r _) ?_; rintro e w1 h1; obtain ⟨rfl, hb1⟩ := opt_none h1 HF.out; have z1 := hb1.size; try simp only [World.size_alloc] at z1) | go_in)
    go_ret2
    exact OptPost.no (by (repeat' (first | (with_reducible exact Below.refl _ _) | (with_reducible refine Below.alloc ?_ ?_ _) | (with_reducible refine Below.drew ?_) | (with_reducible refine Below.setCell ?_ ?_ _) | (with_reducible refine below_drewN ?_ _) | (refine Below.trans ?_ (Below.mono (by assumption) ?_)) | go_size))) HG.out
  | some f =>
    have hf0 : 0 ≤ f ∧ f ≤ 2100000000000000000 := by
      simp only [feeO] at hf; split at hf
      · cases hf; constructor
        · have : 0 ≤ a * r / 1000000 := Int.ediv_nonneg (Int.mul_nonneg (by omega) (by omega)) (by omega)
          omega
        · omega
      · cases hf
    obtain ⟨f0, f1⟩ := hf0
    have hg : grossO a b r = addO a f := by simp only [grossO, hf]
    have HF := Lib.hid hf; clear hf
    cases ha : addO a f with
    | none =>
      have HR : Hid (grossO a b r = none) := by show _ = _; rw [hg, ha]
      have HG := Lib.hid ha; clear ha hg
      go_enter Try.func30, Try.ntmps30
      go_wp2_with (first | (go_at_call 43; refine Calls.mono (feer_any a b r _) ?_; rintro e w1 h1; obtain ⟨rfl, hb1⟩ := opt_some h1 HF.out; have z1 := hb1.size; try simp only [World.size_alloc] at z1) | (go_at_call 44; refine Calls.mono (addr_any _ _ _) ?_; rintro e w2 h2; obtain ⟨rfl, hb2⟩ := opt_none h2 HG.out; have z2 := hb2.size; try simp only [World.size_alloc] at z2) | go_in)
      go_ret2
      exact OptPost.no (by (repeat' (first | (with_reducible exact Below.refl _ _) | (with_reducible refine Below.alloc ?_ ?_ _) | (with_reducible refine Below.drew ?_) | (with_reducible refine Below.setCell ?_ ?_ _) | (with_reducible refine below_drewN ?_ _) | (refine Below.trans ?_ (Below.mono (by assumption) ?_)) | go_size))) HR.out
    | some v =>
      have HR : Hid (grossO a b r = some v) := by show _ = _; rw [hg, ha]
      have HG := Lib.hid ha; clear ha hg
      go_enter Try.func30, Try.ntmps30
      go_wp2_with (first | (go_at_call 43; refine Calls.mono (feer_any a b r _) ?_; rintro e w1 h1; obtain ⟨rfl, hb1⟩ := opt_some h1 HF.out; have z1 := hb1.size; try simp only [World.size_alloc] at z1) | (go_at_call 44; refine Calls.mono (addr_any _ _ _) ?_; rintro e w2 h2; obtain ⟨rfl, hb2⟩ := opt_some h2 HG.out; have z2 := hb2.size; try simp only [World.size_alloc] at z2) | go_in)
      go_ret2
      exact OptPost.yes (by (repeat' (first | (with_reducible exact Below.refl _ _) | (with_reducible refine Below.alloc ?_ ?_ _) | (with_reducible refine Below.drew ?_) | (with_reducible refine Below.setCell ?_ ?_ _) | (with_reducible refine below_drewN ?_ _) | (refine Below.trans ?_ (Below.mono (by assumption) ?_)) | go_size))) HR.out

end Go.Proofs.Ytjdbnaedlljfhaa
