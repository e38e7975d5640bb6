/- The walks of the money functions: what each computes. -/
import Derived.Test.YtmpgbflhhdhbpaaRows
import Derived.Test.YtmpgbflhhdhbpaaMath
import Derived.Test.YtmpgbflhhdhbpaaDiv
import Derived.Test.YtmpgbflhhdhbpaaShare
import Derived.Test.YtmpgbflhhdhbpaaShelf
import Derived.Test.YtmpgbflhhdhbpaaWalk1
import Derived.Test.YtmpgbflhhdhbpaaWalk2
import Derived.Test.YtmpgbflhhdhbpaaWalk3
import Derived.WalkKit
import Derived.WalkSpells
import Derived.WalkLawsBesides
import Derived.Handy
import Derived.Deep.QuietTactic
import Derived.BigQuiet
namespace Go.Proofs.Ytmpgbflhhdhbpaa
open Go.RowKit
attribute [local go_sem] field44

set_option maxHeartbeats 1000000 in
theorem addr_ok (a b : Int) (h0 : 0 ≤ a) (h1 : a ≤ 2100000000000000000) (h2 : 0 ≤ b) (h3 : b ≤ 2100000000000000000) (h4 : a + b ≤ 2100000000000000000) (w : World) : Calls Try.prog 20 #[.int .i64 a, .int .i64 b] w (OptPost (addO a b) w) := by
  have HO : Hid (addO a b = some (a + b)) := by show _ = _; simp only [addO]; rw [if_pos (by omega)]
  go_enter Try.func20, Try.ntmps20
  go_wp2
  go_ret2
  exact OptPost.yes (by (repeat' (first | (with_reducible exact Below.refl _ _) | (with_reducible refine Below.alloc ?_ ?_ _) | (with_reducible refine Below.drew ?_) | (with_reducible refine Below.setCell ?_ ?_ _) | (with_reducible refine below_drewN ?_ _) | (refine Below.trans ?_ (Below.mono (by assumption) ?_)) | go_size))) HO.out

set_option maxHeartbeats 1000000 in
theorem addr_bad (a b : Int) (h : ¬ (0 ≤ a ∧ a ≤ 2100000000000000000 ∧ 0 ≤ b ∧ b ≤ 2100000000000000000 ∧ a + b ≤ 2100000000000000000)) (w : World) : Calls Try.prog 20 #[.int .i64 a, .int .i64 b] w (OptPost (addO a b) w) := by
  have HO : Hid (addO a b = none) := by show _ = _; simp only [addO]; rw [if_neg (by omega)]
  by_cases n0 : 0 ≤ a
  rotate_left
  · go_enter Try.func20, Try.ntmps20
    go_wp2
    go_ret2
    exact OptPost.no (by (repeat' (first | (with_reducible exact Below.refl _ _) | (with_reducible refine Below.alloc ?_ ?_ _) | (with_reducible refine Below.drew ?_) | (with_reducible refine Below.setCell ?_ ?_ _) | (with_reducible refine below_drewN ?_ _) | (refine Below.trans ?_ (Below.mono (by assumption) ?_)) | go_size))) HO.out
  by_cases n1 : a ≤ 2100000000000000000
  rotate_left
  · go_enter Try.func20, Try.ntmps20
    go_wp2
    go_ret2
    exact OptPost.no (by (repeat' (first | (with_reducible exact Below.refl _ _) | (with_reducible refine Below.alloc ?_ ?_ _) | (with_reducible refine Below.drew ?_) | (with_reducible refine Below.setCell ?_ ?_ _) | (with_reducible refine below_drewN ?_ _) | (refine Below.trans ?_ (Below.mono (by assumption) ?_)) | go_size))) HO.out
  by_cases n2 : 0 ≤ b
  rotate_left
  · go_enter Try.func20, Try.ntmps20
    go_wp2
    go_ret2
    exact OptPost.no (by (repeat' (first | (with_reducible exact Below.refl _ _) | (with_reducible refine Below.alloc ?_ ?_ _) | (with_reducible refine Below.drew ?_) | (with_reducible refine Below.setCell ?_ ?_ _) | (with_reducible refine below_drewN ?_ _) | (refine Below.trans ?_ (Below.mono (by assumption) ?_)) | go_size))) HO.out
  by_cases n3 : b ≤ 2100000000000000000
  rotate_left
  · go_enter Try.func20, Try.ntmps20
    go_wp2
    go_ret2
    exact OptPost.no (by (repeat' (first | (with_reducible exact Below.refl _ _) | (with_reducible refine Below.alloc ?_ ?_ _) | (with_reducible refine Below.drew ?_) | (with_reducible refine Below.setCell ?_ ?_ _) | (with_reducible refine below_drewN ?_ _) | (refine Below.trans ?_ (Below.mono (by assumption) ?_)) | go_size))) HO.out
  by_cases n4 : a + b ≤ 2100000000000000000
  rotate_left
  · go_enter Try.func20, Try.ntmps20
    go_wp2
    go_ret2
    exact OptPost.no (by (repeat' (first | (with_reducible exact Below.refl _ _) | (with_reducible refine Below.alloc ?_ ?_ _) | (with_reducible refine Below.drew ?_) | (with_reducible refine Below.setCell ?_ ?_ _) | (with_reducible refine below_drewN ?_ _) | (refine Below.trans ?_ (Below.mono (by assumption) ?_)) | go_size))) HO.out
  exfalso; omega

theorem addr_any (a b : Int) (w : World) : Calls Try.prog 20 #[.int .i64 a, .int .i64 b] w (OptPost (addO a b) w) := by
  by_cases h : 0 ≤ a ∧ a ≤ 2100000000000000000 ∧ 0 ≤ b ∧ b ≤ 2100000000000000000 ∧ a + b ≤ 2100000000000000000
  · exact addr_ok a b h.1 h.2.1 h.2.2.1 h.2.2.2.1 h.2.2.2.2 w
  · exact addr_bad a b h w

set_option maxHeartbeats 1000000 in
theorem sub_ok (a b : Int) (h0 : 0 ≤ a) (h1 : a ≤ 2100000000000000000) (h2 : 0 ≤ b) (h3 : b ≤ 2100000000000000000) (h4 : b ≤ a) (w : World) : Calls Try.prog 18 #[.int .i64 a, .int .i64 b] w (OptPost (subO a b) w) := by
  have HO : Hid (subO a b = some (a - b)) := by show _ = _; simp only [subO]; rw [if_pos (by omega)]
  have qb : decide (a - b ≤ 2100000000000000000) = true := by simp; omega
  go_enter Try.func18, Try.ntmps18
  go_wp2
  go_ret2
  exact OptPost.yes (by (repeat' (first | (with_reducible exact Below.refl _ _) | (with_reducible refine Below.alloc ?_ ?_ _) | (with_reducible refine Below.drew ?_) | (with_reducible refine Below.setCell ?_ ?_ _) | (with_reducible refine below_drewN ?_ _) | (refine Below.trans ?_ (Below.mono (by assumption) ?_)) | go_size))) HO.out

set_option maxHeartbeats 1000000 in
theorem sub_bad (a b : Int) (h : ¬ (0 ≤ a ∧ a ≤ 2100000000000000000 ∧ 0 ≤ b ∧ b ≤ 2100000000000000000 ∧ b ≤ a)) (w : World) : Calls Try.prog 18 #[.int .i64 a, .int .i64 b] w (OptPost (subO a b) w) := by
  have HO : Hid (subO a b = none) := by show _ = _; simp only [subO]; rw [if_neg (by omega)]
  by_cases n0 : 0 ≤ a
  rotate_left
  · go_enter Try.func18, Try.ntmps18
    go_wp2
    go_ret2
    exact OptPost.no (by (repeat' (first | (with_reducible exact Below.refl _ _) | (with_reducible refine Below.alloc ?_ ?_ _) | (with_reducible refine Below.drew ?_) | (with_reducible refine Below.setCell ?_ ?_ _) | (with_reducible refine below_drewN ?_ _) | (refine Below.trans ?_ (Below.mono (by assumption) ?_)) | go_size))) HO.out
  by_cases n1 : a ≤ 2100000000000000000
  rotate_left
  · go_enter Try.func18, Try.ntmps18
    go_wp2
    go_ret2
    exact OptPost.no (by (repeat' (first | (with_reducible exact Below.refl _ _) | (with_reducible refine Below.alloc ?_ ?_ _) | (with_reducible refine Below.drew ?_) | (with_reducible refine Below.setCell ?_ ?_ _) | (with_reducible refine below_drewN ?_ _) | (refine Below.trans ?_ (Below.mono (by assumption) ?_)) | go_size))) HO.out
  by_cases n2 : 0 ≤ b
  rotate_left
  · go_enter Try.func18, Try.ntmps18
    go_wp2
    go_ret2
    exact OptPost.no (by (repeat' (first | (with_reducible exact Below.refl _ _) | (with_reducible refine Below.alloc ?_ ?_ _) | (with_reducible refine Below.drew ?_) | (with_reducible refine Below.setCell ?_ ?_ _) | (with_reducible refine below_drewN ?_ _) | (refine Below.trans ?_ (Below.mono (by assumption) ?_)) | go_size))) HO.out
  by_cases n3 : b ≤ 2100000000000000000
  rotate_left
  · go_enter Try.func18, Try.ntmps18
    go_wp2
    go_ret2
    exact OptPost.no (by (repeat' (first | (with_reducible exact Below.refl _ _) | (with_reducible refine Below.alloc ?_ ?_ _) | (with_reducible refine Below.drew ?_) | (with_reducible refine Below.setCell ?_ ?_ _) | (with_reducible refine below_drewN ?_ _) | (refine Below.trans ?_ (Below.mono (by assumption) ?_)) | go_size))) HO.out
  by_cases n4 : b ≤ a
  rotate_left
  · go_enter Try.func18, Try.ntmps18
    go_wp2
    go_ret2
    exact OptPost.no (by (repeat' (first | (with_reducible exact Below.refl _ _) | (with_reducible refine Below.alloc ?_ ?_ _) | (with_reducible refine Below.drew ?_) | (with_reducible refine Below.setCell ?_ ?_ _) | (with_reducible refine below_drewN ?_ _) | (refine Below.trans ?_ (Below.mono (by assumption) ?_)) | go_size))) HO.out
  exfalso; omega

theorem sub_any (a b : Int) (w : World) : Calls Try.prog 18 #[.int .i64 a, .int .i64 b] w (OptPost (subO a b) w) := by
  by_cases h : 0 ≤ a ∧ a ≤ 2100000000000000000 ∧ 0 ≤ b ∧ b ≤ 2100000000000000000 ∧ b ≤ a
  · exact sub_ok a b h.1 h.2.1 h.2.2.1 h.2.2.2.1 h.2.2.2.2 w
  · exact sub_bad a b h w

set_option maxHeartbeats 1000000 in
theorem subr_ok (a b : Int) (h0 : 0 ≤ a) (h1 : a ≤ 2100000000000000000) (h2 : 0 ≤ b) (h3 : b ≤ 2100000000000000000) (h4 : b ≤ a) (w : World) : Calls Try.prog 21 #[.int .i64 a, .int .i64 b] w (OptPost (subO a b) w) := by
  have HO : Hid (subO a b = some (a - b)) := by show _ = _; simp only [subO]; rw [if_pos (by omega)]
  go_enter Try.func21, Try.ntmps21
  go_wp2
  go_ret2
  exact OptPost.yes (by (repeat' (first | (with_reducible exact Below.refl _ _) | (with_reducible refine Below.alloc ?_ ?_ _) | (with_reducible refine Below.drew ?_) | (with_reducible refine Below.setCell ?_ ?_ _) | (with_reducible refine below_drewN ?_ _) | (refine Below.trans ?_ (Below.mono (by assumption) ?_)) | go_size))) HO.out

set_option maxHeartbeats 1000000 in
theorem subr_bad (a b : Int) (h : ¬ (0 ≤ a ∧ a ≤ 2100000000000000000 ∧ 0 ≤ b ∧ b ≤ 2100000000000000000 ∧ b ≤ a)) (w : World) : Calls Try.prog 21 #[.int .i64 a, .int .i64 b] w (OptPost (subO a b) w) := by
  have HO : Hid (subO a b = none) := by show _ = _; simp only [subO]; rw [if_neg (by omega)]
  by_cases n0 : 0 ≤ a
  rotate_left
  · go_enter Try.func21, Try.ntmps21
    go_wp2
    go_ret2
    exact OptPost.no (by (repeat' (first | (with_reducible exact Below.refl _ _) | (with_reducible refine Below.alloc ?_ ?_ _) | (with_reducible refine Below.drew ?_) | (with_reducible refine Below.setCell ?_ ?_ _) | (with_reducible refine below_drewN ?_ _) | (refine Below.trans ?_ (Below.mono (by assumption) ?_)) | go_size))) HO.out
  by_cases n1 : a ≤ 2100000000000000000
  rotate_left
  · go_enter Try.func21, Try.ntmps21
    go_wp2
    go_ret2
    exact OptPost.no (by (repeat' (first | (with_reducible exact Below.refl _ _) | (with_reducible refine Below.alloc ?_ ?_ _) | (with_reducible refine Below.drew ?_) | (with_reducible refine Below.setCell ?_ ?_ _) | (with_reducible refine below_drewN ?_ _) | (refine Below.trans ?_ (Below.mono (by assumption) ?_)) | go_size))) HO.out
  by_cases n2 : 0 ≤ b
  rotate_left
  · go_enter Try.func21, Try.ntmps21
    go_wp2
    go_ret2
    exact OptPost.no (by (repeat' (first | (with_reducible exact Below.refl _ _) | (with_reducible refine Below.alloc ?_ ?_ _) | (with_reducible refine Below.drew ?_) | (with_reducible refine Below.setCell ?_ ?_ _) | (with_reducible refine below_drewN ?_ _) | (refine Below.trans ?_ (Below.mono (by assumption) ?_)) | go_size))) HO.out
  by_cases n3 : b ≤ 2100000000000000000
  rotate_left
  · go_enter Try.func21, Try.ntmps21
    go_wp2
    go_ret2
    exact OptPost.no (by (repeat' (first | (with_reducible exact Below.refl _ _) | (with_reducible refine Below.alloc ?_ ?_ _) | (with_reducible refine Below.drew ?_) | (with_reducible refine Below.setCell ?_ ?_ _) | (with_reducible refine below_drewN ?_ _) | (refine Below.trans ?_ (Below.mono (by assumption) ?_)) | go_size))) HO.out
  by_cases n4 : b ≤ a
  rotate_left
  · go_enter Try.func21, Try.ntmps21
    go_wp2
    go_ret2
    exact OptPost.no (by (repeat' (first | (with_reducible exact Below.refl _ _) | (with_reducible refine Below.alloc ?_ ?_ _) | (with_reducible refine Below.drew ?_) | (with_reducible refine Below.setCell ?_ ?_ _) | (with_reducible refine below_drewN ?_ _) | (refine Below.trans ?_ (Below.mono (by assumption) ?_)) | go_size))) HO.out
  exfalso; omega

theorem subr_any (a b : Int) (w : World) : Calls Try.prog 21 #[.int .i64 a, .int .i64 b] w (OptPost (subO a b) w) := by
  by_cases h : 0 ≤ a ∧ a ≤ 2100000000000000000 ∧ 0 ≤ b ∧ b ≤ 2100000000000000000 ∧ b ≤ a
  · exact subr_ok a b h.1 h.2.1 h.2.2.1 h.2.2.2.1 h.2.2.2.2 w
  · exact subr_bad a b h w

/-- what is known of a call's outcome, once it is known which of the two it is -/
theorem opt_none {o : Option Int} {w : World} {e : Ending} {w' : World} (h : OptPost o w e w') (ho : o = none) : e = .returned (.tuple #[.int .i64 0, .int .i64 40]) ∧ Below w.heap.size w w' := ⟨h.2.2 ho, h.1⟩
theorem opt_some {o : Option Int} {w : World} {e : Ending} {w' : World} {v : Int} (h : OptPost o w e w') (ho : o = some v) : e = .returned (.tuple #[.int .i64 v, .int .i64 0]) ∧ Below w.heap.size w w' := ⟨h.2.1 _ ho, h.1⟩

set_option maxHeartbeats 1000000 in
theorem gross_any (a b r : Int) (w : World) : Calls Try.prog 10 #[.int .i64 a, .int .i64 b, .int .i64 r] w (OptPost (grossO a b r) w) := by
  cases hf : feeO a b r with
  | none =>
    have HG : Hid (grossO a b r = none) := by show _ = _; simp only [grossO, hf]
    have HF := Lib.hid hf; clear hf
    go_enter Try.func10, Try.ntmps10
    go_wp2_with (first | (go_at_call 9; refine Calls.mono (fee_any a b r _) ?_; rintro e w1 h1; obtain ⟨rfl, hb1⟩ := opt_none h1 HF.out; have z1 := hb1.size; try simp only [World.size_alloc] at z1) | go_in)
    go_ret2
    exact OptPost.no (by (repeat' (first | (with_reducible exact Below.refl _ _) | (with_reducible refine Below.alloc ?_ ?_ _) | (with_reducible refine Below.drew ?_) | (with_reducible refine Below.setCell ?_ ?_ _) | (with_reducible refine below_drewN ?_ _) | (refine Below.trans ?_ (Below.mono (by assumption) ?_)) | go_size))) HG.out
  | some f =>
    have hf0 : 0 ≤ f ∧ f ≤ 2100000000000000000 := by
      simp only [feeO] at hf; split at hf
      · cases hf; constructor
        · have : 0 ≤ a * r / 1000000 := Int.ediv_nonneg (Int.mul_nonneg (by omega) (by omega)) (by omega)
          omega
        · omega
      · cases hf
    obtain ⟨f0, f1⟩ := hf0
    have hg : grossO a b r = addO a f := by simp only [grossO, hf]
    have HF := Lib.hid hf; clear hf
    cases ha : addO a f with
    | none =>
      have HR : Hid (grossO a b r = none) := by show _ = _; rw [hg, ha]
      have HG := Lib.hid ha; clear ha hg
      go_enter Try.func10, Try.ntmps10
      go_wp2_with (first | (go_at_call 9; refine Calls.mono (fee_any a b r _) ?_; rintro e w1 h1; obtain ⟨rfl, hb1⟩ := opt_some h1 HF.out; have z1 := hb1.size; try simp only [World.size_alloc] at z1) | (go_at_call 19; refine Calls.mono (sum_two a f _ (sumGo_two a f) _ _ (by go_cell) (by go_cell)) ?_; rintro e w2 h2; obtain ⟨rfl, hb2⟩ := opt_none h2 HG.out; have z2 := hb2.size; try simp only [World.size_alloc] at z2) | go_in)
      go_ret2
      exact OptPost.no (by (repeat' (first | (with_reducible exact Below.refl _ _) | (with_reducible refine Below.alloc ?_ ?_ _) | (with_reducible refine Below.drew ?_) | (with_reducible refine Below.setCell ?_ ?_ _) | (with_reducible refine below_drewN ?_ _) | (refine Below.trans ?_ (Below.mono (by assumption) ?_)) | go_size))) HR.out
    | some v =>
      have HR : Hid (grossO a b r = some v) := by show _ = _; rw [hg, ha]
      have HG := Lib.hid ha; clear ha hg
      go_enter Try.func10, Try.ntmps10
      go_wp2_with (first | (go_at_call 9; refine Calls.mono (fee_any a b r _) ?_; rintro e w1 h1; obtain ⟨rfl, hb1⟩ := opt_some h1 HF.out; have z1 := hb1.size; try simp only [World.size_alloc] at z1) | (go_at_call 19; refine Calls.mono (sum_two a f _ (sumGo_two a f) _ _ (by go_cell) (by go_cell)) ?_; rintro e w2 h2; obtain ⟨rfl, hb2⟩ := opt_some h2 HG.out; have z2 := hb2.size; try simp only [World.size_alloc] at z2) | go_in)
      go_ret2
      exact OptPost.yes (by (repeat' (first | (with_reducible exact Below.refl _ _) | (with_reducible refine Below.alloc ?_ ?_ _) | (with_reducible refine Below.drew ?_) | (with_reducible refine Below.setCell ?_ ?_ _) | (with_reducible refine below_drewN ?_ _) | (refine Below.trans ?_ (Below.mono (by assumption) ?_)) | go_size))) HR.out

set_option maxHeartbeats 1000000 in
theorem grossr_any (a b r : Int) (w : World) : Calls Try.prog 13 #[.int .i64 a, .int .i64 b, .int .i64 r] w (OptPost (grossO a b r) w) := by
  cases hf : feeO a b r with
  | none =>
    have HG : Hid (grossO a b r = none) := by show _ = _; simp only [grossO, hf]
    have HF := Lib.hid hf; clear hf
    go_enter Try.func13, Try.ntmps13
    go_wp2_with (first | (go_at_call 12; refine Calls.mono (feer_any a b r _) ?_; rintro e w1 h1; obtain ⟨rfl, hb1⟩ := opt_none h1 HF.out; have z1 := hb1.size; try simp only [World.size_alloc] at z1) | go_in)
    go_ret2
    exact OptPost.no (by (repeat' (first | (with_reducible exact Below.refl _ _) | (with_reducible refine Below.alloc ?_ ?_ _) | (with_reducible refine Below.drew ?_) | (with_reducible refine Below.setCell ?_ ?_ _) | (with_reducible refine below_drewN ?_ _) | (refine Below.trans ?_ (Below.mono (by assumption) ?_)) | go_size))) HG.out
  | some f =>
    have hf0 : 0 ≤ f ∧ f ≤ 2100000000000000000 := by
      simp only [feeO] at hf; split at hf
      · cases hf; constructor
        · have : 0 ≤ a * r / 1000000 := Int.ediv_nonneg (Int.mul_nonneg (by omega) (by omega)) (by omega)
          omega
        · omega
      · cases hf
    obtain ⟨f0, f1⟩ := hf0
    have hg : grossO a b r = addO a f := by simp only [grossO, hf]
    have HF := Lib.hid hf; clear hf
    cases ha : addO a f with
    | none =>
      have HR : Hid (grossO a b r = none) := by show _ = _; rw [hg, ha]
      have HG := Lib.hid ha; clear ha hg
      go_enter Try.func13, Try.ntmps13
      go_wp2_with (first | (go_at_call 12; refine Calls.mono (feer_any a b r _) ?_; rintro e w1 h1; obtain ⟨rfl, hb1⟩ := opt_some h1 HF.out; have z1 := hb1.size; try simp only [World.size_alloc] at z1) | (go_at_call 20; refine Calls.mono (addr_any _ _ _) ?_; rintro e w2 h2; obtain ⟨rfl, hb2⟩ := opt_none h2 HG.out; have z2 := hb2.size; try simp only [World.size_alloc] at z2) | go_in)
      go_ret2
      exact OptPost.no (by (repeat' (first | (with_reducible exact Below.refl _ _) | (with_reducible refine Below.alloc ?_ ?_ _) | (with_reducible refine Below.drew ?_) | (with_reducible refine Below.setCell ?_ ?_ _) | (with_reducible refine below_drewN ?_ _) | (refine Below.trans ?_ (Below.mono (by assumption) ?_)) | go_size))) HR.out
    | some v =>
      have HR : Hid (grossO a b r = some v) := by show _ = _; rw [hg, ha]
      have HG := Lib.hid ha; clear ha hg
      go_enter Try.func13, Try.ntmps13
      go_wp2_with (first | (go_at_call 12; refine Calls.mono (feer_any a b r _) ?_; rintro e w1 h1; obtain ⟨rfl, hb1⟩ := opt_some h1 HF.out; have z1 := hb1.size; try simp only [World.size_alloc] at z1) | (go_at_call 20; refine Calls.mono (addr_any _ _ _) ?_; rintro e w2 h2; obtain ⟨rfl, hb2⟩ := opt_some h2 HG.out; have z2 := hb2.size; try simp only [World.size_alloc] at z2) | go_in)
      go_ret2
      exact OptPost.yes (by (repeat' (first | (with_reducible exact Below.refl _ _) | (with_reducible refine Below.alloc ?_ ?_ _) | (with_reducible refine Below.drew ?_) | (with_reducible refine Below.setCell ?_ ?_ _) | (with_reducible refine below_drewN ?_ _) | (refine Below.trans ?_ (Below.mono (by assumption) ?_)) | go_size))) HR.out

set_option maxHeartbeats 1000000 in
theorem cost_bad (a b : Int) (h : ¬ (0 ≤ a ∧ a ≤ 2100000000000000 ∧ 0 ≤ b ∧ b ≤ 2100000000000000)) (w : World) : Calls Try.prog 11 #[.int .i64 a, .int .i64 b] w (OptPost (costO a b) w) := by
  have HO : Hid (costO a b = none) := by show _ = _; simp only [costO]; rw [if_neg (by omega)]
  by_cases n0 : 0 ≤ a
  rotate_left
  · go_enter Try.func11, Try.ntmps11
    go_wp2
    go_ret2
    exact OptPost.no (by (repeat' (first | (with_reducible exact Below.refl _ _) | (with_reducible refine Below.alloc ?_ ?_ _) | (with_reducible refine Below.drew ?_) | (with_reducible refine Below.setCell ?_ ?_ _) | (with_reducible refine below_drewN ?_ _) | (refine Below.trans ?_ (Below.mono (by assumption) ?_)) | go_size))) HO.out
  by_cases n1 : a ≤ 2100000000000000
  rotate_left
  · go_enter Try.func11, Try.ntmps11
    go_wp2
    go_ret2
    exact OptPost.no (by (repeat' (first | (with_reducible exact Below.refl _ _) | (with_reducible refine Below.alloc ?_ ?_ _) | (with_reducible refine Below.drew ?_) | (with_reducible refine Below.setCell ?_ ?_ _) | (with_reducible refine below_drewN ?_ _) | (refine Below.trans ?_ (Below.mono (by assumption) ?_)) | go_size))) HO.out
  by_cases n2 : 0 ≤ b
  rotate_left
  · go_enter Try.func11, Try.ntmps11
    go_wp2
    go_ret2
    exact OptPost.no (by (repeat' (first | (with_reducible exact Below.refl _ _) | (with_reducible refine Below.alloc ?_ ?_ _) | (with_reducible refine Below.drew ?_) | (with_reducible refine Below.setCell ?_ ?_ _) | (with_reducible refine below_drewN ?_ _) | (refine Below.trans ?_ (Below.mono (by assumption) ?_)) | go_size))) HO.out
  by_cases n3 : b ≤ 2100000000000000
  rotate_left
  · go_enter Try.func11, Try.ntmps11
    go_wp2
    go_ret2
    exact OptPost.no (by (repeat' (first | (with_reducible exact Below.refl _ _) | (with_reducible refine Below.alloc ?_ ?_ _) | (with_reducible refine Below.drew ?_) | (with_reducible refine Below.setCell ?_ ?_ _) | (with_reducible refine below_drewN ?_ _) | (refine Below.trans ?_ (Below.mono (by assumption) ?_)) | go_size))) HO.out
  exfalso; omega

set_option maxHeartbeats 1000000 in
theorem costr_bad (a b : Int) (h : ¬ (0 ≤ a ∧ a ≤ 2100000000000000 ∧ 0 ≤ b ∧ b ≤ 2100000000000000)) (w : World) : Calls Try.prog 14 #[.int .i64 a, .int .i64 b] w (OptPost (costO a b) w) := by
  have HO : Hid (costO a b = none) := by show _ = _; simp only [costO]; rw [if_neg (by omega)]
  by_cases n0 : 0 ≤ a
  rotate_left
  · go_enter Try.func14, Try.ntmps14
    go_wp2
    go_ret2
    exact OptPost.no (by (repeat' (first | (with_reducible exact Below.refl _ _) | (with_reducible refine Below.alloc ?_ ?_ _) | (with_reducible refine Below.drew ?_) | (with_reducible refine Below.setCell ?_ ?_ _) | (with_reducible refine below_drewN ?_ _) | (refine Below.trans ?_ (Below.mono (by assumption) ?_)) | go_size))) HO.out
  by_cases n1 : a ≤ 2100000000000000
  rotate_left
  · go_enter Try.func14, Try.ntmps14
    go_wp2
    go_ret2
    exact OptPost.no (by (repeat' (first | (with_reducible exact Below.refl _ _) | (with_reducible refine Below.alloc ?_ ?_ _) | (with_reducible refine Below.drew ?_) | (with_reducible refine Below.setCell ?_ ?_ _) | (with_reducible refine below_drewN ?_ _) | (refine Below.trans ?_ (Below.mono (by assumption) ?_)) | go_size))) HO.out
  by_cases n2 : 0 ≤ b
  rotate_left
  · go_enter Try.func14, Try.ntmps14
    go_wp2
    go_ret2
    exact OptPost.no (by (repeat' (first | (with_reducible exact Below.refl _ _) | (with_reducible refine Below.alloc ?_ ?_ _) | (with_reducible refine Below.drew ?_) | (with_reducible refine Below.setCell ?_ ?_ _) | (with_reducible refine below_drewN ?_ _) | (refine Below.trans ?_ (Below.mono (by assumption) ?_)) | go_size))) HO.out
  by_cases n3 : b ≤ 2100000000000000
  rotate_left
  · go_enter Try.func14, Try.ntmps14
    go_wp2
    go_ret2
    exact OptPost.no (by (repeat' (first | (with_reducible exact Below.refl _ _) | (with_reducible refine Below.alloc ?_ ?_ _) | (with_reducible refine Below.drew ?_) | (with_reducible refine Below.setCell ?_ ?_ _) | (with_reducible refine below_drewN ?_ _) | (refine Below.trans ?_ (Below.mono (by assumption) ?_)) | go_size))) HO.out
  exfalso; omega

set_option maxHeartbeats 1000000 in
theorem cost_q (a b : Int) (a0 : 0 ≤ a) (a1 : a ≤ 2100000000000000) (b0 : 0 ≤ b) (b1 : b ≤ 2100000000000000) (w : World) :
    Calls Try.prog 11 #[.int .i64 a, .int .i64 b] w (OptPost (costO a b) w) := by
  obtain ⟨hi, lo, q, rr, hp, hi0, lo0, lo1, hq, rr0, rr1, hqq, q0⟩ := parts (a * b) 1000 (Int.mul_nonneg a0 b0) (by omega)
  have HM := fun w => mul_any a b hi lo a0 (by omega) b0 (by omega) lo0 lo1 hp w
  have HD := fun h1 w => divB hi lo q rr hi0 h1 lo0 lo1 rr0 rr1 hq w
  have ho : costO a b = if q ≤ 2100000000000000 then some q else none := by
    simp only [costO, hqq, a0, a1, b0, b1, true_and]
  replace HM := Lib.hid HM; replace HD := Lib.hid HD; have HO := Lib.hid ho; have HQ := Lib.hid hq; clear hp lo1 hq hqq ho
  by_cases h1 : hi < 1000
  · replace HD := Lib.hid (HD.out h1)
    by_cases q1 : q ≤ 2100000000000000
    · have HF : Hid (costO a b = some q) := by show _ = _; rw [HO.out, if_pos q1]
      go_enter Try.func11, Try.ntmps11
      go_wp2_with (first | (go_at_call 34; refine (HM.out _).mono ?_; rintro e w' ⟨rfl, rfl⟩) | (go_at_call 35; refine (HD.out _).mono ?_; rintro e w1 ⟨rfl, hb⟩; have z1 := hb.size; simp only [World.size_alloc] at z1) | go_in)
      go_ret2
      exact OptPost.yes (by (repeat' (first | (with_reducible exact Below.refl _ _) | (with_reducible refine Below.alloc ?_ ?_ _) | (with_reducible refine Below.drew ?_) | (with_reducible refine Below.setCell ?_ ?_ _) | (with_reducible refine below_drewN ?_ _) | (refine Below.trans ?_ (Below.mono (by assumption) ?_)) | go_size))) HF.out
    · have qb : decide (q ≤ 2100000000000000) = false := by simp; omega
      have HF : Hid (costO a b = none) := by show _ = _; rw [HO.out, if_neg q1]
      by_cases q3 : q ≤ 9223372036854775807
      all_goals
        go_enter Try.func11, Try.ntmps11
        go_wp2_with (first | (go_at_call 34; refine (HM.out _).mono ?_; rintro e w' ⟨rfl, rfl⟩) | (go_at_call 35; refine (HD.out _).mono ?_; rintro e w1 ⟨rfl, hb⟩; have z1 := hb.size; simp only [World.size_alloc] at z1) | go_in)
        go_ret2
        exact OptPost.no (by (repeat' (first | (with_reducible exact Below.refl _ _) | (with_reducible refine Below.alloc ?_ ?_ _) | (with_reducible refine Below.drew ?_) | (with_reducible refine Below.setCell ?_ ?_ _) | (with_reducible refine below_drewN ?_ _) | (refine Below.trans ?_ (Below.mono (by assumption) ?_)) | go_size))) HF.out
  · have : ¬ (q ≤ 2100000000000000) := by have := HQ.out; omega
    have ho := HO.out; rw [if_neg this] at ho; clear this
    have HN := Lib.hid ho; clear ho
    go_enter Try.func11, Try.ntmps11
    go_wp2_with (first | (go_at_call 34; refine (HM.out _).mono ?_; rintro e w' ⟨rfl, rfl⟩) | go_in)
    go_ret2
    exact OptPost.no (by (repeat' (first | (with_reducible exact Below.refl _ _) | (with_reducible refine Below.alloc ?_ ?_ _) | (with_reducible refine Below.drew ?_) | (with_reducible refine Below.setCell ?_ ?_ _) | (with_reducible refine below_drewN ?_ _) | (refine Below.trans ?_ (Below.mono (by assumption) ?_)) | go_size))) HN.out
theorem cost_any (a b : Int) (w : World) : Calls Try.prog 11 #[.int .i64 a, .int .i64 b] w (OptPost (costO a b) w) := by
  by_cases h : 0 ≤ a ∧ a ≤ 2100000000000000 ∧ 0 ≤ b ∧ b ≤ 2100000000000000
  · exact cost_q a b h.1 h.2.1 h.2.2.1 h.2.2.2 w
  · exact cost_bad a b h w
set_option maxHeartbeats 1000000 in
theorem costr_q (a b : Int) (a0 : 0 ≤ a) (a1 : a ≤ 2100000000000000) (b0 : 0 ≤ b) (b1 : b ≤ 2100000000000000) (w : World) :
    Calls Try.prog 14 #[.int .i64 a, .int .i64 b] w (OptPost (costO a b) w) := by
  have HS := Lib.hid (share_b a b a0 (by omega) b0 (by omega) w)
  obtain ⟨q, hq⟩ : ∃ q, a * b / 1000 = q := ⟨_, rfl⟩
  have ho : costO a b = if q ≤ 2100000000000000 then some q else none := by
    simp only [costO, hq, a0, a1, b0, b1, true_and]
  have q0 : 0 ≤ q := by rw [← hq]; exact Int.ediv_nonneg (Int.mul_nonneg a0 b0) (by omega)
  have HQ := Lib.hid hq; clear hq
  by_cases q1 : q ≤ 2100000000000000000
  · by_cases q2 : q ≤ 2100000000000000
    · have HF : Hid (costO a b = some q) := by show _ = _; rw [ho, if_pos q2]
      clear ho
      go_enter Try.func14, Try.ntmps14
      go_wp2_with (first | (go_at_call 32; refine Calls.mono HS.out ?_; rintro e w1 ⟨hb, hy, hn⟩; rw [HQ.out] at hy; obtain rfl := hy q1; clear hy hn) | go_in)
      go_ret2
      exact OptPost.yes (by (repeat' (first | (with_reducible exact Below.refl _ _) | (with_reducible refine Below.alloc ?_ ?_ _) | (with_reducible refine Below.drew ?_) | (with_reducible refine Below.setCell ?_ ?_ _) | (with_reducible refine below_drewN ?_ _) | (refine Below.trans ?_ (Below.mono (by assumption) ?_)) | go_size))) HF.out
    · have HF : Hid (costO a b = none) := by show _ = _; rw [ho, if_neg q2]
      clear ho
      have qb : decide (q ≤ 2100000000000000) = false := by simp; omega
      go_enter Try.func14, Try.ntmps14
      go_wp2_with (first | (go_at_call 32; refine Calls.mono HS.out ?_; rintro e w1 ⟨hb, hy, hn⟩; rw [HQ.out] at hy; obtain rfl := hy q1; clear hy hn) | go_in)
      go_ret2
      exact OptPost.no (by (repeat' (first | (with_reducible exact Below.refl _ _) | (with_reducible refine Below.alloc ?_ ?_ _) | (with_reducible refine Below.drew ?_) | (with_reducible refine Below.setCell ?_ ?_ _) | (with_reducible refine below_drewN ?_ _) | (refine Below.trans ?_ (Below.mono (by assumption) ?_)) | go_size))) HF.out
  · have HF : Hid (costO a b = none) := by show _ = _; rw [ho, if_neg (by omega)]
    clear ho
    go_enter Try.func14, Try.ntmps14
    go_wp2_with (first | (go_at_call 32; refine Calls.mono HS.out ?_; rintro e w1 ⟨hb, hy, hn⟩; rw [HQ.out] at hn; obtain ⟨z, rfl⟩ := hn (by omega); clear hy hn) | go_in)
    go_ret2
    exact OptPost.no (by (repeat' (first | (with_reducible exact Below.refl _ _) | (with_reducible refine Below.alloc ?_ ?_ _) | (with_reducible refine Below.drew ?_) | (with_reducible refine Below.setCell ?_ ?_ _) | (with_reducible refine below_drewN ?_ _) | (refine Below.trans ?_ (Below.mono (by assumption) ?_)) | go_size))) HF.out
theorem costr_any (a b : Int) (w : World) : Calls Try.prog 14 #[.int .i64 a, .int .i64 b] w (OptPost (costO a b) w) := by
  by_cases h : 0 ≤ a ∧ a ≤ 2100000000000000 ∧ 0 ≤ b ∧ b ≤ 2100000000000000
  · exact costr_q a b h.1 h.2.1 h.2.2.1 h.2.2.2 w
  · exact costr_bad a b h w

end Go.Proofs.Ytmpgbflhhdhbpaa
