/- The walks of the money functions: what each computes. -/
import Derived.Test.YtjdbnaedlljfhaaRows
import Derived.Test.YtjdbnaedlljfhaaMath
import Derived.Test.YtjdbnaedlljfhaaDiv
import Derived.Test.YtjdbnaedlljfhaaShare
import Derived.Test.YtjdbnaedlljfhaaShelf
import Derived.Test.YtjdbnaedlljfhaaWalk1
import Derived.Test.YtjdbnaedlljfhaaWalk2
import Derived.WalkKit
import Derived.WalkSpells
import Derived.WalkLawsBesides
import Derived.Handy
import Derived.Deep.QuietTactic
import Derived.BigQuiet
namespace Go.Proofs.Ytjdbnaedlljfhaa
open Go.RowKit
attribute [local go_sem] field44

set_option maxHeartbeats 1000000 in
theorem fee_bad (a b r : Int) (h : ¬ (0 ≤ a ∧ a ≤ 2100000000000000000 ∧ 0 ≤ b ∧ b ≤ 2100000000000000000 ∧ 0 ≤ r ∧ r ≤ 2100000000000000000)) (w : World) : Calls Try.prog 12 #[.int .i64 a, .int .i64 b, .int .i64 r] w (OptPost (feeO a b r) w) := by
  have HO : Hid (feeO a b r = none) := by show _ = _; simp only [feeO]; rw [if_neg (by omega)]
  by_cases n0 : 0 ≤ a
  rotate_left
  · go_enter Try.func12, Try.ntmps12
    go_wp2
    go_ret2
    exact OptPost.no (by (repeat' (first | (with_reducible exact Below.refl _ _) | (with_reducible refine Below.alloc ?_ ?_ _) | (with_reducible refine Below.drew ?_) | (with_reducible refine Below.setCell ?_ ?_ _) | (with_reducible refine below_drewN ?_ _) | (refine Below.trans ?_ (Below.mono (by assumption) ?_)) | go_size))) HO.out
  by_cases n1 : a ≤ 2100000000000000000
  rotate_left
  · go_enter Try.func12, Try.ntmps12
    go_wp2
    go_ret2
    exact OptPost.no (by (repeat' (first | (with_reducible exact Below.refl _ _) | (with_reducible refine Below.alloc ?_ ?_ _) | (with_reducible refine Below.drew ?_) | (with_reducible refine Below.setCell ?_ ?_ _) | (with_reducible refine below_drewN ?_ _) | (refine Below.trans ?_ (Below.mono (by assumption) ?_)) | go_size))) HO.out
  by_cases n2 : 0 ≤ b
  rotate_left
  · go_enter Try.func12, Try.ntmps12
    go_wp2
    go_ret2
    exact OptPost.no (by (repeat' (first | (with_reducible exact Below.refl _ _) | (with_reducible refine Below.alloc ?_ ?_ _) | (with_reducible refine Below.drew ?_) | (with_reducible refine Below.setCell ?_ ?_ _) | (with_reducible refine below_drewN ?_ _) | (refine Below.trans ?_ (Below.mono (by assumption) ?_)) | go_size))) HO.out
  by_cases n3 : b ≤ 2100000000000000000
  rotate_left
  · go_enter Try.func12, Try.ntmps12
    go_wp2
    go_ret2
    exact OptPost.no (by (repeat' (first | (with_reducible exact Below.refl _ _) | (with_reducible refine Below.alloc ?_ ?_ _) | (with_reducible refine Below.drew ?_) | (with_reducible refine Below.setCell ?_ ?_ _) | (with_reducible refine below_drewN ?_ _) | (refine Below.trans ?_ (Below.mono (by assumption) ?_)) | go_size))) HO.out
  by_cases n4 : 0 ≤ r
  rotate_left
  · go_enter Try.func12, Try.ntmps12
    go_wp2
    go_ret2
    exact OptPost.no (by (repeat' (first | (with_reducible exact Below.refl _ _) | (with_reducible refine Below.alloc ?_ ?_ _) | (with_reducible refine Below.drew ?_) | (with_reducible refine Below.setCell ?_ ?_ _) | (with_reducible refine below_drewN ?_ _) | (refine Below.trans ?_ (Below.mono (by assumption) ?_)) | go_size))) HO.out
  by_cases n5 : r ≤ 2100000000000000000
  rotate_left
  · go_enter Try.func12, Try.ntmps12
    go_wp2
    go_ret2
    exact OptPost.no (by (repeat' (first | (with_reducible exact Below.refl _ _) | (with_reducible refine Below.alloc ?_ ?_ _) | (with_reducible refine Below.drew ?_) | (with_reducible refine Below.setCell ?_ ?_ _) | (with_reducible refine below_drewN ?_ _) | (refine Below.trans ?_ (Below.mono (by assumption) ?_)) | go_size))) HO.out
  exfalso; omega

set_option maxHeartbeats 1000000 in
theorem feer_bad (a b r : Int) (h : ¬ (0 ≤ a ∧ a ≤ 2100000000000000000 ∧ 0 ≤ b ∧ b ≤ 2100000000000000000 ∧ 0 ≤ r ∧ r ≤ 2100000000000000000)) (w : World) : Calls Try.prog 43 #[.int .i64 a, .int .i64 b, .int .i64 r] w (OptPost (feeO a b r) w) := by
  have HO : Hid (feeO a b r = none) := by show _ = _; simp only [feeO]; rw [if_neg (by omega)]
  by_cases n0 : 0 ≤ a
  rotate_left
  · go_enter Try.func43, Try.ntmps43
    go_wp2
    go_ret2
    exact OptPost.no (by (repeat' (first | (with_reducible exact Below.refl _ _) | (with_reducible refine Below.alloc ?_ ?_ _) | (with_reducible refine Below.drew ?_) | (with_reducible refine Below.setCell ?_ ?_ _) | (with_reducible refine below_drewN ?_ _) | (refine Below.trans ?_ (Below.mono (by assumption) ?_)) | go_size))) HO.out
  by_cases n1 : a ≤ 2100000000000000000
  rotate_left
  · go_enter Try.func43, Try.ntmps43
    go_wp2
    go_ret2
    exact OptPost.no (by (repeat' (first | (with_reducible exact Below.refl _ _) | (with_reducible refine Below.alloc ?_ ?_ _) | (with_reducible refine Below.drew ?_) | (with_reducible refine Below.setCell ?_ ?_ _) | (with_reducible refine below_drewN ?_ _) | (refine Below.trans ?_ (Below.mono (by assumption) ?_)) | go_size))) HO.out
  by_cases n2 : 0 ≤ b
  rotate_left
  · go_enter Try.func43, Try.ntmps43
    go_wp2
    go_ret2
    exact OptPost.no (by (repeat' (first | (with_reducible exact Below.refl _ _) | (with_reducible refine Below.alloc ?_ ?_ _) | (with_reducible refine Below.drew ?_) | (with_reducible refine Below.setCell ?_ ?_ _) | (with_reducible refine below_drewN ?_ _) | (refine Below.trans ?_ (Below.mono (by assumption) ?_)) | go_size))) HO.out
  by_cases n3 : b ≤ 2100000000000000000
  rotate_left
  · go_enter Try.func43, Try.ntmps43
    go_wp2
    go_ret2
    exact OptPost.no (by (repeat' (first | (with_reducible exact Below.refl _ _) | (with_reducible refine Below.alloc ?_ ?_ _) | (with_reducible refine Below.drew ?_) | (with_reducible refine Below.setCell ?_ ?_ _) | (with_reducible refine below_drewN ?_ _) | (refine Below.trans ?_ (Below.mono (by assumption) ?_)) | go_size))) HO.out
  by_cases n4 : 0 ≤ r
  rotate_left
  · go_enter Try.func43, Try.ntmps43
    go_wp2
    go_ret2
    exact OptPost.no (by (repeat' (first | (with_reducible exact Below.refl _ _) | (with_reducible refine Below.alloc ?_ ?_ _) | (with_reducible refine Below.drew ?_) | (with_reducible refine Below.setCell ?_ ?_ _) | (with_reducible refine below_drewN ?_ _) | (refine Below.trans ?_ (Below.mono (by assumption) ?_)) | go_size))) HO.out
  by_cases n5 : r ≤ 2100000000000000000
  rotate_left
  · go_enter Try.func43, Try.ntmps43
    go_wp2
    go_ret2
    exact OptPost.no (by (repeat' (first | (with_reducible exact Below.refl _ _) | (with_reducible refine Below.alloc ?_ ?_ _) | (with_reducible refine Below.drew ?_) | (with_reducible refine Below.setCell ?_ ?_ _) | (with_reducible refine below_drewN ?_ _) | (refine Below.trans ?_ (Below.mono (by assumption) ?_)) | go_size))) HO.out
  exfalso; omega

theorem fee_any (a b r : Int) (w : World) : Calls Try.prog 12 #[.int .i64 a, .int .i64 b, .int .i64 r] w (OptPost (feeO a b r) w) := by
  by_cases h : 0 ≤ a ∧ a ≤ 2100000000000000000 ∧ 0 ≤ b ∧ b ≤ 2100000000000000000 ∧ 0 ≤ r ∧ r ≤ 2100000000000000000
  · exact fee_q a b r h.1 h.2.1 h.2.2.1 h.2.2.2.1 h.2.2.2.2.1 h.2.2.2.2.2 w
  · exact fee_bad a b r h w

set_option maxHeartbeats 1000000 in
theorem feer_q (a b r : Int) (a0 : 0 ≤ a) (a1 : a ≤ 2100000000000000000) (b0 : 0 ≤ b) (b1 : b ≤ 2100000000000000000) (r0 : 0 ≤ r) (r1 : r ≤ 2100000000000000000) (w : World) :
    Calls Try.prog 43 #[.int .i64 a, .int .i64 b, .int .i64 r] w (OptPost (feeO a b r) w) := by
  have HS := Lib.hid (share_a a r a0 a1 r0 r1 w)
  obtain ⟨q, hq⟩ : ∃ q, a * r / 1000000 = q := ⟨_, rfl⟩
  have ho : feeO a b r = if b + q ≤ 2100000000000000000 then some (b + q) else none := by
    simp only [feeO, hq, a0, a1, b0, b1, r0, r1, true_and]
  have q0 : 0 ≤ q := by rw [← hq]; exact Int.ediv_nonneg (Int.mul_nonneg a0 r0) (by omega)
  have HQ := Lib.hid hq; clear hq
  by_cases q1 : q ≤ 2100000000000000000
  · by_cases q2 : b + q ≤ 2100000000000000000
    · have HF : Hid (feeO a b r = some (b + q)) := by show _ = _; rw [ho, if_pos q2]
      clear ho
      go_enter Try.func43, Try.ntmps43
      go_wp2_with (first | (go_at_call 47; refine Calls.mono HS.out ?_; rintro e w1 ⟨hb, hy, hn⟩; rw [HQ.out] at hy; obtain rfl := hy q1; clear hy hn) | go_in)
      go_ret2
      exact OptPost.yes (by (repeat' (first | (with_reducible exact Below.refl _ _) | (with_reducible refine Below.alloc ?_ ?_ _) | (with_reducible refine Below.drew ?_) | (with_reducible refine Below.setCell ?_ ?_ _) | (with_reducible refine below_drewN ?_ _) | (refine Below.trans ?_ (Below.mono (by assumption) ?_)) | go_size))) HF.out
    · have HF : Hid (feeO a b r = none) := by show _ = _; rw [ho, if_neg q2]
      clear ho
      go_enter Try.func43, Try.ntmps43
      go_wp2_with (first | (go_at_call 47; refine Calls.mono HS.out ?_; rintro e w1 ⟨hb, hy, hn⟩; rw [HQ.out] at hy; obtain rfl := hy q1; clear hy hn) | go_in)
      go_ret2
      exact OptPost.no (by (repeat' (first | (with_reducible exact Below.refl _ _) | (with_reducible refine Below.alloc ?_ ?_ _) | (with_reducible refine Below.drew ?_) | (with_reducible refine Below.setCell ?_ ?_ _) | (with_reducible refine below_drewN ?_ _) | (refine Below.trans ?_ (Below.mono (by assumption) ?_)) | go_size))) HF.out
  · have HF : Hid (feeO a b r = none) := by show _ = _; rw [ho, if_neg (by omega)]
    clear ho
    go_enter Try.func43, Try.ntmps43
    go_wp2_with (first | (go_at_call 47; refine Calls.mono HS.out ?_; rintro e w1 ⟨hb, hy, hn⟩; rw [HQ.out] at hn; obtain ⟨z, rfl⟩ := hn (by omega); clear hy hn) | go_in)
    go_ret2
    exact OptPost.no (by (repeat' (first | (with_reducible exact Below.refl _ _) | (with_reducible refine Below.alloc ?_ ?_ _) | (with_reducible refine Below.drew ?_) | (with_reducible refine Below.setCell ?_ ?_ _) | (with_reducible refine below_drewN ?_ _) | (refine Below.trans ?_ (Below.mono (by assumption) ?_)) | go_size))) HF.out
theorem feer_any (a b r : Int) (w : World) : Calls Try.prog 43 #[.int .i64 a, .int .i64 b, .int .i64 r] w (OptPost (feeO a b r) w) := by
  by_cases h : 0 ≤ a ∧ a ≤ 2100000000000000000 ∧ 0 ≤ b ∧ b ≤ 2100000000000000000 ∧ 0 ≤ r ∧ r ≤ 2100000000000000000
  · exact feer_q a b r h.1 h.2.1 h.2.2.1 h.2.2.2.1 h.2.2.2.2.1 h.2.2.2.2.2 w
  · exact feer_bad a b r h w

/-- a sum of two numbers that lie in a new row -/
theorem sum_two (a b : Int) (o : Option Int) (ho : sumGo 0 [a, b] = o) (w : World) (bb : Nat) (c0 : w.cell? ⟨bb, 0, none⟩ = some (.int .i64 a)) (c1 : w.cell? ⟨bb, 1, none⟩ = some (.int .i64 b)) :
    Calls Try.prog 36 #[.slice (some ⟨bb, 0, none⟩) 2 2] w (OptPost o w) := by
  refine sum_any bb 0 2 [a, b] o w (by simp) ho ?_
  intro j hj
  match j, hj with
  | 0, _ => simpa using c0
  | 1, _ => simpa using c1
theorem sumGo_two (a b : Int) : sumGo 0 [a, b] = addO a b := by
  simp only [sumGo, addO]
  split
  · rename_i h; split
    · rename_i h2; rw [if_pos (by omega)]; simp
    · rename_i h2; rw [if_neg (by omega)]
  · rename_i h; rw [if_neg (by omega)]

end Go.Proofs.Ytjdbnaedlljfhaa
