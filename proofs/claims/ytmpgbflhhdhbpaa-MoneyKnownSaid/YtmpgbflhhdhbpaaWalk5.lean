/- The walks of the money functions: what each computes. -/
import Derived.Test.YtmpgbflhhdhbpaaRows
import Derived.Test.YtmpgbflhhdhbpaaMath
import Derived.Test.YtmpgbflhhdhbpaaDiv
import Derived.Test.YtmpgbflhhdhbpaaShare
import Derived.Test.YtmpgbflhhdhbpaaShelf
import Derived.Test.YtmpgbflhhdhbpaaWalk1
import Derived.Test.YtmpgbflhhdhbpaaWalk2
import Derived.Test.YtmpgbflhhdhbpaaWalk3
import Derived.Test.YtmpgbflhhdhbpaaWalk4
import Derived.WalkKit
import Derived.WalkSpells
import Derived.WalkLawsBesides
import Derived.Handy
import Derived.Deep.QuietTactic
import Derived.BigQuiet
namespace Go.Proofs.Ytmpgbflhhdhbpaa
open Go.RowKit

theorem sum_three (w : World) (bb : Nat) (c0 : w.cell? ⟨bb, 0, none⟩ = some (.int .i64 1)) (c1 : w.cell? ⟨bb, 1, none⟩ = some (.int .i64 2)) (c2 : w.cell? ⟨bb, 2, none⟩ = some (.int .i64 3)) :
    Calls Try.prog 19 #[.slice (some ⟨bb, 0, none⟩) 3 3] w (OptPost (some 6) w) := by
  refine sum_any bb 0 3 [1, 2, 3] (some 6) w (by simp) (by decide) ?_
  intro j hj
  match j, hj with
  | 0, _ => simpa using c0
  | 1, _ => simpa using c1
  | 2, _ => simpa using c2
theorem wf1 : feeO 1000000 1000 100 = some 1100 := by decide
theorem wf2 : grossO 1000000 1000 100 = some 1001100 := by decide
theorem wf3 : costO 253 724 = some 183 := by decide

def TruePost (w : World) (e : Ending) (w' : World) : Prop := e = .returned (.bool true) ∧ Below w.heap.size w w'
set_option maxHeartbeats 1000000 in
theorem works_any (w : World) : Calls Try.prog 15 #[] w (TruePost w) := by
  go_enter Try.func15, Try.ntmps15
  go_wp2_with (first | (go_at_call 9; (with_reducible refine Calls.mono (fee_any 1000000 1000 100 _) ?_); rintro e w1 k1; obtain ⟨rfl, hb1⟩ := opt_some k1 wf1; clear k1; have z1 := hb1.size; try simp only [World.size_alloc] at z1) | (go_at_call 10; (with_reducible refine Calls.mono (gross_any 1000000 1000 100 _) ?_); rintro e w2 k2; obtain ⟨rfl, hb2⟩ := opt_some k2 wf2; clear k2; have z2 := hb2.size; try simp only [World.size_alloc] at z2) | (go_at_call 11; (with_reducible refine Calls.mono (cost_any 253 724 _) ?_); rintro e w3 k3; obtain ⟨rfl, hb3⟩ := opt_some k3 wf3; clear k3; have z3 := hb3.size; try simp only [World.size_alloc] at z3) | (go_at_call 19; (with_reducible refine Calls.mono (sum_three _ _ (by go_cell) (by go_cell) (by go_cell)) ?_); rintro e w4 k4; obtain ⟨rfl, hb4⟩ := opt_some k4 rfl; clear k4; have z4 := hb4.size; try simp only [World.size_alloc] at z4) | go_in)
  go_ret
  exact ⟨rfl, by (repeat' (first | (with_reducible exact Below.refl _ _) | (with_reducible refine Below.alloc ?_ ?_ _) | (with_reducible refine Below.drew ?_) | (with_reducible refine Below.setCell ?_ ?_ _) | (with_reducible refine below_drewN ?_ _) | (refine Below.trans ?_ (Below.mono (by assumption) ?_)) | go_size))⟩

end Go.Proofs.Ytmpgbflhhdhbpaa
