/- The walks of relay.Check and of the document's Check. -/
import Derived.Test.YtjdbnaedlljfhaaRows
import Derived.Test.YtjdbnaedlljfhaaMath
import Derived.Test.YtjdbnaedlljfhaaDiv
import Derived.Test.YtjdbnaedlljfhaaShare
import Derived.Test.YtjdbnaedlljfhaaShelf
import Derived.Test.YtjdbnaedlljfhaaWalk1
import Derived.Test.YtjdbnaedlljfhaaWalk2
import Derived.Test.YtjdbnaedlljfhaaWalk3
import Derived.Test.YtjdbnaedlljfhaaWalk4
import Derived.WalkKit
import Derived.WalkSpells
import Derived.WalkLawsBesides
import Derived.Handy
import Derived.Deep.QuietTactic
import Derived.BigQuiet
namespace Go.Proofs.Ytjdbnaedlljfhaa
open Go.RowKit

def timeB (n : Int) : Prop := 0 ≤ n ∧ n < 2147483648
/-- what the outcome of a check is -/
def checkE (base rate delta mn mx : Int) (off : Bool) (ia ie oa oe ht mg : Int) : Int :=
  if ¬ (0 ≤ ie ∧ ie < 2147483648 ∧ 0 ≤ oe ∧ oe < 2147483648 ∧ 0 ≤ ht ∧ ht < 2147483648 ∧ 0 ≤ mg ∧ mg < 2147483648 ∧ 0 ≤ delta ∧ delta < 2147483648) then 2
  else if ¬ (0 ≤ ia ∧ ia ≤ 2100000000000000000 ∧ 0 ≤ oa ∧ oa ≤ 2100000000000000000) then 40
  else if off = true then 242
  else if oa < 1 ∨ oa < mn ∨ mx < oa then 233
  else match grossO oa base rate with
    | none => 240
    | some g => if ia < g then 240 else if ie - oe < delta ∨ oe - ht ≤ mg then 241 else 0
theorem shr_ok (n : Int) (h0 : 0 ≤ n) (h1 : n < 2147483648) : (n / 2147483648 != 0) = false := by
  have : n / 2147483648 = 0 := by omega
  rw [this]; rfl
theorem shr_bad (n : Int) (h : ¬ (0 ≤ n ∧ n < 2147483648)) : (n / 2147483648 != 0) = true := by
  simp only [bne_iff_ne, ne_eq]; omega
theorem idx0 (a b c d e : Int) (w : World) : (Instr.index 94 (.agg #[.int .i64 a, .int .i64 b, .int .i64 c, .int .i64 d, .int .i64 e]) (.int .i64 0)).run Try.prog w = .ok (.int .i64 a) w := by kernel_rfl
attribute [local go_sem] idx0
theorem idx1 (a b c d e : Int) (w : World) : (Instr.index 94 (.agg #[.int .i64 a, .int .i64 b, .int .i64 c, .int .i64 d, .int .i64 e]) (.int .i64 1)).run Try.prog w = .ok (.int .i64 b) w := by kernel_rfl
attribute [local go_sem] idx1
theorem idx2 (a b c d e : Int) (w : World) : (Instr.index 94 (.agg #[.int .i64 a, .int .i64 b, .int .i64 c, .int .i64 d, .int .i64 e]) (.int .i64 2)).run Try.prog w = .ok (.int .i64 c) w := by kernel_rfl
attribute [local go_sem] idx2
theorem idx3 (a b c d e : Int) (w : World) : (Instr.index 94 (.agg #[.int .i64 a, .int .i64 b, .int .i64 c, .int .i64 d, .int .i64 e]) (.int .i64 3)).run Try.prog w = .ok (.int .i64 d) w := by kernel_rfl
attribute [local go_sem] idx3
theorem idx4 (a b c d e : Int) (w : World) : (Instr.index 94 (.agg #[.int .i64 a, .int .i64 b, .int .i64 c, .int .i64 d, .int .i64 e]) (.int .i64 4)).run Try.prog w = .ok (.int .i64 e) w := by kernel_rfl
attribute [local go_sem] idx4
abbrev polV (c f : ByteArray) (stamp base rate delta mn mx : Int) (off : Bool) : Value := .agg #[.string c, .string f, .int .i64 stamp, .int .i64 base, .int .i64 rate, .int .i64 delta, .int .i64 mn, .int .i64 mx, .bool off]
theorem bcell {w w1 : World} {B : Nat} (hb : Below B w w1) : (∀ b o, b < B → w1.cell? ⟨b, o, none⟩ = w.cell? ⟨b, o, none⟩) ∧ (∀ b o, b < B → w1.frozen? ⟨b, o, none⟩ = w.frozen? ⟨b, o, none⟩) :=
  ⟨fun b o h => hb.cell (p := ⟨b, o, none⟩) h, fun b o h => hb.frozen (p := ⟨b, o, none⟩) h⟩
def valO (o : Option Int) : Int := o.getD 0
def errO (o : Option Int) : Int := if o.isSome then 0 else 40
theorem opt_val {o : Option Int} {w : World} {e : Ending} {w' : World} (h : OptPost o w e w') : e = .returned (.tuple #[.int .i64 (valO o), .int .i64 (errO o)]) ∧ Below w.heap.size w w' := by
  obtain ⟨h1, h2, h3⟩ := h
  cases ho : o with
  | none => exact ⟨h3 ho, h1⟩
  | some v => exact ⟨h2 v ho, h1⟩
theorem decB (p : Prop) [Decidable p] (h : p) : decide p = true := by simp [h]
theorem decN (p : Prop) [Decidable p] (h : ¬ p) : decide p = false := by simp [h]

theorem checkE_tail (base rate delta mn mx : Int) (off : Bool) (ia ie oa oe ht mg : Int) (h0 : 0 ≤ ia) (h1 : ia ≤ 2100000000000000000) (h2 : 0 ≤ oa) (h3 : oa ≤ 2100000000000000000) (a0 : 0 ≤ ie) (a1 : ie ≤ 2147483647) (b0 : 0 ≤ oe) (b1 : oe ≤ 2147483647) (c0 : 0 ≤ ht) (c1 : ht ≤ 2147483647) (d0 : 0 ≤ mg) (d1 : mg ≤ 2147483647) (e0 : 0 ≤ delta) (e1 : delta ≤ 2147483647) : checkE base rate delta mn mx off ia ie oa oe ht mg = if off = true then 242 else if oa < 1 ∨ oa < mn ∨ mx < oa then 233 else if errO (grossO oa base rate) = 0 then (if ia < valO (grossO oa base rate) then 240 else if ie - oe < delta ∨ oe - ht ≤ mg then 241 else 0) else 240 := by
  simp only [checkE]
  rw [if_neg (by omega), if_neg (by omega)]
  cases hg : grossO oa base rate with
  | none => simp only [errO, Option.isSome_none, Bool.false_eq_true, ↓reduceIte, Int.reduceEq]
  | some v =>
    simp only [valO, errO, Option.getD_some, Option.isSome_some, ↓reduceIte]
    (repeat' split) <;> first | rfl | (simp_all; done) | omega
theorem checkE_time (base rate delta mn mx : Int) (off : Bool) (ia ie oa oe ht mg : Int) (h : ¬ (0 ≤ ie ∧ ie < 2147483648 ∧ 0 ≤ oe ∧ oe < 2147483648 ∧ 0 ≤ ht ∧ ht < 2147483648 ∧ 0 ≤ mg ∧ mg < 2147483648 ∧ 0 ≤ delta ∧ delta < 2147483648)) : checkE base rate delta mn mx off ia ie oa oe ht mg = 2 := by
  simp only [checkE]; rw [if_pos h]
theorem checkE_money (base rate delta mn mx : Int) (off : Bool) (ia ie oa oe ht mg : Int) (a0 : 0 ≤ ie) (a1 : ie ≤ 2147483647) (b0 : 0 ≤ oe) (b1 : oe ≤ 2147483647) (c0 : 0 ≤ ht) (c1 : ht ≤ 2147483647) (d0 : 0 ≤ mg) (d1 : mg ≤ 2147483647) (e0 : 0 ≤ delta) (e1 : delta ≤ 2147483647) (h : ¬ (0 ≤ ia ∧ ia ≤ 2100000000000000000 ∧ 0 ≤ oa ∧ oa ≤ 2100000000000000000)) : checkE base rate delta mn mx off ia ie oa oe ht mg = 40 := by
  simp only [checkE]; rw [if_neg (by omega), if_pos h]
theorem ret_i {a b : Int} (h : a = b) : Ending.returned (.int .i64 a) = .returned (.int .i64 b) := by rw [h]

set_option maxRecDepth 100000 in
set_option maxHeartbeats 2000000 in
theorem check_time0 (c f : ByteArray) (stamp base rate delta mn mx : Int) (off : Bool) (ia ie oa oe ht mg : Int) (w : World)  (h : ¬ (0 ≤ ie ∧ ie < 2147483648)) : Calls Try.prog 28 #[polV c f stamp base rate delta mn mx off, .int .i64 ia, .int .i64 ie, .int .i64 oa, .int .i64 oe, .int .i64 ht, .int .i64 mg] w fun e w' => e = .returned (.int .i64 (checkE base rate delta mn mx off ia ie oa oe ht mg)) ∧ Below w.heap.size w w' := by
  obtain ⟨out, hout⟩ : ∃ v, checkE base rate delta mn mx off ia ie oa oe ht mg = v := ⟨_, rfl⟩
  rw [hout]
  have HC := Lib.hid (hout.symm.trans <| checkE_time base rate delta mn mx off ia ie oa oe ht mg (by omega))
  clear hout
  have fa := shr_bad ie h
  clear h
  go_enter Try.func28, Try.ntmps28
  go_wp2
  refine wp_loop_rounds 1 ?_
  repeat any_goals (rw [rounds_succ]; go_wp2_with fail)
  all_goals
    go_ret
    exact ⟨ret_i HC.out.symm, by (repeat' (first | (with_reducible exact Below.refl _ _) | (with_reducible refine Below.alloc ?_ ?_ _) | (with_reducible refine Below.drew ?_) | (with_reducible refine Below.setCell ?_ ?_ _) | (with_reducible refine below_drewN ?_ _) | (refine Below.trans ?_ (Below.mono (by assumption) ?_)) | go_size))⟩

set_option maxRecDepth 100000 in
set_option maxHeartbeats 2000000 in
theorem check_time1 (c f : ByteArray) (stamp base rate delta mn mx : Int) (off : Bool) (ia ie oa oe ht mg : Int) (w : World) (a0 : 0 ≤ ie) (a1 : ie ≤ 2147483647) (h : ¬ (0 ≤ oe ∧ oe < 2147483648)) : Calls Try.prog 28 #[polV c f stamp base rate delta mn mx off, .int .i64 ia, .int .i64 ie, .int .i64 oa, .int .i64 oe, .int .i64 ht, .int .i64 mg] w fun e w' => e = .returned (.int .i64 (checkE base rate delta mn mx off ia ie oa oe ht mg)) ∧ Below w.heap.size w w' := by
  obtain ⟨out, hout⟩ : ∃ v, checkE base rate delta mn mx off ia ie oa oe ht mg = v := ⟨_, rfl⟩
  rw [hout]
  have HC := Lib.hid (hout.symm.trans <| checkE_time base rate delta mn mx off ia ie oa oe ht mg (by omega))
  clear hout
  have fa := shr_ok ie (by omega) (by omega)
  have fb := shr_bad oe h
  clear h
  go_enter Try.func28, Try.ntmps28
  go_wp2
  refine wp_loop_rounds 2 ?_
  repeat any_goals (rw [rounds_succ]; go_wp2_with fail)
  all_goals
    go_ret
    exact ⟨ret_i HC.out.symm, by (repeat' (first | (with_reducible exact Below.refl _ _) | (with_reducible refine Below.alloc ?_ ?_ _) | (with_reducible refine Below.drew ?_) | (with_reducible refine Below.setCell ?_ ?_ _) | (with_reducible refine below_drewN ?_ _) | (refine Below.trans ?_ (Below.mono (by assumption) ?_)) | go_size))⟩

set_option maxRecDepth 100000 in
set_option maxHeartbeats 2000000 in
theorem check_time2 (c f : ByteArray) (stamp base rate delta mn mx : Int) (off : Bool) (ia ie oa oe ht mg : Int) (w : World) (a0 : 0 ≤ ie) (a1 : ie ≤ 2147483647) (b0 : 0 ≤ oe) (b1 : oe ≤ 2147483647) (h : ¬ (0 ≤ ht ∧ ht < 2147483648)) : Calls Try.prog 28 #[polV c f stamp base rate delta mn mx off, .int .i64 ia, .int .i64 ie, .int .i64 oa, .int .i64 oe, .int .i64 ht, .int .i64 mg] w fun e w' => e = .returned (.int .i64 (checkE base rate delta mn mx off ia ie oa oe ht mg)) ∧ Below w.heap.size w w' := by
  obtain ⟨out, hout⟩ : ∃ v, checkE base rate delta mn mx off ia ie oa oe ht mg = v := ⟨_, rfl⟩
  rw [hout]
  have HC := Lib.hid (hout.symm.trans <| checkE_time base rate delta mn mx off ia ie oa oe ht mg (by omega))
  clear hout
  have fa := shr_ok ie (by omega) (by omega)
  have fb := shr_ok oe (by omega) (by omega)
  have fc := shr_bad ht h
  clear h
  go_enter Try.func28, Try.ntmps28
  go_wp2
  refine wp_loop_rounds 3 ?_
  repeat any_goals (rw [rounds_succ]; go_wp2_with fail)
  all_goals
    go_ret
    exact ⟨ret_i HC.out.symm, by (repeat' (first | (with_reducible exact Below.refl _ _) | (with_reducible refine Below.alloc ?_ ?_ _) | (with_reducible refine Below.drew ?_) | (with_reducible refine Below.setCell ?_ ?_ _) | (with_reducible refine below_drewN ?_ _) | (refine Below.trans ?_ (Below.mono (by assumption) ?_)) | go_size))⟩

set_option maxRecDepth 100000 in
set_option maxHeartbeats 2000000 in
theorem check_time3 (c f : ByteArray) (stamp base rate delta mn mx : Int) (off : Bool) (ia ie oa oe ht mg : Int) (w : World) (a0 : 0 ≤ ie) (a1 : ie ≤ 2147483647) (b0 : 0 ≤ oe) (b1 : oe ≤ 2147483647) (c0 : 0 ≤ ht) (c1 : ht ≤ 2147483647) (h : ¬ (0 ≤ mg ∧ mg < 2147483648)) : Calls Try.prog 28 #[polV c f stamp base rate delta mn mx off, .int .i64 ia, .int .i64 ie, .int .i64 oa, .int .i64 oe, .int .i64 ht, .int .i64 mg] w fun e w' => e = .returned (.int .i64 (checkE base rate delta mn mx off ia ie oa oe ht mg)) ∧ Below w.heap.size w w' := by
  obtain ⟨out, hout⟩ : ∃ v, checkE base rate delta mn mx off ia ie oa oe ht mg = v := ⟨_, rfl⟩
  rw [hout]
  have HC := Lib.hid (hout.symm.trans <| checkE_time base rate delta mn mx off ia ie oa oe ht mg (by omega))
  clear hout
  have fa := shr_ok ie (by omega) (by omega)
  have fb := shr_ok oe (by omega) (by omega)
  have fc := shr_ok ht (by omega) (by omega)
  have fd := shr_bad mg h
  clear h
  go_enter Try.func28, Try.ntmps28
  go_wp2
  refine wp_loop_rounds 4 ?_
  repeat any_goals (rw [rounds_succ]; go_wp2_with fail)
  all_goals
    go_ret
    exact ⟨ret_i HC.out.symm, by (repeat' (first | (with_reducible exact Below.refl _ _) | (with_reducible refine Below.alloc ?_ ?_ _) | (with_reducible refine Below.drew ?_) | (with_reducible refine Below.setCell ?_ ?_ _) | (with_reducible refine below_drewN ?_ _) | (refine Below.trans ?_ (Below.mono (by assumption) ?_)) | go_size))⟩

set_option maxRecDepth 100000 in
set_option maxHeartbeats 2000000 in
theorem check_time4 (c f : ByteArray) (stamp base rate delta mn mx : Int) (off : Bool) (ia ie oa oe ht mg : Int) (w : World) (a0 : 0 ≤ ie) (a1 : ie ≤ 2147483647) (b0 : 0 ≤ oe) (b1 : oe ≤ 2147483647) (c0 : 0 ≤ ht) (c1 : ht ≤ 2147483647) (d0 : 0 ≤ mg) (d1 : mg ≤ 2147483647) (h : ¬ (0 ≤ delta ∧ delta < 2147483648)) : Calls Try.prog 28 #[polV c f stamp base rate delta mn mx off, .int .i64 ia, .int .i64 ie, .int .i64 oa, .int .i64 oe, .int .i64 ht, .int .i64 mg] w fun e w' => e = .returned (.int .i64 (checkE base rate delta mn mx off ia ie oa oe ht mg)) ∧ Below w.heap.size w w' := by
  obtain ⟨out, hout⟩ : ∃ v, checkE base rate delta mn mx off ia ie oa oe ht mg = v := ⟨_, rfl⟩
  rw [hout]
  have HC := Lib.hid (hout.symm.trans <| checkE_time base rate delta mn mx off ia ie oa oe ht mg (by omega))
  clear hout
  have fa := shr_ok ie (by omega) (by omega)
  have fb := shr_ok oe (by omega) (by omega)
  have fc := shr_ok ht (by omega) (by omega)
  have fd := shr_ok mg (by omega) (by omega)
  have fe := shr_bad delta h
  clear h
  go_enter Try.func28, Try.ntmps28
  go_wp2
  refine wp_loop_rounds 5 ?_
  repeat any_goals (rw [rounds_succ]; go_wp2_with fail)
  all_goals
    go_ret
    exact ⟨ret_i HC.out.symm, by (repeat' (first | (with_reducible exact Below.refl _ _) | (with_reducible refine Below.alloc ?_ ?_ _) | (with_reducible refine Below.drew ?_) | (with_reducible refine Below.setCell ?_ ?_ _) | (with_reducible refine below_drewN ?_ _) | (refine Below.trans ?_ (Below.mono (by assumption) ?_)) | go_size))⟩

set_option maxRecDepth 100000 in
set_option maxHeartbeats 2000000 in
theorem check_money0 (c f : ByteArray) (stamp base rate delta mn mx : Int) (off : Bool) (ia ie oa oe ht mg : Int) (w : World) (a0 : 0 ≤ ie) (a1 : ie ≤ 2147483647) (b0 : 0 ≤ oe) (b1 : oe ≤ 2147483647) (c0 : 0 ≤ ht) (c1 : ht ≤ 2147483647) (d0 : 0 ≤ mg) (d1 : mg ≤ 2147483647) (e0 : 0 ≤ delta) (e1 : delta ≤ 2147483647) (h : ia < 0) : Calls Try.prog 28 #[polV c f stamp base rate delta mn mx off, .int .i64 ia, .int .i64 ie, .int .i64 oa, .int .i64 oe, .int .i64 ht, .int .i64 mg] w fun e w' => e = .returned (.int .i64 (checkE base rate delta mn mx off ia ie oa oe ht mg)) ∧ Below w.heap.size w w' := by
  obtain ⟨out, hout⟩ : ∃ v, checkE base rate delta mn mx off ia ie oa oe ht mg = v := ⟨_, rfl⟩
  rw [hout]
  have HC := Lib.hid (hout.symm.trans <| checkE_money base rate delta mn mx off ia ie oa oe ht mg a0 a1 b0 b1 c0 c1 d0 d1 e0 e1 (by omega))
  clear hout
  have fa := shr_ok ie (by omega) (by omega)
  have fb := shr_ok oe (by omega) (by omega)
  have fc := shr_ok ht (by omega) (by omega)
  have fd := shr_ok mg (by omega) (by omega)
  have fe := shr_ok delta (by omega) (by omega)
  go_enter Try.func28, Try.ntmps28
  go_wp2
  refine wp_loop_rounds 6 ?_
  repeat any_goals (rw [rounds_succ]; go_wp2_with fail)
  go_wp2_with (first | (go_at_call 42; (with_reducible refine Calls.mono (gross_any _ _ _ _) ?_); rintro e w1 k1; obtain ⟨rfl, hb1⟩ := opt_val k1; clear k1; obtain ⟨hc, hf⟩ := bcell hb1; have z1 := hb1.size; try simp only [World.size_alloc] at z1) | go_in)
  all_goals
    go_ret
    exact ⟨ret_i HC.out.symm, by (repeat' (first | (with_reducible exact Below.refl _ _) | (with_reducible refine Below.alloc ?_ ?_ _) | (with_reducible refine Below.drew ?_) | (with_reducible refine Below.setCell ?_ ?_ _) | (with_reducible refine below_drewN ?_ _) | (refine Below.trans ?_ (Below.mono (by assumption) ?_)) | go_size))⟩

set_option maxRecDepth 100000 in
set_option maxHeartbeats 2000000 in
theorem check_money1 (c f : ByteArray) (stamp base rate delta mn mx : Int) (off : Bool) (ia ie oa oe ht mg : Int) (w : World) (a0 : 0 ≤ ie) (a1 : ie ≤ 2147483647) (b0 : 0 ≤ oe) (b1 : oe ≤ 2147483647) (c0 : 0 ≤ ht) (c1 : ht ≤ 2147483647) (d0 : 0 ≤ mg) (d1 : mg ≤ 2147483647) (e0 : 0 ≤ delta) (e1 : delta ≤ 2147483647) (h0 : 0 ≤ ia) (h : 2100000000000000000 < ia) : Calls Try.prog 28 #[polV c f stamp base rate delta mn mx off, .int .i64 ia, .int .i64 ie, .int .i64 oa, .int .i64 oe, .int .i64 ht, .int .i64 mg] w fun e w' => e = .returned (.int .i64 (checkE base rate delta mn mx off ia ie oa oe ht mg)) ∧ Below w.heap.size w w' := by
  obtain ⟨out, hout⟩ : ∃ v, checkE base rate delta mn mx off ia ie oa oe ht mg = v := ⟨_, rfl⟩
  rw [hout]
  have HC := Lib.hid (hout.symm.trans <| checkE_money base rate delta mn mx off ia ie oa oe ht mg a0 a1 b0 b1 c0 c1 d0 d1 e0 e1 (by omega))
  clear hout
  have fa := shr_ok ie (by omega) (by omega)
  have fb := shr_ok oe (by omega) (by omega)
  have fc := shr_ok ht (by omega) (by omega)
  have fd := shr_ok mg (by omega) (by omega)
  have fe := shr_ok delta (by omega) (by omega)
  have q1 := decN (ia ≤ 2100000000000000000) (by omega)
  go_enter Try.func28, Try.ntmps28
  go_wp2
  refine wp_loop_rounds 6 ?_
  repeat any_goals (rw [rounds_succ]; go_wp2_with fail)
  go_wp2_with (first | (go_at_call 42; (with_reducible refine Calls.mono (gross_any _ _ _ _) ?_); rintro e w1 k1; obtain ⟨rfl, hb1⟩ := opt_val k1; clear k1; obtain ⟨hc, hf⟩ := bcell hb1; have z1 := hb1.size; try simp only [World.size_alloc] at z1) | go_in)
  all_goals
    go_ret
    exact ⟨ret_i HC.out.symm, by (repeat' (first | (with_reducible exact Below.refl _ _) | (with_reducible refine Below.alloc ?_ ?_ _) | (with_reducible refine Below.drew ?_) | (with_reducible refine Below.setCell ?_ ?_ _) | (with_reducible refine below_drewN ?_ _) | (refine Below.trans ?_ (Below.mono (by assumption) ?_)) | go_size))⟩

set_option maxRecDepth 100000 in
set_option maxHeartbeats 2000000 in
theorem check_money2 (c f : ByteArray) (stamp base rate delta mn mx : Int) (off : Bool) (ia ie oa oe ht mg : Int) (w : World) (a0 : 0 ≤ ie) (a1 : ie ≤ 2147483647) (b0 : 0 ≤ oe) (b1 : oe ≤ 2147483647) (c0 : 0 ≤ ht) (c1 : ht ≤ 2147483647) (d0 : 0 ≤ mg) (d1 : mg ≤ 2147483647) (e0 : 0 ≤ delta) (e1 : delta ≤ 2147483647) (h0 : 0 ≤ ia) (h1 : ia ≤ 2100000000000000000) (h : oa < 0) : Calls Try.prog 28 #[polV c f stamp base rate delta mn mx off, .int .i64 ia, .int .i64 ie, .int .i64 oa, .int .i64 oe, .int .i64 ht, .int .i64 mg] w fun e w' => e = .returned (.int .i64 (checkE base rate delta mn mx off ia ie oa oe ht mg)) ∧ Below w.heap.size w w' := by
  obtain ⟨out, hout⟩ : ∃ v, checkE base rate delta mn mx off ia ie oa oe ht mg = v := ⟨_, rfl⟩
  rw [hout]
  have HC := Lib.hid (hout.symm.trans <| checkE_money base rate delta mn mx off ia ie oa oe ht mg a0 a1 b0 b1 c0 c1 d0 d1 e0 e1 (by omega))
  clear hout
  have fa := shr_ok ie (by omega) (by omega)
  have fb := shr_ok oe (by omega) (by omega)
  have fc := shr_ok ht (by omega) (by omega)
  have fd := shr_ok mg (by omega) (by omega)
  have fe := shr_ok delta (by omega) (by omega)
  have q1 := decB (ia ≤ 2100000000000000000) (by omega)
  go_enter Try.func28, Try.ntmps28
  go_wp2
  refine wp_loop_rounds 6 ?_
  repeat any_goals (rw [rounds_succ]; go_wp2_with fail)
  go_wp2_with (first | (go_at_call 42; (with_reducible refine Calls.mono (gross_any _ _ _ _) ?_); rintro e w1 k1; obtain ⟨rfl, hb1⟩ := opt_val k1; clear k1; obtain ⟨hc, hf⟩ := bcell hb1; have z1 := hb1.size; try simp only [World.size_alloc] at z1) | go_in)
  all_goals
    go_ret
    exact ⟨ret_i HC.out.symm, by (repeat' (first | (with_reducible exact Below.refl _ _) | (with_reducible refine Below.alloc ?_ ?_ _) | (with_reducible refine Below.drew ?_) | (with_reducible refine Below.setCell ?_ ?_ _) | (with_reducible refine below_drewN ?_ _) | (refine Below.trans ?_ (Below.mono (by assumption) ?_)) | go_size))⟩

set_option maxRecDepth 100000 in
set_option maxHeartbeats 2000000 in
theorem check_money3 (c f : ByteArray) (stamp base rate delta mn mx : Int) (off : Bool) (ia ie oa oe ht mg : Int) (w : World) (a0 : 0 ≤ ie) (a1 : ie ≤ 2147483647) (b0 : 0 ≤ oe) (b1 : oe ≤ 2147483647) (c0 : 0 ≤ ht) (c1 : ht ≤ 2147483647) (d0 : 0 ≤ mg) (d1 : mg ≤ 2147483647) (e0 : 0 ≤ delta) (e1 : delta ≤ 2147483647) (h0 : 0 ≤ ia) (h1 : ia ≤ 2100000000000000000) (h2 : 0 ≤ oa) (h : 2100000000000000000 < oa) : Calls Try.prog 28 #[polV c f stamp base rate delta mn mx off, .int .i64 ia, .int .i64 ie, .int .i64 oa, .int .i64 oe, .int .i64 ht, .int .i64 mg] w fun e w' => e = .returned (.int .i64 (checkE base rate delta mn mx off ia ie oa oe ht mg)) ∧ Below w.heap.size w w' := by
  obtain ⟨out, hout⟩ : ∃ v, checkE base rate delta mn mx off ia ie oa oe ht mg = v := ⟨_, rfl⟩
  rw [hout]
  have HC := Lib.hid (hout.symm.trans <| checkE_money base rate delta mn mx off ia ie oa oe ht mg a0 a1 b0 b1 c0 c1 d0 d1 e0 e1 (by omega))
  clear hout
  have fa := shr_ok ie (by omega) (by omega)
  have fb := shr_ok oe (by omega) (by omega)
  have fc := shr_ok ht (by omega) (by omega)
  have fd := shr_ok mg (by omega) (by omega)
  have fe := shr_ok delta (by omega) (by omega)
  have q1 := decB (ia ≤ 2100000000000000000) (by omega)
  have q2 := decN (oa ≤ 2100000000000000000) (by omega)
  go_enter Try.func28, Try.ntmps28
  go_wp2
  refine wp_loop_rounds 6 ?_
  repeat any_goals (rw [rounds_succ]; go_wp2_with fail)
  go_wp2_with (first | (go_at_call 42; (with_reducible refine Calls.mono (gross_any _ _ _ _) ?_); rintro e w1 k1; obtain ⟨rfl, hb1⟩ := opt_val k1; clear k1; obtain ⟨hc, hf⟩ := bcell hb1; have z1 := hb1.size; try simp only [World.size_alloc] at z1) | go_in)
  all_goals
    go_ret
    exact ⟨ret_i HC.out.symm, by (repeat' (first | (with_reducible exact Below.refl _ _) | (with_reducible refine Below.alloc ?_ ?_ _) | (with_reducible refine Below.drew ?_) | (with_reducible refine Below.setCell ?_ ?_ _) | (with_reducible refine below_drewN ?_ _) | (refine Below.trans ?_ (Below.mono (by assumption) ?_)) | go_size))⟩

set_option maxRecDepth 100000 in
set_option maxHeartbeats 2000000 in
theorem check_good (c f : ByteArray) (stamp base rate delta mn mx : Int) (off : Bool) (ia ie oa oe ht mg : Int) (w : World) (h0 : 0 ≤ ia) (h1 : ia ≤ 2100000000000000000) (h2 : 0 ≤ oa) (h3 : oa ≤ 2100000000000000000) (a0 : 0 ≤ ie) (a1 : ie ≤ 2147483647) (b0 : 0 ≤ oe) (b1 : oe ≤ 2147483647) (c0 : 0 ≤ ht) (c1 : ht ≤ 2147483647) (d0 : 0 ≤ mg) (d1 : mg ≤ 2147483647) (e0 : 0 ≤ delta) (e1 : delta ≤ 2147483647) : Calls Try.prog 28 #[polV c f stamp base rate delta mn mx off, .int .i64 ia, .int .i64 ie, .int .i64 oa, .int .i64 oe, .int .i64 ht, .int .i64 mg] w fun e w' => e = .returned (.int .i64 (checkE base rate delta mn mx off ia ie oa oe ht mg)) ∧ Below w.heap.size w w' := by
  obtain ⟨out, hout⟩ : ∃ v, checkE base rate delta mn mx off ia ie oa oe ht mg = v := ⟨_, rfl⟩
  rw [hout]
  have HC := Lib.hid (hout.symm.trans <| checkE_tail base rate delta mn mx off ia ie oa oe ht mg h0 h1 h2 h3 a0 a1 b0 b1 c0 c1 d0 d1 e0 e1)
  clear hout
  have fa := shr_ok ie (by omega) (by omega)
  have fb := shr_ok oe (by omega) (by omega)
  have fc := shr_ok ht (by omega) (by omega)
  have fd := shr_ok mg (by omega) (by omega)
  have fe := shr_ok delta (by omega) (by omega)
  have q1 := decB (ia ≤ 2100000000000000000) h1
  have q2 := decB (oa ≤ 2100000000000000000) h3
  go_enter Try.func28, Try.ntmps28
  go_wp2
  refine wp_loop_rounds 6 ?_
  repeat any_goals (rw [rounds_succ]; go_wp2_with fail)
  go_wp2_with (first | (go_at_call 42; (with_reducible refine Calls.mono (gross_any _ _ _ _) ?_); rintro e w1 k1; obtain ⟨rfl, hb1⟩ := opt_val k1; clear k1; obtain ⟨hc, hf⟩ := bcell hb1; have z1 := hb1.size; try simp only [World.size_alloc] at z1) | go_in)
  all_goals
    go_ret
    refine ⟨ret_i ?_, by (repeat' (first | (with_reducible exact Below.refl _ _) | (with_reducible refine Below.alloc ?_ ?_ _) | (with_reducible refine Below.drew ?_) | (with_reducible refine Below.setCell ?_ ?_ _) | (with_reducible refine below_drewN ?_ _) | (refine Below.trans ?_ (Below.mono (by assumption) ?_)) | go_size))⟩
    rw [HC.out]
    clear HC
    (repeat' split) <;> first | rfl | (exfalso; simp_all; done) | (exfalso; omega)
theorem check_any (c f : ByteArray) (stamp base rate delta mn mx : Int) (off : Bool) (ia ie oa oe ht mg : Int) (w : World) : Calls Try.prog 28 #[polV c f stamp base rate delta mn mx off, .int .i64 ia, .int .i64 ie, .int .i64 oa, .int .i64 oe, .int .i64 ht, .int .i64 mg] w fun e w' => e = .returned (.int .i64 (checkE base rate delta mn mx off ia ie oa oe ht mg)) ∧ Below w.heap.size w w' := by
  by_cases x0 : 0 ≤ ie ∧ ie < 2147483648
  · by_cases x1 : 0 ≤ oe ∧ oe < 2147483648
    · by_cases x2 : 0 ≤ ht ∧ ht < 2147483648
      · by_cases x3 : 0 ≤ mg ∧ mg < 2147483648
        · by_cases x4 : 0 ≤ delta ∧ delta < 2147483648
          · by_cases y0 : ia < 0
            · exact check_money0 c f stamp base rate delta mn mx off ia ie oa oe ht mg w (by omega) (by omega) (by omega) (by omega) (by omega) (by omega) (by omega) (by omega) (by omega) (by omega) y0
            · by_cases y1 : 2100000000000000000 < ia
              · exact check_money1 c f stamp base rate delta mn mx off ia ie oa oe ht mg w (by omega) (by omega) (by omega) (by omega) (by omega) (by omega) (by omega) (by omega) (by omega) (by omega) (by omega) y1
              · by_cases y2 : oa < 0
                · exact check_money2 c f stamp base rate delta mn mx off ia ie oa oe ht mg w (by omega) (by omega) (by omega) (by omega) (by omega) (by omega) (by omega) (by omega) (by omega) (by omega) (by omega) (by omega) y2
                · by_cases y3 : 2100000000000000000 < oa
                  · exact check_money3 c f stamp base rate delta mn mx off ia ie oa oe ht mg w (by omega) (by omega) (by omega) (by omega) (by omega) (by omega) (by omega) (by omega) (by omega) (by omega) (by omega) (by omega) (by omega) y3
                  · exact check_good c f stamp base rate delta mn mx off ia ie oa oe ht mg w (by omega) (by omega) (by omega) (by omega) (by omega) (by omega) (by omega) (by omega) (by omega) (by omega) (by omega) (by omega) (by omega) (by omega)
          · exact check_time4 c f stamp base rate delta mn mx off ia ie oa oe ht mg w (by omega) (by omega) (by omega) (by omega) (by omega) (by omega) (by omega) (by omega) x4
        · exact check_time3 c f stamp base rate delta mn mx off ia ie oa oe ht mg w (by omega) (by omega) (by omega) (by omega) (by omega) (by omega) x3
      · exact check_time2 c f stamp base rate delta mn mx off ia ie oa oe ht mg w (by omega) (by omega) (by omega) (by omega) x2
    · exact check_time1 c f stamp base rate delta mn mx off ia ie oa oe ht mg w (by omega) (by omega) x1
  · exact check_time0 c f stamp base rate delta mn mx off ia ie oa oe ht mg w x0

set_option maxRecDepth 100000 in
set_option maxHeartbeats 2000000 in
theorem checkr_time0 (c f : ByteArray) (stamp base rate delta mn mx : Int) (off : Bool) (ia ie oa oe ht mg : Int) (w : World)  (h : ¬ (0 ≤ ie ∧ ie < 2147483648)) : Calls Try.prog 10 #[polV c f stamp base rate delta mn mx off, .int .i64 ia, .int .i64 ie, .int .i64 oa, .int .i64 oe, .int .i64 ht, .int .i64 mg] w fun e w' => e = .returned (.int .i64 (checkE base rate delta mn mx off ia ie oa oe ht mg)) ∧ Below w.heap.size w w' := by
  obtain ⟨out, hout⟩ : ∃ v, checkE base rate delta mn mx off ia ie oa oe ht mg = v := ⟨_, rfl⟩
  rw [hout]
  have HC := Lib.hid (hout.symm.trans <| checkE_time base rate delta mn mx off ia ie oa oe ht mg (by omega))
  clear hout
  by_cases hh : 0 ≤ ie
  · have hx : 2147483648 ≤ ie := by omega
    have hy := decN (ie < 2147483648) (by omega)
    clear h
    go_enter Try.func10, Try.ntmps10
    go_wp2
    all_goals
      go_ret
      exact ⟨ret_i HC.out.symm, by (repeat' (first | (with_reducible exact Below.refl _ _) | (with_reducible refine Below.alloc ?_ ?_ _) | (with_reducible refine Below.drew ?_) | (with_reducible refine Below.setCell ?_ ?_ _) | (with_reducible refine below_drewN ?_ _) | (refine Below.trans ?_ (Below.mono (by assumption) ?_)) | go_size))⟩
  · clear h
    go_enter Try.func10, Try.ntmps10
    go_wp2
    all_goals
      go_ret
      exact ⟨ret_i HC.out.symm, by (repeat' (first | (with_reducible exact Below.refl _ _) | (with_reducible refine Below.alloc ?_ ?_ _) | (with_reducible refine Below.drew ?_) | (with_reducible refine Below.setCell ?_ ?_ _) | (with_reducible refine below_drewN ?_ _) | (refine Below.trans ?_ (Below.mono (by assumption) ?_)) | go_size))⟩

set_option maxRecDepth 100000 in
set_option maxHeartbeats 2000000 in
theorem checkr_time1 (c f : ByteArray) (stamp base rate delta mn mx : Int) (off : Bool) (ia ie oa oe ht mg : Int) (w : World) (a0 : 0 ≤ ie) (a1 : ie ≤ 2147483647) (h : ¬ (0 ≤ oe ∧ oe < 2147483648)) : Calls Try.prog 10 #[polV c f stamp base rate delta mn mx off, .int .i64 ia, .int .i64 ie, .int .i64 oa, .int .i64 oe, .int .i64 ht, .int .i64 mg] w fun e w' => e = .returned (.int .i64 (checkE base rate delta mn mx off ia ie oa oe ht mg)) ∧ Below w.heap.size w w' := by
  obtain ⟨out, hout⟩ : ∃ v, checkE base rate delta mn mx off ia ie oa oe ht mg = v := ⟨_, rfl⟩
  rw [hout]
  have HC := Lib.hid (hout.symm.trans <| checkE_time base rate delta mn mx off ia ie oa oe ht mg (by omega))
  clear hout
  have fa := decB (ie < 2147483648) (by omega)
  by_cases hh : 0 ≤ oe
  · have hx : 2147483648 ≤ oe := by omega
    have hy := decN (oe < 2147483648) (by omega)
    clear h
    go_enter Try.func10, Try.ntmps10
    go_wp2
    all_goals
      go_ret
      exact ⟨ret_i HC.out.symm, by (repeat' (first | (with_reducible exact Below.refl _ _) | (with_reducible refine Below.alloc ?_ ?_ _) | (with_reducible refine Below.drew ?_) | (with_reducible refine Below.setCell ?_ ?_ _) | (with_reducible refine below_drewN ?_ _) | (refine Below.trans ?_ (Below.mono (by assumption) ?_)) | go_size))⟩
  · clear h
    go_enter Try.func10, Try.ntmps10
    go_wp2
    all_goals
      go_ret
      exact ⟨ret_i HC.out.symm, by (repeat' (first | (with_reducible exact Below.refl _ _) | (with_reducible refine Below.alloc ?_ ?_ _) | (with_reducible refine Below.drew ?_) | (with_reducible refine Below.setCell ?_ ?_ _) | (with_reducible refine below_drewN ?_ _) | (refine Below.trans ?_ (Below.mono (by assumption) ?_)) | go_size))⟩

set_option maxRecDepth 100000 in
set_option maxHeartbeats 2000000 in
theorem checkr_time2 (c f : ByteArray) (stamp base rate delta mn mx : Int) (off : Bool) (ia ie oa oe ht mg : Int) (w : World) (a0 : 0 ≤ ie) (a1 : ie ≤ 2147483647) (b0 : 0 ≤ oe) (b1 : oe ≤ 2147483647) (h : ¬ (0 ≤ ht ∧ ht < 2147483648)) : Calls Try.prog 10 #[polV c f stamp base rate delta mn mx off, .int .i64 ia, .int .i64 ie, .int .i64 oa, .int .i64 oe, .int .i64 ht, .int .i64 mg] w fun e w' => e = .returned (.int .i64 (checkE base rate delta mn mx off ia ie oa oe ht mg)) ∧ Below w.heap.size w w' := by
  obtain ⟨out, hout⟩ : ∃ v, checkE base rate delta mn mx off ia ie oa oe ht mg = v := ⟨_, rfl⟩
  rw [hout]
  have HC := Lib.hid (hout.symm.trans <| checkE_time base rate delta mn mx off ia ie oa oe ht mg (by omega))
  clear hout
  have fa := decB (ie < 2147483648) (by omega)
  have fb := decB (oe < 2147483648) (by omega)
  by_cases hh : 0 ≤ ht
  · have hx : 2147483648 ≤ ht := by omega
    have hy := decN (ht < 2147483648) (by omega)
    clear h
    go_enter Try.func10, Try.ntmps10
    go_wp2
    all_goals
      go_ret
      exact ⟨ret_i HC.out.symm, by (repeat' (first | (with_reducible exact Below.refl _ _) | (with_reducible refine Below.alloc ?_ ?_ _) | (with_reducible refine Below.drew ?_) | (with_reducible refine Below.setCell ?_ ?_ _) | (with_reducible refine below_drewN ?_ _) | (refine Below.trans ?_ (Below.mono (by assumption) ?_)) | go_size))⟩
  · clear h
    go_enter Try.func10, Try.ntmps10
    go_wp2
    all_goals
      go_ret
      exact ⟨ret_i HC.out.symm, by (repeat' (first | (with_reducible exact Below.refl _ _) | (with_reducible refine Below.alloc ?_ ?_ _) | (with_reducible refine Below.drew ?_) | (with_reducible refine Below.setCell ?_ ?_ _) | (with_reducible refine below_drewN ?_ _) | (refine Below.trans ?_ (Below.mono (by assumption) ?_)) | go_size))⟩

set_option maxRecDepth 100000 in
set_option maxHeartbeats 2000000 in
theorem checkr_time3 (c f : ByteArray) (stamp base rate delta mn mx : Int) (off : Bool) (ia ie oa oe ht mg : Int) (w : World) (a0 : 0 ≤ ie) (a1 : ie ≤ 2147483647) (b0 : 0 ≤ oe) (b1 : oe ≤ 2147483647) (c0 : 0 ≤ ht) (c1 : ht ≤ 2147483647) (h : ¬ (0 ≤ mg ∧ mg < 2147483648)) : Calls Try.prog 10 #[polV c f stamp base rate delta mn mx off, .int .i64 ia, .int .i64 ie, .int .i64 oa, .int .i64 oe, .int .i64 ht, .int .i64 mg] w fun e w' => e = .returned (.int .i64 (checkE base rate delta mn mx off ia ie oa oe ht mg)) ∧ Below w.heap.size w w' := by
  obtain ⟨out, hout⟩ : ∃ v, checkE base rate delta mn mx off ia ie oa oe ht mg = v := ⟨_, rfl⟩
  rw [hout]
  have HC := Lib.hid (hout.symm.trans <| checkE_time base rate delta mn mx off ia ie oa oe ht mg (by omega))
  clear hout
  have fa := decB (ie < 2147483648) (by omega)
  have fb := decB (oe < 2147483648) (by omega)
  have fc := decB (ht < 2147483648) (by omega)
  by_cases hh : 0 ≤ mg
  · have hx : 2147483648 ≤ mg := by omega
    have hy := decN (mg < 2147483648) (by omega)
    clear h
    go_enter Try.func10, Try.ntmps10
    go_wp2
    all_goals
      go_ret
      exact ⟨ret_i HC.out.symm, by (repeat' (first | (with_reducible exact Below.refl _ _) | (with_reducible refine Below.alloc ?_ ?_ _) | (with_reducible refine Below.drew ?_) | (with_reducible refine Below.setCell ?_ ?_ _) | (with_reducible refine below_drewN ?_ _) | (refine Below.trans ?_ (Below.mono (by assumption) ?_)) | go_size))⟩
  · clear h
    go_enter Try.func10, Try.ntmps10
    go_wp2
    all_goals
      go_ret
      exact ⟨ret_i HC.out.symm, by (repeat' (first | (with_reducible exact Below.refl _ _) | (with_reducible refine Below.alloc ?_ ?_ _) | (with_reducible refine Below.drew ?_) | (with_reducible refine Below.setCell ?_ ?_ _) | (with_reducible refine below_drewN ?_ _) | (refine Below.trans ?_ (Below.mono (by assumption) ?_)) | go_size))⟩

set_option maxRecDepth 100000 in
set_option maxHeartbeats 2000000 in
theorem checkr_time4 (c f : ByteArray) (stamp base rate delta mn mx : Int) (off : Bool) (ia ie oa oe ht mg : Int) (w : World) (a0 : 0 ≤ ie) (a1 : ie ≤ 2147483647) (b0 : 0 ≤ oe) (b1 : oe ≤ 2147483647) (c0 : 0 ≤ ht) (c1 : ht ≤ 2147483647) (d0 : 0 ≤ mg) (d1 : mg ≤ 2147483647) (h : ¬ (0 ≤ delta ∧ delta < 2147483648)) : Calls Try.prog 10 #[polV c f stamp base rate delta mn mx off, .int .i64 ia, .int .i64 ie, .int .i64 oa, .int .i64 oe, .int .i64 ht, .int .i64 mg] w fun e w' => e = .returned (.int .i64 (checkE base rate delta mn mx off ia ie oa oe ht mg)) ∧ Below w.heap.size w w' := by
  obtain ⟨out, hout⟩ : ∃ v, checkE base rate delta mn mx off ia ie oa oe ht mg = v := ⟨_, rfl⟩
  rw [hout]
  have HC := Lib.hid (hout.symm.trans <| checkE_time base rate delta mn mx off ia ie oa oe ht mg (by omega))
  clear hout
  have fa := decB (ie < 2147483648) (by omega)
  have fb := decB (oe < 2147483648) (by omega)
  have fc := decB (ht < 2147483648) (by omega)
  have fd := decB (mg < 2147483648) (by omega)
  by_cases hh : 0 ≤ delta
  · have hx : 2147483648 ≤ delta := by omega
    have hy := decN (delta < 2147483648) (by omega)
    clear h
    go_enter Try.func10, Try.ntmps10
    go_wp2
    all_goals
      go_ret
      exact ⟨ret_i HC.out.symm, by (repeat' (first | (with_reducible exact Below.refl _ _) | (with_reducible refine Below.alloc ?_ ?_ _) | (with_reducible refine Below.drew ?_) | (with_reducible refine Below.setCell ?_ ?_ _) | (with_reducible refine below_drewN ?_ _) | (refine Below.trans ?_ (Below.mono (by assumption) ?_)) | go_size))⟩
  · clear h
    go_enter Try.func10, Try.ntmps10
    go_wp2
    all_goals
      go_ret
      exact ⟨ret_i HC.out.symm, by (repeat' (first | (with_reducible exact Below.refl _ _) | (with_reducible refine Below.alloc ?_ ?_ _) | (with_reducible refine Below.drew ?_) | (with_reducible refine Below.setCell ?_ ?_ _) | (with_reducible refine below_drewN ?_ _) | (refine Below.trans ?_ (Below.mono (by assumption) ?_)) | go_size))⟩

set_option maxRecDepth 100000 in
set_option maxHeartbeats 2000000 in
theorem checkr_money0 (c f : ByteArray) (stamp base rate delta mn mx : Int) (off : Bool) (ia ie oa oe ht mg : Int) (w : World) (a0 : 0 ≤ ie) (a1 : ie ≤ 2147483647) (b0 : 0 ≤ oe) (b1 : oe ≤ 2147483647) (c0 : 0 ≤ ht) (c1 : ht ≤ 2147483647) (d0 : 0 ≤ mg) (d1 : mg ≤ 2147483647) (e0 : 0 ≤ delta) (e1 : delta ≤ 2147483647) (h : ia < 0) : Calls Try.prog 10 #[polV c f stamp base rate delta mn mx off, .int .i64 ia, .int .i64 ie, .int .i64 oa, .int .i64 oe, .int .i64 ht, .int .i64 mg] w fun e w' => e = .returned (.int .i64 (checkE base rate delta mn mx off ia ie oa oe ht mg)) ∧ Below w.heap.size w w' := by
  obtain ⟨out, hout⟩ : ∃ v, checkE base rate delta mn mx off ia ie oa oe ht mg = v := ⟨_, rfl⟩
  rw [hout]
  have HC := Lib.hid (hout.symm.trans <| checkE_money base rate delta mn mx off ia ie oa oe ht mg a0 a1 b0 b1 c0 c1 d0 d1 e0 e1 (by omega))
  clear hout
  have fa := decB (ie < 2147483648) (by omega)
  have fb := decB (oe < 2147483648) (by omega)
  have fc := decB (ht < 2147483648) (by omega)
  have fd := decB (mg < 2147483648) (by omega)
  have fe := decB (delta < 2147483648) (by omega)
  go_enter Try.func10, Try.ntmps10
  skip
  go_wp2_with (first | (go_at_call 30; (with_reducible refine Calls.mono (grossr_any _ _ _ _) ?_); rintro e w1 k1; obtain ⟨rfl, hb1⟩ := opt_val k1; clear k1; obtain ⟨hc, hf⟩ := bcell hb1; have z1 := hb1.size; try simp only [World.size_alloc] at z1) | go_in)
  all_goals
    go_ret
    exact ⟨ret_i HC.out.symm, by (repeat' (first | (with_reducible exact Below.refl _ _) | (with_reducible refine Below.alloc ?_ ?_ _) | (with_reducible refine Below.drew ?_) | (with_reducible refine Below.setCell ?_ ?_ _) | (with_reducible refine below_drewN ?_ _) | (refine Below.trans ?_ (Below.mono (by assumption) ?_)) | go_size))⟩

set_option maxRecDepth 100000 in
set_option maxHeartbeats 2000000 in
theorem checkr_money1 (c f : ByteArray) (stamp base rate delta mn mx : Int) (off : Bool) (ia ie oa oe ht mg : Int) (w : World) (a0 : 0 ≤ ie) (a1 : ie ≤ 2147483647) (b0 : 0 ≤ oe) (b1 : oe ≤ 2147483647) (c0 : 0 ≤ ht) (c1 : ht ≤ 2147483647) (d0 : 0 ≤ mg) (d1 : mg ≤ 2147483647) (e0 : 0 ≤ delta) (e1 : delta ≤ 2147483647) (h0 : 0 ≤ ia) (h : 2100000000000000000 < ia) : Calls Try.prog 10 #[polV c f stamp base rate delta mn mx off, .int .i64 ia, .int .i64 ie, .int .i64 oa, .int .i64 oe, .int .i64 ht, .int .i64 mg] w fun e w' => e = .returned (.int .i64 (checkE base rate delta mn mx off ia ie oa oe ht mg)) ∧ Below w.heap.size w w' := by
  obtain ⟨out, hout⟩ : ∃ v, checkE base rate delta mn mx off ia ie oa oe ht mg = v := ⟨_, rfl⟩
  rw [hout]
  have HC := Lib.hid (hout.symm.trans <| checkE_money base rate delta mn mx off ia ie oa oe ht mg a0 a1 b0 b1 c0 c1 d0 d1 e0 e1 (by omega))
  clear hout
  have fa := decB (ie < 2147483648) (by omega)
  have fb := decB (oe < 2147483648) (by omega)
  have fc := decB (ht < 2147483648) (by omega)
  have fd := decB (mg < 2147483648) (by omega)
  have fe := decB (delta < 2147483648) (by omega)
  have q1 := decN (ia ≤ 2100000000000000000) (by omega)
  go_enter Try.func10, Try.ntmps10
  skip
  go_wp2_with (first | (go_at_call 30; (with_reducible refine Calls.mono (grossr_any _ _ _ _) ?_); rintro e w1 k1; obtain ⟨rfl, hb1⟩ := opt_val k1; clear k1; obtain ⟨hc, hf⟩ := bcell hb1; have z1 := hb1.size; try simp only [World.size_alloc] at z1) | go_in)
  all_goals
    go_ret
    exact ⟨ret_i HC.out.symm, by (repeat' (first | (with_reducible exact Below.refl _ _) | (with_reducible refine Below.alloc ?_ ?_ _) | (with_reducible refine Below.drew ?_) | (with_reducible refine Below.setCell ?_ ?_ _) | (with_reducible refine below_drewN ?_ _) | (refine Below.trans ?_ (Below.mono (by assumption) ?_)) | go_size))⟩

set_option maxRecDepth 100000 in
set_option maxHeartbeats 2000000 in
theorem checkr_money2 (c f : ByteArray) (stamp base rate delta mn mx : Int) (off : Bool) (ia ie oa oe ht mg : Int) (w : World) (a0 : 0 ≤ ie) (a1 : ie ≤ 2147483647) (b0 : 0 ≤ oe) (b1 : oe ≤ 2147483647) (c0 : 0 ≤ ht) (c1 : ht ≤ 2147483647) (d0 : 0 ≤ mg) (d1 : mg ≤ 2147483647) (e0 : 0 ≤ delta) (e1 : delta ≤ 2147483647) (h0 : 0 ≤ ia) (h1 : ia ≤ 2100000000000000000) (h : oa < 0) : Calls Try.prog 10 #[polV c f stamp base rate delta mn mx off, .int .i64 ia, .int .i64 ie, .int .i64 oa, .int .i64 oe, .int .i64 ht, .int .i64 mg] w fun e w' => e = .returned (.int .i64 (checkE base rate delta mn mx off ia ie oa oe ht mg)) ∧ Below w.heap.size w w' := by
  obtain ⟨out, hout⟩ : ∃ v, checkE base rate delta mn mx off ia ie oa oe ht mg = v := ⟨_, rfl⟩
  rw [hout]
  have HC := Lib.hid (hout.symm.trans <| checkE_money base rate delta mn mx off ia ie oa oe ht mg a0 a1 b0 b1 c0 c1 d0 d1 e0 e1 (by omega))
  clear hout
  have fa := decB (ie < 2147483648) (by omega)
  have fb := decB (oe < 2147483648) (by omega)
  have fc := decB (ht < 2147483648) (by omega)
  have fd := decB (mg < 2147483648) (by omega)
  have fe := decB (delta < 2147483648) (by omega)
  have q1 := decB (ia ≤ 2100000000000000000) (by omega)
  go_enter Try.func10, Try.ntmps10
  skip
  go_wp2_with (first | (go_at_call 30; (with_reducible refine Calls.mono (grossr_any _ _ _ _) ?_); rintro e w1 k1; obtain ⟨rfl, hb1⟩ := opt_val k1; clear k1; obtain ⟨hc, hf⟩ := bcell hb1; have z1 := hb1.size; try simp only [World.size_alloc] at z1) | go_in)
  all_goals
    go_ret
    exact ⟨ret_i HC.out.symm, by (repeat' (first | (with_reducible exact Below.refl _ _) | (with_reducible refine Below.alloc ?_ ?_ _) | (with_reducible refine Below.drew ?_) | (with_reducible refine Below.setCell ?_ ?_ _) | (with_reducible refine below_drewN ?_ _) | (refine Below.trans ?_ (Below.mono (by assumption) ?_)) | go_size))⟩

set_option maxRecDepth 100000 in
set_option maxHeartbeats 2000000 in
theorem checkr_money3 (c f : ByteArray) (stamp base rate delta mn mx : Int) (off : Bool) (ia ie oa oe ht mg : Int) (w : World) (a0 : 0 ≤ ie) (a1 : ie ≤ 2147483647) (b0 : 0 ≤ oe) (b1 : oe ≤ 2147483647) (c0 : 0 ≤ ht) (c1 : ht ≤ 2147483647) (d0 : 0 ≤ mg) (d1 : mg ≤ 2147483647) (e0 : 0 ≤ delta) (e1 : delta ≤ 2147483647) (h0 : 0 ≤ ia) (h1 : ia ≤ 2100000000000000000) (h2 : 0 ≤ oa) (h : 2100000000000000000 < oa) : Calls Try.prog 10 #[polV c f stamp base rate delta mn mx off, .int .i64 ia, .int .i64 ie, .int .i64 oa, .int .i64 oe, .int .i64 ht, .int .i64 mg] w fun e w' => e = .returned (.int .i64 (checkE base rate delta mn mx off ia ie oa oe ht mg)) ∧ Below w.heap.size w w' := by
  obtain ⟨out, hout⟩ : ∃ v, checkE base rate delta mn mx off ia ie oa oe ht mg = v := ⟨_, rfl⟩
  rw [hout]
  have HC := Lib.hid (hout.symm.trans <| checkE_money base rate delta mn mx off ia ie oa oe ht mg a0 a1 b0 b1 c0 c1 d0 d1 e0 e1 (by omega))
  clear hout
  have fa := decB (ie < 2147483648) (by omega)
  have fb := decB (oe < 2147483648) (by omega)
  have fc := decB (ht < 2147483648) (by omega)
  have fd := decB (mg < 2147483648) (by omega)
  have fe := decB (delta < 2147483648) (by omega)
  have q1 := decB (ia ≤ 2100000000000000000) (by omega)
  have q2 := decN (oa ≤ 2100000000000000000) (by omega)
  go_enter Try.func10, Try.ntmps10
  skip
  go_wp2_with (first | (go_at_call 30; (with_reducible refine Calls.mono (grossr_any _ _ _ _) ?_); rintro e w1 k1; obtain ⟨rfl, hb1⟩ := opt_val k1; clear k1; obtain ⟨hc, hf⟩ := bcell hb1; have z1 := hb1.size; try simp only [World.size_alloc] at z1) | go_in)
  all_goals
    go_ret
    exact ⟨ret_i HC.out.symm, by (repeat' (first | (with_reducible exact Below.refl _ _) | (with_reducible refine Below.alloc ?_ ?_ _) | (with_reducible refine Below.drew ?_) | (with_reducible refine Below.setCell ?_ ?_ _) | (with_reducible refine below_drewN ?_ _) | (refine Below.trans ?_ (Below.mono (by assumption) ?_)) | go_size))⟩

set_option maxRecDepth 100000 in
set_option maxHeartbeats 2000000 in
theorem checkr_good (c f : ByteArray) (stamp base rate delta mn mx : Int) (off : Bool) (ia ie oa oe ht mg : Int) (w : World) (h0 : 0 ≤ ia) (h1 : ia ≤ 2100000000000000000) (h2 : 0 ≤ oa) (h3 : oa ≤ 2100000000000000000) (a0 : 0 ≤ ie) (a1 : ie ≤ 2147483647) (b0 : 0 ≤ oe) (b1 : oe ≤ 2147483647) (c0 : 0 ≤ ht) (c1 : ht ≤ 2147483647) (d0 : 0 ≤ mg) (d1 : mg ≤ 2147483647) (e0 : 0 ≤ delta) (e1 : delta ≤ 2147483647) : Calls Try.prog 10 #[polV c f stamp base rate delta mn mx off, .int .i64 ia, .int .i64 ie, .int .i64 oa, .int .i64 oe, .int .i64 ht, .int .i64 mg] w fun e w' => e = .returned (.int .i64 (checkE base rate delta mn mx off ia ie oa oe ht mg)) ∧ Below w.heap.size w w' := by
  obtain ⟨out, hout⟩ : ∃ v, checkE base rate delta mn mx off ia ie oa oe ht mg = v := ⟨_, rfl⟩
  rw [hout]
  have HC := Lib.hid (hout.symm.trans <| checkE_tail base rate delta mn mx off ia ie oa oe ht mg h0 h1 h2 h3 a0 a1 b0 b1 c0 c1 d0 d1 e0 e1)
  clear hout
  have fa := decB (ie < 2147483648) (by omega)
  have fb := decB (oe < 2147483648) (by omega)
  have fc := decB (ht < 2147483648) (by omega)
  have fd := decB (mg < 2147483648) (by omega)
  have fe := decB (delta < 2147483648) (by omega)
  have q1 := decB (ia ≤ 2100000000000000000) h1
  have q2 := decB (oa ≤ 2100000000000000000) h3
  go_enter Try.func10, Try.ntmps10
  skip
  go_wp2_with (first | (go_at_call 30; (with_reducible refine Calls.mono (grossr_any _ _ _ _) ?_); rintro e w1 k1; obtain ⟨rfl, hb1⟩ := opt_val k1; clear k1; obtain ⟨hc, hf⟩ := bcell hb1; have z1 := hb1.size; try simp only [World.size_alloc] at z1) | go_in)
  all_goals
    go_ret
    refine ⟨ret_i ?_, by (repeat' (first | (with_reducible exact Below.refl _ _) | (with_reducible refine Below.alloc ?_ ?_ _) | (with_reducible refine Below.drew ?_) | (with_reducible refine Below.setCell ?_ ?_ _) | (with_reducible refine below_drewN ?_ _) | (refine Below.trans ?_ (Below.mono (by assumption) ?_)) | go_size))⟩
    rw [HC.out]
    clear HC
    (repeat' split) <;> first | rfl | (exfalso; simp_all; done) | (exfalso; omega)
theorem checkr_any (c f : ByteArray) (stamp base rate delta mn mx : Int) (off : Bool) (ia ie oa oe ht mg : Int) (w : World) : Calls Try.prog 10 #[polV c f stamp base rate delta mn mx off, .int .i64 ia, .int .i64 ie, .int .i64 oa, .int .i64 oe, .int .i64 ht, .int .i64 mg] w fun e w' => e = .returned (.int .i64 (checkE base rate delta mn mx off ia ie oa oe ht mg)) ∧ Below w.heap.size w w' := by
  by_cases x0 : 0 ≤ ie ∧ ie < 2147483648
  · by_cases x1 : 0 ≤ oe ∧ oe < 2147483648
    · by_cases x2 : 0 ≤ ht ∧ ht < 2147483648
      · by_cases x3 : 0 ≤ mg ∧ mg < 2147483648
        · by_cases x4 : 0 ≤ delta ∧ delta < 2147483648
          · by_cases y0 : ia < 0
            · exact checkr_money0 c f stamp base rate delta mn mx off ia ie oa oe ht mg w (by omega) (by omega) (by omega) (by omega) (by omega) (by omega) (by omega) (by omega) (by omega) (by omega) y0
            · by_cases y1 : 2100000000000000000 < ia
              · exact checkr_money1 c f stamp base rate delta mn mx off ia ie oa oe ht mg w (by omega) (by omega) (by omega) (by omega) (by omega) (by omega) (by omega) (by omega) (by omega) (by omega) (by omega) y1
              · by_cases y2 : oa < 0
                · exact checkr_money2 c f stamp base rate delta mn mx off ia ie oa oe ht mg w (by omega) (by omega) (by omega) (by omega) (by omega) (by omega) (by omega) (by omega) (by omega) (by omega) (by omega) (by omega) y2
                · by_cases y3 : 2100000000000000000 < oa
                  · exact checkr_money3 c f stamp base rate delta mn mx off ia ie oa oe ht mg w (by omega) (by omega) (by omega) (by omega) (by omega) (by omega) (by omega) (by omega) (by omega) (by omega) (by omega) (by omega) (by omega) y3
                  · exact checkr_good c f stamp base rate delta mn mx off ia ie oa oe ht mg w (by omega) (by omega) (by omega) (by omega) (by omega) (by omega) (by omega) (by omega) (by omega) (by omega) (by omega) (by omega) (by omega) (by omega)
          · exact checkr_time4 c f stamp base rate delta mn mx off ia ie oa oe ht mg w (by omega) (by omega) (by omega) (by omega) (by omega) (by omega) (by omega) (by omega) x4
        · exact checkr_time3 c f stamp base rate delta mn mx off ia ie oa oe ht mg w (by omega) (by omega) (by omega) (by omega) (by omega) (by omega) x3
      · exact checkr_time2 c f stamp base rate delta mn mx off ia ie oa oe ht mg w (by omega) (by omega) (by omega) (by omega) x2
    · exact checkr_time1 c f stamp base rate delta mn mx off ia ie oa oe ht mg w (by omega) (by omega) x1
  · exact checkr_time0 c f stamp base rate delta mn mx off ia ie oa oe ht mg w x0

end Go.Proofs.Ytjdbnaedlljfhaa
