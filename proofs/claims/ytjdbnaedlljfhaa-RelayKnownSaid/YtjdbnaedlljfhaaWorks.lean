/- The relay's short play. -/
import Derived.Test.YtjdbnaedlljfhaaExt
namespace Go.Proofs.Ytjdbnaedlljfhaa
open Go.RowKit

def exC : Circ := ⟨⟨#[97]⟩, 1, ⟨#[98]⟩, 7, 5015, 5000, 0, 0, ⟨#[72, 110, 57, 59]⟩, ⟨#[]⟩⟩
theorem circuit_ex (w : World) : Calls Try.prog 27 #[.string ⟨#[97]⟩, .int .i64 1, .string ⟨#[98]⟩, .int .i64 7] w fun e w' => e = .returned (.agg #[.string ⟨#[97]⟩, .int .i64 1, .string ⟨#[98]⟩, .int .i64 7, .int .i64 5015, .int .i64 5000, .int .i64 0, .int .i64 0, .string ⟨#[72, 110, 57, 59]⟩, .string ⟨#[]⟩]) ∧ Below w.heap.size w w' := by
  go_enter Try.func27, Try.ntmps27
  go_wp2
  exact bodyPost_ret (v := exC.val) (by simp [results, Try.results27, go_sem, exC, Circ.val]) rfl ⟨rfl, (by (repeat' (first | (with_reducible exact Below.refl _ _) | (with_reducible refine Below.alloc ?_ ?_ _) | (with_reducible refine Below.drew ?_) | (with_reducible refine Below.setCell ?_ ?_ _) | go_size)))⟩
def exP : Value := .agg #[.string ⟨#[]⟩, .string ⟨#[]⟩, .int .i64 0, .int .i64 10, .int .i64 1000, .int .i64 9, .int .i64 100, .int .i64 100000, .bool false]
theorem policy_ex (w : World) : Calls Try.prog 26 #[] w fun e w' => e = .returned (.agg #[.string ⟨#[]⟩, .string ⟨#[]⟩, .int .i64 0, .int .i64 10, .int .i64 1000, .int .i64 9, .int .i64 100, .int .i64 100000, .bool false]) ∧ Below w.heap.size w w' := by
  go_enter Try.func26, Try.ntmps26
  go_wp2
  exact bodyPost_ret (v := exP) (by simp [results, Try.results26, go_sem, exP]) rfl ⟨rfl, (by (repeat' (first | (with_reducible exact Below.refl _ _) | (with_reducible refine Below.alloc ?_ ?_ _) | (with_reducible refine Below.drew ?_) | (with_reducible refine Below.setCell ?_ ?_ _) | go_size)))⟩
theorem open_ex (rb base mi mo : Nat) (v : Value) (w : World) (h : RelAt w base rb mi mo v []) :
    Calls Try.prog 22 #[.pointer (some ⟨rb, 0, none⟩), .agg #[.string ⟨#[97]⟩, .int .i64 1, .string ⟨#[98]⟩, .int .i64 7, .int .i64 5015, .int .i64 5000, .int .i64 0, .int .i64 0, .string ⟨#[72, 110, 57, 59]⟩, .string ⟨#[]⟩]] w fun e w' => ∃ v', e = .returned (.int .i64 0) ∧ RelAt w' base rb mi mo v' [exC] ∧ (v'.ownBlock = v.ownBlock ∨ ∃ g, v'.ownBlock = some g ∧ w.heap.size ≤ g) ∧ Fr (RelS rb mi mo v) w w' :=
  open_yes rb base mi mo v [] w h exC ⟨by simp [exC, ByteArray.size, maxLen], by simp [exC, ByteArray.size, maxLen]⟩ (by decide +kernel) (by decide +kernel) rfl rfl (by simp)
theorem ex_found : findC (Circ.outIs ⟨#[98]⟩ 7) [exC] 0 = some (0, exC) := by
  unfold findC
  rw [if_pos (by decide +kernel)]
theorem out_ex (rb base mi mo : Nat) (v : Value) (w : World) (h : RelAt w base rb mi mo v [exC]) :
    Calls Try.prog 18 #[.pointer (some ⟨rb, 0, none⟩), .string ⟨#[98]⟩, .int .i64 7] w fun e w' => e = .returned (.tuple #[.agg #[.string ⟨#[97]⟩, .int .i64 1, .string ⟨#[98]⟩, .int .i64 7, .int .i64 5015, .int .i64 5000, .int .i64 0, .int .i64 0, .string ⟨#[72, 110, 57, 59]⟩, .string ⟨#[]⟩], .bool true]) ∧ Below w.heap.size w w' := by
  have := out_any rb base mi mo v [exC] w h ⟨#[98]⟩ 7
  rw [ex_found] at this
  exact this
theorem close_ex (rb base mi mo : Nat) (v : Value) (w : World) (h : RelAt w base rb mi mo v [exC]) :
    Calls Try.prog 20 #[.pointer (some ⟨rb, 0, none⟩), .string ⟨#[98]⟩, .int .i64 7] w fun e w' => e = .returned (.tuple #[.agg #[.string ⟨#[97]⟩, .int .i64 1, .string ⟨#[98]⟩, .int .i64 7, .int .i64 5015, .int .i64 5000, .int .i64 0, .int .i64 0, .string ⟨#[72, 110, 57, 59]⟩, .string ⟨#[]⟩], .int .i64 0]) ∧ ∃ v', RelAt w' base rb mi mo v' [] ∧ v'.ownBlock = v.ownBlock ∧ Fr (RelS rb mi mo v) w w' :=
  close_some rb base mi mo v [exC] w h ⟨#[98]⟩ 7 0 exC ex_found
theorem check_ex (w : World) : Calls Try.prog 28 #[.agg #[.string ⟨#[]⟩, .string ⟨#[]⟩, .int .i64 0, .int .i64 10, .int .i64 1000, .int .i64 9, .int .i64 100, .int .i64 100000, .bool false], .int .i64 5015, .int .i64 49, .int .i64 5000, .int .i64 40, .int .i64 5, .int .i64 2] w fun e w' => e = .returned (.int .i64 0) ∧ Below w.heap.size w w' := by
  have h : checkE 10 1000 9 100 100000 false 5015 49 5000 40 5 2 = 0 := by decide +kernel
  have := check_any ⟨#[]⟩ ⟨#[]⟩ 0 10 1000 9 100 100000 false 5015 49 5000 40 5 2 w
  rw [h] at this
  exact this
theorem count_ex (rb base mi mo : Nat) (v : Value) (w : World) (h : RelAt w base rb mi mo v []) : Calls Try.prog 25 #[.pointer (some ⟨rb, 0, none⟩)] w fun e w' => e = .returned (.int .i64 0) ∧ w = w' := count_any rb base mi mo v [] w h
theorem rel_below {w w' : World} {base rb mi mo : Nat} {v : Value} {L : List Circ} (hr : RelAt w base rb mi mo v L) (h : Fr (RelS rb mi mo v) w w') : Below base w w' := by
  refine h.toBelow (fun k hk => ?_) (Nat.le_trans hr.h1 (Nat.le_of_lt (lt_of_heap hr.rbk)))
  rcases hk with e | e | e | e
  · rw [e]; exact hr.h1
  · rw [e]; exact hr.h2
  · rw [e]; exact hr.h3
  · exact (hr.own.lt k e).1
theorem rel_new {w : World} {base rb mi mo : Nat} {v : Value} {L : List Circ} (h : RelAt w base rb mi mo v L) : ¬ RelS rb mi mo v w.heap.size := by
  rintro (e | e | e | e)
  · have := lt_of_heap h.rbk; omega
  · have := lt_of_heap h.mik.choose_spec.choose_spec.1; omega
  · have := lt_of_heap h.mok.choose_spec.choose_spec.1; omega
  · have := (h.own.lt _ e).2; omega
set_option maxRecDepth 100000 in
set_option maxHeartbeats 4000000 in
theorem works_any (w : World) : Calls Try.prog 11 #[] w fun e w' => e = .returned (.bool true) ∧ Below w.heap.size w w' := by
  go_enter Try.func11, Try.ntmps11
  go_wp2_with (first
    | (go_at_call 14; (with_reducible refine Calls.mono (new_any _) ?_); rintro e w1 ⟨rb, mi, mo, rfl, hr1, hb1⟩; have HR1 := Lib.hid hr1; have HB1 := Lib.hid hb1; clear hr1 hb1)
    | (go_at_call 27; (with_reducible refine Calls.mono (circuit_ex _) ?_); rintro e w2 ⟨rfl, hb2⟩; have HR2 := Lib.hid (HR1.out.below hb2); have HB2 := Lib.hid (HB1.out.trans (hb2.mono HB1.out.size)); clear hb2)
    | (go_at_call 22; (with_reducible refine Calls.mono (open_ex rb _ mi mo _ _ HR2.out) ?_); rintro e w3 ⟨v3, rfl, hr3, _, hf3⟩; have HR3 := Lib.hid hr3; have HB3 := Lib.hid (HB2.out.trans (rel_below HR2.out hf3)); clear hr3 hf3)
    | (go_at_call 18; (with_reducible refine Calls.mono (out_ex rb _ mi mo _ _ HR3.out) ?_); rintro e w4 ⟨rfl, hb4⟩; have HR4 := Lib.hid (HR3.out.below hb4); have HB4 := Lib.hid (HB3.out.trans (hb4.mono HB3.out.size)); clear hb4)
    | (go_at_call 20; (with_reducible refine Calls.mono (close_ex rb _ mi mo _ _ (HR4.out.below ((Below.refl _ _).alloc (Nat.le_refl _) _))) ?_); rintro e w5 ⟨rfl, v5, hr5, _, hf5⟩; have HR5 := Lib.hid hr5; have HB5 := Lib.hid ((HB4.out.alloc HB4.out.size _).trans (rel_below (HR4.out.below ((Below.refl _ _).alloc (Nat.le_refl _) _)) hf5)); have HF5 := Lib.hid hf5; clear hr5 hf5))
  have heq : ∀ W : World, (binOp .eql 44 (.agg #[.string ⟨#[97]⟩, .int .i64 1, .string ⟨#[98]⟩, .int .i64 7, .int .i64 5015, .int .i64 5000, .int .i64 0, .int .i64 0, .string ⟨#[72, 110, 57, 59]⟩, .string ⟨#[]⟩]) (.agg #[.string ⟨#[97]⟩, .int .i64 1, .string ⟨#[98]⟩, .int .i64 7, .int .i64 5015, .int .i64 5000, .int .i64 0, .int .i64 0, .string ⟨#[72, 110, 57, 59]⟩, .string ⟨#[]⟩])).run Try.prog W = .ok (.bool true) W := fun W => by kernel_rfl
  have b4 : (w4.alloc (.cells #[.string ⟨#[97]⟩, .int .i64 1, .string ⟨#[98]⟩, .int .i64 7, .int .i64 5015, .int .i64 5000, .int .i64 0, .int .i64 0, .string ⟨#[72, 110, 57, 59]⟩, .string ⟨#[]⟩] 44)).heap[w4.heap.size]? = some (.cells #[.string ⟨#[97]⟩, .int .i64 1, .string ⟨#[98]⟩, .int .i64 7, .int .i64 5015, .int .i64 5000, .int .i64 0, .int .i64 0, .string ⟨#[72, 110, 57, 59]⟩, .string ⟨#[]⟩] 44 (0, 0)) := heap_alloc_at _ _
  have b5 : w5.heap[w4.heap.size]? = some (.cells #[.string ⟨#[97]⟩, .int .i64 1, .string ⟨#[98]⟩, .int .i64 7, .int .i64 5015, .int .i64 5000, .int .i64 0, .int .i64 0, .string ⟨#[72, 110, 57, 59]⟩, .string ⟨#[]⟩] 44 (0, 0)) := (HF5.out.block _ (by simp) (rel_new HR4.out)).trans b4
  have b6 : (w5.alloc (.cells #[.string ⟨#[97]⟩, .int .i64 1, .string ⟨#[98]⟩, .int .i64 7, .int .i64 5015, .int .i64 5000, .int .i64 0, .int .i64 0, .string ⟨#[72, 110, 57, 59]⟩, .string ⟨#[]⟩] 44)).heap[w4.heap.size]? = some (.cells #[.string ⟨#[97]⟩, .int .i64 1, .string ⟨#[98]⟩, .int .i64 7, .int .i64 5015, .int .i64 5000, .int .i64 0, .int .i64 0, .string ⟨#[72, 110, 57, 59]⟩, .string ⟨#[]⟩] 44 (0, 0)) := (alloc_heap _ (lt_of_heap b5)).trans b5
  have b7 : (w5.alloc (.cells #[.string ⟨#[97]⟩, .int .i64 1, .string ⟨#[98]⟩, .int .i64 7, .int .i64 5015, .int .i64 5000, .int .i64 0, .int .i64 0, .string ⟨#[72, 110, 57, 59]⟩, .string ⟨#[]⟩] 44)).heap[w5.heap.size]? = some (.cells #[.string ⟨#[97]⟩, .int .i64 1, .string ⟨#[98]⟩, .int .i64 7, .int .i64 5015, .int .i64 5000, .int .i64 0, .int .i64 0, .string ⟨#[72, 110, 57, 59]⟩, .string ⟨#[]⟩] 44 (0, 0)) := heap_alloc_at _ _
  have HR6 := Lib.hid (HR5.out.below ((Below.refl _ _).alloc (Nat.le_refl _) (.cells #[.string ⟨#[97]⟩, .int .i64 1, .string ⟨#[98]⟩, .int .i64 7, .int .i64 5015, .int .i64 5000, .int .i64 0, .int .i64 0, .string ⟨#[72, 110, 57, 59]⟩, .string ⟨#[]⟩] 44)))
  have HB6 := Lib.hid (HB5.out.alloc HB5.out.size (.cells #[.string ⟨#[97]⟩, .int .i64 1, .string ⟨#[98]⟩, .int .i64 7, .int .i64 5015, .int .i64 5000, .int .i64 0, .int .i64 0, .string ⟨#[72, 110, 57, 59]⟩, .string ⟨#[]⟩] 44))
  generalize hw6 : w5.alloc (.cells #[.string ⟨#[97]⟩, .int .i64 1, .string ⟨#[98]⟩, .int .i64 7, .int .i64 5015, .int .i64 5000, .int .i64 0, .int .i64 0, .string ⟨#[72, 110, 57, 59]⟩, .string ⟨#[]⟩] 44) = w6 at b6 b7 HR6 HB6 ⊢
  clear hw6
  obtain ⟨g0, g1, g2, g3, g4, g5, g6, g7, g8, g9⟩ := ten_cells _ _ _ _ _ _ _ _ _ _ b6
  obtain ⟨k0, k1, k2, k3, k4, k5, k6, k7, k8, k9⟩ := ten_cells _ _ _ _ _ _ _ _ _ _ b7
  replace g0 := Later.cell g0; replace g1 := Later.cell g1; replace g2 := Later.cell g2; replace g3 := Later.cell g3; replace g4 := Later.cell g4; replace g5 := Later.cell g5; replace g6 := Later.cell g6; replace g7 := Later.cell g7; replace g8 := Later.cell g8; replace g9 := Later.cell g9
  replace k0 := Later.cell k0; replace k1 := Later.cell k1; replace k2 := Later.cell k2; replace k3 := Later.cell k3; replace k4 := Later.cell k4; replace k5 := Later.cell k5; replace k6 := Later.cell k6; replace k7 := Later.cell k7; replace k8 := Later.cell k8; replace k9 := Later.cell k9
  clear b4 b5 b6 b7
  refine wp_region_later (by kernel_rfl) (by kernel_rfl) ?_
  repeat (go_big_quiet_step (first | (go_at_call 26; exact calls_later (policy_ex _)) | (go_at_call 28; exact calls_later (check_ex _)) | (go_at_call 27; exact calls_later (circuit_ex _)) | (go_at_call 25; exact calls_later_same (count_ex rb _ mi mo _ _ (Later.rel HR6.out _)))))
  refine wpQuiet_nil ?_
  intro _ hw'
  obtain ⟨nq, rfl⟩ := hw'
  go_wp2
  go_ret
  exact ⟨rfl, HB6.out.trans (nq.below.mono HB6.out.size)⟩
end Go.Proofs.Ytjdbnaedlljfhaa
