/- RelayKnown, walked (printed by gen/gr_knownw.py). -/
import Derived.Test.YtjdbnaedlljfhaaKnownS
import Derived.Test.YtjdbnaedlljfhaaWay
import Derived.Great.BuildSlice
import Derived.Deep.RegionHeld3
import Derived.Deep.CutRange
import Derived.Deep.CutBlock
namespace Go.Proofs.Ytjdbnaedlljfhaa
set_option linter.unusedVariables false
open Go.RowKit
set_option maxRecDepth 100000
theorem held_true {P : Program} {md : Region.Mode} {os : Array Oper} {Q : Exit → Act → World → Prop} {S : World → Prop} : ∀ {fuel : Nat} {listed : Array Bool} {a : Act} {w : World}, wpAnyH P md os Q S fuel listed a w → wpAnyH P md os Q (fun _ => True) fuel listed a w
  | 0, _, _, _, h => h
  | fuel + 1, _, _, _, h => ⟨h.1, fun i hi => wpOp_mono (fun a' w' h' => ⟨trivial, held_true h'.2⟩) (h.2 i hi)⟩
set_option maxHeartbeats 8000000 in
theorem relayKnown_any (w : World) : Calls Try.prog 8 #[] w fun e w' => e = .returned (.bool true) ∧ Below w.heap.size w w' := by
  obtain ⟨i0, hi0, hz0, hz1, hz2⟩ := info_parts Try.info26
  go_enter Try.func8, Try.ntmps8
  go_upto_region 8 with (go_at_call 26; (with_reducible refine Calls.mono (policy_ex _) ?_); rintro e w1 ⟨rfl, hb1⟩; have B1 := Lib.hid hb1; clear hb1)
  go_cut [5] from 35 to 65 (fun p wx => ∃ ga, p = .slice (some ⟨ga, 0, none⟩) 15 15 ∧ Hid (Below w.heap.size w wx) ∧ Hid (wx.heap[ga]? = some (.cells waysA 26 (0, 0))))
  case first =>
    go_wp2_with fail
    refine wp_buildSlice 63 26 15 _ rfl waysA i0 _ (by kernel_rfl) hi0 hz0 (by rw [hz1]; decide) (by rw [hz1]; decide) (by rw [hz1]; kernel_rfl) ?_
    rename_i hK
    refine hK _ _ ?_
    clear hK
    go_wp2_with fail
    go_meet
    have b1 := B1.out
    have z1 := b1.size
    exact ⟨_, rfl, Lib.hid (by (repeat' (first | (with_reducible assumption) | (with_reducible refine Below.alloc ?_ ?_ _) | (with_reducible refine Below.drew ?_) | (with_reducible refine Below.setCell ?_ ?_ _) | (simp only [World.size_alloc, World.size_setCell]; omega) | go_size))), Lib.hid (alloc_at' _ _ _ (by simp only [World.size_alloc]))⟩
  case rest =>
    obtain ⟨ga, rfl, hB0, hA0⟩ := hcut
    go_upto_region 10 with fail
    have hga : ga < wc.heap.size := lt_of_heap hA0.out
    have B1 := Lib.hid (hB0.out.alloc hB0.out.size (.cells wantA 27))
    have HA : Hid ((wc.alloc (.cells wantA 27)).heap[ga]? = some (.cells waysA 26 (0, 0))) := (alloc_heap _ hga).trans hA0.out
    have HW : Hid ((wc.alloc (.cells wantA 27)).heap[wc.heap.size]? = some (.cells wantA 27 (0, 0))) := heap_alloc_at _ _
    have hgen : wc.alloc (.cells #[.int .i64 240, .int .i64 241, .int .i64 241, .int .i64 0, .int .i64 233, .int .i64 233, .int .i64 242, .int .i64 40, .int .i64 2, .int .i64 2, .int .i64 2, .int .i64 240, .int .i64 0, .int .i64 233, .int .i64 241] 27) = wc.alloc (.cells wantA 27) := rfl
    rw [hgen]
    generalize wc.alloc (.cells wantA 27) = w1 at B1 HA HW ⊢
    clear hgen
    generalize wc.heap.size = gb at HW ⊢
    clear hga hA0 hB0
    go_wp2_with fail
    go_loopw [7] (fun iv wr => ∃ i : Nat, i ≤ 15 ∧ iv = .int .i64 i ∧ Hid (Below w1.heap.size w1 wr)) (fun iv _ => 15 - (intOf iv).toNat)
    case atStart => exact ⟨0, by omega, rfl, Below.refl _ _⟩
    case round =>
      obtain ⟨i, hi, rfl, hB⟩ := hrel
      have hBs := hB.out.size
      by_cases hlt : i < 15
      · obtain ⟨c, f, stamp, base, rate, delta, mn, mx, off, ia, ie, oa, oe, ht, mg, x, ⟨r0, r1, r2, r3, r4, r5, r6, r7, r8, r9, r10, r11, r12, r13, r14, r15⟩, hx⟩ := way_at i hlt
        have ha := (hB.out.block ga (lt_of_heap HA.out)).trans HA.out
        have hb := (hB.out.block gb (lt_of_heap HW.out)).trans HW.out
        have g0 : wr.cell? ⟨ga, i * 15, none⟩ = some (.string c) := by rw [cell_of_row _ _ _ _ _ _ ha]; exact r0
        have g1 : wr.cell? ⟨ga, i * 15 + 1, none⟩ = some (.string f) := by rw [cell_of_row _ _ _ _ _ _ ha]; exact r1
        have g2 : wr.cell? ⟨ga, i * 15 + 2, none⟩ = some (.int .i64 stamp) := by rw [cell_of_row _ _ _ _ _ _ ha]; exact r2
        have g3 : wr.cell? ⟨ga, i * 15 + 3, none⟩ = some (.int .i64 base) := by rw [cell_of_row _ _ _ _ _ _ ha]; exact r3
        have g4 : wr.cell? ⟨ga, i * 15 + 4, none⟩ = some (.int .i64 rate) := by rw [cell_of_row _ _ _ _ _ _ ha]; exact r4
        have g5 : wr.cell? ⟨ga, i * 15 + 5, none⟩ = some (.int .i64 delta) := by rw [cell_of_row _ _ _ _ _ _ ha]; exact r5
        have g6 : wr.cell? ⟨ga, i * 15 + 6, none⟩ = some (.int .i64 mn) := by rw [cell_of_row _ _ _ _ _ _ ha]; exact r6
        have g7 : wr.cell? ⟨ga, i * 15 + 7, none⟩ = some (.int .i64 mx) := by rw [cell_of_row _ _ _ _ _ _ ha]; exact r7
        have g8 : wr.cell? ⟨ga, i * 15 + 8, none⟩ = some (.bool off) := by rw [cell_of_row _ _ _ _ _ _ ha]; exact r8
        have g9 : wr.cell? ⟨ga, i * 15 + 9, none⟩ = some (.int .i64 ia) := by rw [cell_of_row _ _ _ _ _ _ ha]; exact r9
        have g10 : wr.cell? ⟨ga, i * 15 + 10, none⟩ = some (.int .i64 ie) := by rw [cell_of_row _ _ _ _ _ _ ha]; exact r10
        have g11 : wr.cell? ⟨ga, i * 15 + 11, none⟩ = some (.int .i64 oa) := by rw [cell_of_row _ _ _ _ _ _ ha]; exact r11
        have g12 : wr.cell? ⟨ga, i * 15 + 12, none⟩ = some (.int .i64 oe) := by rw [cell_of_row _ _ _ _ _ _ ha]; exact r12
        have g13 : wr.cell? ⟨ga, i * 15 + 13, none⟩ = some (.int .i64 ht) := by rw [cell_of_row _ _ _ _ _ _ ha]; exact r13
        have g14 : wr.cell? ⟨ga, i * 15 + 14, none⟩ = some (.int .i64 mg) := by rw [cell_of_row _ _ _ _ _ _ ha]; exact r14
        have g15 : wr.cell? ⟨gb, i, none⟩ = some (.int .i64 x) := by rw [cell_of_row _ _ _ _ _ _ hb]; exact r15
        replace g0 := Later.cell g0; replace g1 := Later.cell g1; replace g2 := Later.cell g2; replace g3 := Later.cell g3; replace g4 := Later.cell g4; replace g5 := Later.cell g5; replace g6 := Later.cell g6; replace g7 := Later.cell g7; replace g8 := Later.cell g8; replace g9 := Later.cell g9; replace g10 := Later.cell g10; replace g11 := Later.cell g11; replace g12 := Later.cell g12; replace g13 := Later.cell g13; replace g14 := Later.cell g14; replace g15 := Later.cell g15
        have H1 := Lib.hid (fun w => checkw_any c f stamp base rate delta mn mx off ia ie oa oe ht mg w x hx)
        clear ha hb hx r0 r1 r2 r3 r4 r5 r6 r7 r8 r9 r10 r11 r12 r13 r14 r15
        have hii : (i : Int) < 15 := by omega
        have hne : (x != x) = false := by simp
        go_wp2_with fail
        refine wp_region_later (by kernel_rfl) (by kernel_rfl) ?_
        repeat (go_big_quiet_step ((go_at_call 9; exact calls_later (H1.out _))))
        refine wpQuiet_nil ?_
        intro _ hw'
        obtain ⟨nq, rfl⟩ := hw'
        go_wp2_with fail
        go_roundw
        case rel => exact ⟨i + 1, by omega, by go_num, hB.out.trans (nq.below.mono hBs)⟩
        case measure => simp [intOf]; omega
      · obtain rfl : i = 15 := by omega
        try rw [show ((15 : Nat) : Int) = 15 from rfl]
        have BR := Lib.hid (B1.out.trans (hB.out.mono B1.out.size))
        clear HA HW hB hBs hlt hi
        go_upto_region 16 with (go_at_call 14; (with_reducible refine Calls.mono (new_any _) ?_); rintro e w2 ⟨rb, mi, mo, rfl, hr2, hb2⟩; have R2 := Lib.hid hr2; have B2 := Lib.hid (BR.out.trans (hb2.mono BR.out.size)); clear hr2 hb2)
        have hbase : w.heap.size ≤ wr.heap.size := BR.out.size
        obtain ⟨base, hbs⟩ : ∃ base, wr.heap.size = base := ⟨_, rfl⟩
        rw [hbs] at R2 hbase
        clear hbs BR B1
        go_cut [9] from 84 to 110 (fun p wx => ∃ gc v', p = .slice (some ⟨gc, 0, none⟩) 8 8 ∧ Hid (Below w.heap.size w wx) ∧ Hid (RelAt wx base rb mi mo v' L3) ∧ Hid (wx.heap[gc]? = some (.cells gotA 27 (0, 0))))
        case first =>
          obtain ⟨z, b7, hb7, hms, hcv⟩ := make_101
          have HMS := Lib.hid hms
          have HCV := Lib.hid hcv
          clear hms hcv
          have OP1 : Hid (∀ W v, RelAt W base rb mi mo v [] → Calls Try.prog 22 #[.pointer (some ⟨rb, 0, none⟩), (mkC ⟨#[97]⟩ 1 ⟨#[98]⟩ 7).val] W (TurnPost W base rb mi mo v L1 (.int .i64 0))) := fun W v h => by
            have := open_sum rb base mi mo v [] W h (mkC ⟨#[97]⟩ 1 ⟨#[98]⟩ 7) (mkC_fits _ _ _ _ (by decide) (by decide))
            rw [op1] at this
            exact this
          have OP2 : Hid (∀ W v, RelAt W base rb mi mo v L1 → Calls Try.prog 22 #[.pointer (some ⟨rb, 0, none⟩), (mkC ⟨#[97]⟩ 1 ⟨#[99]⟩ 7).val] W (TurnPost W base rb mi mo v L1 (.int .i64 6))) := fun W v h => by
            have := open_sum rb base mi mo v L1 W h (mkC ⟨#[97]⟩ 1 ⟨#[99]⟩ 7) (mkC_fits _ _ _ _ (by decide) (by decide))
            rw [op2] at this
            exact this
          have OP3 : Hid (∀ W v, RelAt W base rb mi mo v L1 → Calls Try.prog 22 #[.pointer (some ⟨rb, 0, none⟩), (mkC ⟨#[100]⟩ 1 ⟨#[98]⟩ 7).val] W (TurnPost W base rb mi mo v L1 (.int .i64 6))) := fun W v h => by
            have := open_sum rb base mi mo v L1 W h (mkC ⟨#[100]⟩ 1 ⟨#[98]⟩ 7) (mkC_fits _ _ _ _ (by decide) (by decide))
            rw [op3] at this
            exact this
          have OP4 : Hid (∀ W v, RelAt W base rb mi mo v L1 → Calls Try.prog 22 #[.pointer (some ⟨rb, 0, none⟩), (mkC ⟨#[97]⟩ 2 ⟨#[98]⟩ 8).val] W (TurnPost W base rb mi mo v L2 (.int .i64 0))) := fun W v h => by
            have := open_sum rb base mi mo v L1 W h (mkC ⟨#[97]⟩ 2 ⟨#[98]⟩ 8) (mkC_fits _ _ _ _ (by decide) (by decide))
            rw [op4] at this
            exact this
          have OP5 : Hid (∀ W v, RelAt W base rb mi mo v L2 → Calls Try.prog 22 #[.pointer (some ⟨rb, 0, none⟩), (mkC ⟨#[]⟩ 2 ⟨#[98]⟩ 9).val] W (TurnPost W base rb mi mo v L2 (.int .i64 2))) := fun W v h => by
            have := open_sum rb base mi mo v L2 W h (mkC ⟨#[]⟩ 2 ⟨#[98]⟩ 9) (mkC_fits _ _ _ _ (by decide) (by decide))
            rw [op5] at this
            exact this
          have OP6 : Hid (∀ W v, RelAt W base rb mi mo v L2 → Calls Try.prog 22 #[.pointer (some ⟨rb, 0, none⟩), (mkC ⟨#[97]⟩ (-1) ⟨#[98]⟩ 9).val] W (TurnPost W base rb mi mo v L2 (.int .i64 2))) := fun W v h => by
            have := open_sum rb base mi mo v L2 W h (mkC ⟨#[97]⟩ (-1) ⟨#[98]⟩ 9) (mkC_fits _ _ _ _ (by decide) (by decide))
            rw [op6] at this
            exact this
          have OP7 : Hid (∀ W v, RelAt W base rb mi mo v L2 → Calls Try.prog 22 #[.pointer (some ⟨rb, 0, none⟩), (mkC ⟨#[97]⟩ 3 b7 9).val] W (TurnPost W base rb mi mo v L2 (.int .i64 2))) := fun W v h => by
            have := open_sum rb base mi mo v L2 W h (mkC ⟨#[97]⟩ 3 b7 9) (mkC_fits _ _ _ _ (by decide) (by rw [hb7]; decide))
            rw [op7 b7 hb7] at this
            exact this
          have OP8 : Hid (∀ W v, RelAt W base rb mi mo v L2 → Calls Try.prog 22 #[.pointer (some ⟨rb, 0, none⟩), (mkC ⟨#[98]⟩ 8 ⟨#[97]⟩ 2).val] W (TurnPost W base rb mi mo v L3 (.int .i64 0))) := fun W v h => by
            have := open_sum rb base mi mo v L2 W h (mkC ⟨#[98]⟩ 8 ⟨#[97]⟩ 2) (mkC_fits _ _ _ _ (by decide) (by decide))
            rw [op8] at this
            exact this
          have R0 := Lib.hid (R2.out.below (Below.refl _ _).drew)
          have B0 := Lib.hid B2.out.drew
          clear hb7 R2 B2
          refine wp_region_held_drew (S := fun _ => True) (by kernel_rfl) trivial (fun _ => ?_)
          generalize w2.drew = x0 at R0 B0 ⊢
          refine wpAnyH_take (i := 0) (v := .pointer (some ⟨rb, 0, none⟩)) rfl (by kernel_rfl) (by kernel_rfl) (by kernel_rfl) (fun _ _ _ h => h) (Or.inl ⟨by kernel_rfl, fun _ _ => by kernel_rfl⟩) trivial ?_
          simp only [Act.put, List.setIfInBounds_toArray, List.set_cons_zero, List.set_cons_succ]
          refine wpAnyH_take (i := 3) (v := .pointer (some ⟨rb, 0, none⟩)) rfl (by kernel_rfl) (by kernel_rfl) (by kernel_rfl) (fun _ _ _ h => h) (Or.inl ⟨by kernel_rfl, fun _ _ => by kernel_rfl⟩) trivial ?_
          simp only [Act.put, List.setIfInBounds_toArray, List.set_cons_zero, List.set_cons_succ]
          refine wpAnyH_take (i := 6) (v := .pointer (some ⟨rb, 0, none⟩)) rfl (by kernel_rfl) (by kernel_rfl) (by kernel_rfl) (fun _ _ _ h => h) (Or.inl ⟨by kernel_rfl, fun _ _ => by kernel_rfl⟩) trivial ?_
          simp only [Act.put, List.setIfInBounds_toArray, List.set_cons_zero, List.set_cons_succ]
          refine wpAnyH_take (i := 9) (v := .pointer (some ⟨rb, 0, none⟩)) rfl (by kernel_rfl) (by kernel_rfl) (by kernel_rfl) (fun _ _ _ h => h) (Or.inl ⟨by kernel_rfl, fun _ _ => by kernel_rfl⟩) trivial ?_
          simp only [Act.put, List.setIfInBounds_toArray, List.set_cons_zero, List.set_cons_succ]
          refine wpAnyH_take (i := 12) (v := .pointer (some ⟨rb, 0, none⟩)) rfl (by kernel_rfl) (by kernel_rfl) (by kernel_rfl) (fun _ _ _ h => h) (Or.inl ⟨by kernel_rfl, fun _ _ => by kernel_rfl⟩) trivial ?_
          simp only [Act.put, List.setIfInBounds_toArray, List.set_cons_zero, List.set_cons_succ]
          refine wpAnyH_take (i := 15) (v := .pointer (some ⟨rb, 0, none⟩)) rfl (by kernel_rfl) (by kernel_rfl) (by kernel_rfl) (fun _ _ _ h => h) (Or.inl ⟨by kernel_rfl, fun _ _ => by kernel_rfl⟩) trivial ?_
          simp only [Act.put, List.setIfInBounds_toArray, List.set_cons_zero, List.set_cons_succ]
          refine wpAnyH_take (i := 18) (v := .pointer (some ⟨rb, 0, none⟩)) rfl (by kernel_rfl) (by kernel_rfl) (by kernel_rfl) (fun _ _ _ h => h) (Or.inl ⟨by kernel_rfl, fun _ _ => by kernel_rfl⟩) trivial ?_
          simp only [Act.put, List.setIfInBounds_toArray, List.set_cons_zero, List.set_cons_succ]
          refine wpAnyH_take (i := 23) (v := .pointer (some ⟨rb, 0, none⟩)) rfl (by kernel_rfl) (by kernel_rfl) (by kernel_rfl) (fun _ _ _ h => h) (Or.inl ⟨by kernel_rfl, fun _ _ => by kernel_rfl⟩) trivial ?_
          simp only [Act.put, List.setIfInBounds_toArray, List.set_cons_zero, List.set_cons_succ]
          refine wpAnyH_ready (rs := [1, 19]) (by kernel_rfl) (by simp) (AllReadyH.cons rfl (fun K hK => ?_) (AllReadyH.cons rfl (fun K hK => ?_) AllReadyH.nil))
          rotate_left
          focus
            simp only [List.getElem_toArray, List.getElem_cons_succ, List.getElem_cons_zero]
            have hms := HMS.out
            go_simp
            clear hms
            refine hK.out _ _ trivial (fun _ => ?_)
            clear hK K
            have R1 := Lib.hid (R0.out.below (below_new' x0 (.cells z 5))); have B1 := Lib.hid (B0.out.alloc B0.out.size (.cells z 5)); have HM1 := Lib.hid (heap_alloc_at x0 (.cells z 5))
            generalize x0.alloc (.cells z 5) = x1 at R1 B1 HM1 ⊢
            generalize x0.heap.size = gm at HM1 ⊢
            clear R0 B0
            refine held_true (S := fun w' => w'.heap[gm]? = some (.cells z 5 (0, 0))) ?_
            refine wpAnyH_take (i := 20) (v := .string b7) rfl (by kernel_rfl) (by kernel_rfl) (by kernel_rfl) (fun _ _ _ h => h) (Or.inl ⟨by kernel_rfl, fun x hx => by have h := HCV.out x gm hx; simp only [List.getElem_toArray, List.getElem_cons_succ, List.getElem_cons_zero]; go_simp⟩) HM1.out ?_
            simp only [Act.put, List.setIfInBounds_toArray, List.set_cons_zero, List.set_cons_succ]
            refine wpAnyH_ready (rs := [1]) (by kernel_rfl) (by simp) (AllReadyH.cons rfl (fun K hK => ?_) AllReadyH.nil)
            simp only [List.getElem_toArray, List.getElem_cons_succ, List.getElem_cons_zero]
            go_simp
            go_at_call 27
            (with_reducible refine Calls.mono (circuit_any _ _ _ _ _) ?_)
            rintro e x2 ⟨rfl, hb⟩
            have R2 := Lib.hid (R1.out.below hb); have B2 := Lib.hid (B1.out.trans (hb.mono B1.out.size))
            have HM2 := Lib.hid ((hb.block _ (lt_of_heap HM1.out)).trans HM1.out)
            clear hb
            refine hK.out _ _ HM2.out (fun _ => ?_)
            clear hK K R1 B1 HM1
            refine wpAnyH_ready (rs := [2]) (by kernel_rfl) (by simp) (AllReadyH.cons rfl (fun K hK => ?_) AllReadyH.nil)
            simp only [List.getElem_toArray, List.getElem_cons_succ, List.getElem_cons_zero]
            go_simp
            go_at_call 22
            (with_reducible refine Calls.mono (OP1.out _ _ R2.out) ?_)
            intro e x3 ht
            obtain ⟨rfl, ⟨v3, hr⟩, hb, hk⟩ := turn_below R2.out ht
            have R3 := Lib.hid hr; have B3 := Lib.hid (B2.out.trans (hb.mono hbase))
            have HM3 := Lib.hid ((hk _ _ _ _ (by decide) (by decide) HM2.out).trans HM2.out)
            clear ht hr hb hk
            refine hK.out _ _ HM3.out (fun _ => ?_)
            clear hK K R2 B2 HM2
            refine wpAnyH_ready (rs := [4]) (by kernel_rfl) (by simp) (AllReadyH.cons rfl (fun K hK => ?_) AllReadyH.nil)
            simp only [List.getElem_toArray, List.getElem_cons_succ, List.getElem_cons_zero]
            go_simp
            go_at_call 27
            (with_reducible refine Calls.mono (circuit_any _ _ _ _ _) ?_)
            rintro e x4 ⟨rfl, hb⟩
            have R4 := Lib.hid (R3.out.below hb); have B4 := Lib.hid (B3.out.trans (hb.mono B3.out.size))
            have HM4 := Lib.hid ((hb.block _ (lt_of_heap HM3.out)).trans HM3.out)
            clear hb
            refine hK.out _ _ HM4.out (fun _ => ?_)
            clear hK K R3 B3 HM3
            refine wpAnyH_ready (rs := [5]) (by kernel_rfl) (by simp) (AllReadyH.cons rfl (fun K hK => ?_) AllReadyH.nil)
            simp only [List.getElem_toArray, List.getElem_cons_succ, List.getElem_cons_zero]
            go_simp
            go_at_call 22
            (with_reducible refine Calls.mono (OP2.out _ _ R4.out) ?_)
            intro e x5 ht
            obtain ⟨rfl, ⟨v5, hr⟩, hb, hk⟩ := turn_below R4.out ht
            have R5 := Lib.hid hr; have B5 := Lib.hid (B4.out.trans (hb.mono hbase))
            have HM5 := Lib.hid ((hk _ _ _ _ (by decide) (by decide) HM4.out).trans HM4.out)
            clear ht hr hb hk
            refine hK.out _ _ HM5.out (fun _ => ?_)
            clear hK K R4 B4 HM4
            refine wpAnyH_ready (rs := [7]) (by kernel_rfl) (by simp) (AllReadyH.cons rfl (fun K hK => ?_) AllReadyH.nil)
            simp only [List.getElem_toArray, List.getElem_cons_succ, List.getElem_cons_zero]
            go_simp
            go_at_call 27
            (with_reducible refine Calls.mono (circuit_any _ _ _ _ _) ?_)
            rintro e x6 ⟨rfl, hb⟩
            have R6 := Lib.hid (R5.out.below hb); have B6 := Lib.hid (B5.out.trans (hb.mono B5.out.size))
            have HM6 := Lib.hid ((hb.block _ (lt_of_heap HM5.out)).trans HM5.out)
            clear hb
            refine hK.out _ _ HM6.out (fun _ => ?_)
            clear hK K R5 B5 HM5
            refine wpAnyH_ready (rs := [8]) (by kernel_rfl) (by simp) (AllReadyH.cons rfl (fun K hK => ?_) AllReadyH.nil)
            simp only [List.getElem_toArray, List.getElem_cons_succ, List.getElem_cons_zero]
            go_simp
            go_at_call 22
            (with_reducible refine Calls.mono (OP3.out _ _ R6.out) ?_)
            intro e x7 ht
            obtain ⟨rfl, ⟨v7, hr⟩, hb, hk⟩ := turn_below R6.out ht
            have R7 := Lib.hid hr; have B7 := Lib.hid (B6.out.trans (hb.mono hbase))
            have HM7 := Lib.hid ((hk _ _ _ _ (by decide) (by decide) HM6.out).trans HM6.out)
            clear ht hr hb hk
            refine hK.out _ _ HM7.out (fun _ => ?_)
            clear hK K R6 B6 HM6
            refine wpAnyH_ready (rs := [10]) (by kernel_rfl) (by simp) (AllReadyH.cons rfl (fun K hK => ?_) AllReadyH.nil)
            simp only [List.getElem_toArray, List.getElem_cons_succ, List.getElem_cons_zero]
            go_simp
            go_at_call 27
            (with_reducible refine Calls.mono (circuit_any _ _ _ _ _) ?_)
            rintro e x8 ⟨rfl, hb⟩
            have R8 := Lib.hid (R7.out.below hb); have B8 := Lib.hid (B7.out.trans (hb.mono B7.out.size))
            have HM8 := Lib.hid ((hb.block _ (lt_of_heap HM7.out)).trans HM7.out)
            clear hb
            refine hK.out _ _ HM8.out (fun _ => ?_)
            clear hK K R7 B7 HM7
            refine wpAnyH_ready (rs := [11]) (by kernel_rfl) (by simp) (AllReadyH.cons rfl (fun K hK => ?_) AllReadyH.nil)
            simp only [List.getElem_toArray, List.getElem_cons_succ, List.getElem_cons_zero]
            go_simp
            go_at_call 22
            (with_reducible refine Calls.mono (OP4.out _ _ R8.out) ?_)
            intro e x9 ht
            obtain ⟨rfl, ⟨v9, hr⟩, hb, hk⟩ := turn_below R8.out ht
            have R9 := Lib.hid hr; have B9 := Lib.hid (B8.out.trans (hb.mono hbase))
            have HM9 := Lib.hid ((hk _ _ _ _ (by decide) (by decide) HM8.out).trans HM8.out)
            clear ht hr hb hk
            refine hK.out _ _ HM9.out (fun _ => ?_)
            clear hK K R8 B8 HM8
            refine wpAnyH_ready (rs := [13]) (by kernel_rfl) (by simp) (AllReadyH.cons rfl (fun K hK => ?_) AllReadyH.nil)
            simp only [List.getElem_toArray, List.getElem_cons_succ, List.getElem_cons_zero]
            go_simp
            go_at_call 27
            (with_reducible refine Calls.mono (circuit_any _ _ _ _ _) ?_)
            rintro e x10 ⟨rfl, hb⟩
            have R10 := Lib.hid (R9.out.below hb); have B10 := Lib.hid (B9.out.trans (hb.mono B9.out.size))
            have HM10 := Lib.hid ((hb.block _ (lt_of_heap HM9.out)).trans HM9.out)
            clear hb
            refine hK.out _ _ HM10.out (fun _ => ?_)
            clear hK K R9 B9 HM9
            refine wpAnyH_ready (rs := [14]) (by kernel_rfl) (by simp) (AllReadyH.cons rfl (fun K hK => ?_) AllReadyH.nil)
            simp only [List.getElem_toArray, List.getElem_cons_succ, List.getElem_cons_zero]
            go_simp
            go_at_call 22
            (with_reducible refine Calls.mono (OP5.out _ _ R10.out) ?_)
            intro e x11 ht
            obtain ⟨rfl, ⟨v11, hr⟩, hb, hk⟩ := turn_below R10.out ht
            have R11 := Lib.hid hr; have B11 := Lib.hid (B10.out.trans (hb.mono hbase))
            have HM11 := Lib.hid ((hk _ _ _ _ (by decide) (by decide) HM10.out).trans HM10.out)
            clear ht hr hb hk
            refine hK.out _ _ HM11.out (fun _ => ?_)
            clear hK K R10 B10 HM10
            refine wpAnyH_ready (rs := [16]) (by kernel_rfl) (by simp) (AllReadyH.cons rfl (fun K hK => ?_) AllReadyH.nil)
            simp only [List.getElem_toArray, List.getElem_cons_succ, List.getElem_cons_zero]
            go_simp
            go_at_call 27
            (with_reducible refine Calls.mono (circuit_any _ _ _ _ _) ?_)
            rintro e x12 ⟨rfl, hb⟩
            have R12 := Lib.hid (R11.out.below hb); have B12 := Lib.hid (B11.out.trans (hb.mono B11.out.size))
            have HM12 := Lib.hid ((hb.block _ (lt_of_heap HM11.out)).trans HM11.out)
            clear hb
            refine hK.out _ _ HM12.out (fun _ => ?_)
            clear hK K R11 B11 HM11
            refine wpAnyH_ready (rs := [17]) (by kernel_rfl) (by simp) (AllReadyH.cons rfl (fun K hK => ?_) AllReadyH.nil)
            simp only [List.getElem_toArray, List.getElem_cons_succ, List.getElem_cons_zero]
            go_simp
            go_at_call 22
            (with_reducible refine Calls.mono (OP6.out _ _ R12.out) ?_)
            intro e x13 ht
            obtain ⟨rfl, ⟨v13, hr⟩, hb, hk⟩ := turn_below R12.out ht
            have R13 := Lib.hid hr; have B13 := Lib.hid (B12.out.trans (hb.mono hbase))
            have HM13 := Lib.hid ((hk _ _ _ _ (by decide) (by decide) HM12.out).trans HM12.out)
            clear ht hr hb hk
            refine hK.out _ _ HM13.out (fun _ => ?_)
            clear hK K R12 B12 HM12
            refine wpAnyH_ready (rs := [21]) (by kernel_rfl) (by simp) (AllReadyH.cons rfl (fun K hK => ?_) AllReadyH.nil)
            simp only [List.getElem_toArray, List.getElem_cons_succ, List.getElem_cons_zero]
            go_simp
            go_at_call 27
            (with_reducible refine Calls.mono (circuit_any _ _ _ _ _) ?_)
            rintro e x14 ⟨rfl, hb⟩
            have R14 := Lib.hid (R13.out.below hb); have B14 := Lib.hid (B13.out.trans (hb.mono B13.out.size))
            have HM14 := Lib.hid ((hb.block _ (lt_of_heap HM13.out)).trans HM13.out)
            clear hb
            refine hK.out _ _ HM14.out (fun _ => ?_)
            clear hK K R13 B13 HM13
            refine wpAnyH_ready (rs := [22]) (by kernel_rfl) (by simp) (AllReadyH.cons rfl (fun K hK => ?_) AllReadyH.nil)
            simp only [List.getElem_toArray, List.getElem_cons_succ, List.getElem_cons_zero]
            go_simp
            go_at_call 22
            (with_reducible refine Calls.mono (OP7.out _ _ R14.out) ?_)
            intro e x15 ht
            obtain ⟨rfl, ⟨v15, hr⟩, hb, hk⟩ := turn_below R14.out ht
            have R15 := Lib.hid hr; have B15 := Lib.hid (B14.out.trans (hb.mono hbase))
            have HM15 := Lib.hid ((hk _ _ _ _ (by decide) (by decide) HM14.out).trans HM14.out)
            clear ht hr hb hk
            refine hK.out _ _ HM15.out (fun _ => ?_)
            clear hK K R14 B14 HM14
            refine wpAnyH_ready (rs := [24]) (by kernel_rfl) (by simp) (AllReadyH.cons rfl (fun K hK => ?_) AllReadyH.nil)
            simp only [List.getElem_toArray, List.getElem_cons_succ, List.getElem_cons_zero]
            go_simp
            go_at_call 27
            (with_reducible refine Calls.mono (circuit_any _ _ _ _ _) ?_)
            rintro e x16 ⟨rfl, hb⟩
            have R16 := Lib.hid (R15.out.below hb); have B16 := Lib.hid (B15.out.trans (hb.mono B15.out.size))
            have HM16 := Lib.hid ((hb.block _ (lt_of_heap HM15.out)).trans HM15.out)
            clear hb
            refine hK.out _ _ HM16.out (fun _ => ?_)
            clear hK K R15 B15 HM15
            refine wpAnyH_ready (rs := [25]) (by kernel_rfl) (by simp) (AllReadyH.cons rfl (fun K hK => ?_) AllReadyH.nil)
            simp only [List.getElem_toArray, List.getElem_cons_succ, List.getElem_cons_zero]
            go_simp
            go_at_call 22
            (with_reducible refine Calls.mono (OP8.out _ _ R16.out) ?_)
            intro e x17 ht
            obtain ⟨rfl, ⟨v17, hr⟩, hb, hk⟩ := turn_below R16.out ht
            have R17 := Lib.hid hr; have B17 := Lib.hid (B16.out.trans (hb.mono hbase))
            have HM17 := Lib.hid ((hk _ _ _ _ (by decide) (by decide) HM16.out).trans HM16.out)
            clear ht hr hb hk
            refine hK.out _ _ HM17.out (fun _ => ?_)
            clear hK K R16 B16 HM16
            refine wpAnyH_ready (rs := [26]) (by kernel_rfl) (by simp) (AllReadyH.cons rfl (fun K hK => ?_) AllReadyH.nil)
            simp only [List.getElem_toArray, List.getElem_cons_succ, List.getElem_cons_zero]
            go_simp
            refine hK.out _ _ ((alloc_heap _ (lt_of_heap HM17.out)).trans HM17.out) (fun _ => ?_)
            clear hK K
            refine wpAnyH_ready (rs := [27]) (by kernel_rfl) (by simp) (AllReadyH.cons rfl (fun K hK => ?_) AllReadyH.nil)
            simp only [List.getElem_toArray, List.getElem_cons_succ, List.getElem_cons_zero]
            go_simp
            refine hK.out _ _ ((alloc_heap _ (lt_of_heap HM17.out)).trans HM17.out) (fun _ => ?_)
            clear hK K
            refine wpAnyH_done (by kernel_rfl) ?_ _
            go_wp2_with fail
            go_meet
            exact ⟨_, _, rfl, Lib.hid (B17.out.alloc B17.out.size _), Lib.hid (R17.out.below (below_new' x17 _)), Lib.hid (heap_alloc_at _ _)⟩
          simp only [List.getElem_toArray, List.getElem_cons_succ, List.getElem_cons_zero]
          go_simp
          go_at_call 27
          (with_reducible refine Calls.mono (circuit_any _ _ _ _ _) ?_)
          rintro e x1 ⟨rfl, hb⟩
          have R1 := Lib.hid (R0.out.below hb); have B1 := Lib.hid (B0.out.trans (hb.mono B0.out.size))
          clear hb
          refine hK.out _ _ trivial (fun _ => ?_)
          clear hK K R0 B0
          refine wpAnyH_ready (rs := [2, 19]) (by kernel_rfl) (by simp) (AllReadyH.cons rfl (fun K hK => ?_) (AllReadyH.cons rfl (fun K hK => ?_) AllReadyH.nil))
          rotate_left
          focus
            simp only [List.getElem_toArray, List.getElem_cons_succ, List.getElem_cons_zero]
            have hms := HMS.out
            go_simp
            clear hms
            refine hK.out _ _ trivial (fun _ => ?_)
            clear hK K
            have R2 := Lib.hid (R1.out.below (below_new' x1 (.cells z 5))); have B2 := Lib.hid (B1.out.alloc B1.out.size (.cells z 5)); have HM2 := Lib.hid (heap_alloc_at x1 (.cells z 5))
            generalize x1.alloc (.cells z 5) = x2 at R2 B2 HM2 ⊢
            generalize x1.heap.size = gm at HM2 ⊢
            clear R1 B1
            refine held_true (S := fun w' => w'.heap[gm]? = some (.cells z 5 (0, 0))) ?_
            refine wpAnyH_take (i := 20) (v := .string b7) rfl (by kernel_rfl) (by kernel_rfl) (by kernel_rfl) (fun _ _ _ h => h) (Or.inl ⟨by kernel_rfl, fun x hx => by have h := HCV.out x gm hx; simp only [List.getElem_toArray, List.getElem_cons_succ, List.getElem_cons_zero]; go_simp⟩) HM2.out ?_
            simp only [Act.put, List.setIfInBounds_toArray, List.set_cons_zero, List.set_cons_succ]
            refine wpAnyH_ready (rs := [2]) (by kernel_rfl) (by simp) (AllReadyH.cons rfl (fun K hK => ?_) AllReadyH.nil)
            simp only [List.getElem_toArray, List.getElem_cons_succ, List.getElem_cons_zero]
            go_simp
            go_at_call 22
            (with_reducible refine Calls.mono (OP1.out _ _ R2.out) ?_)
            intro e x3 ht
            obtain ⟨rfl, ⟨v3, hr⟩, hb, hk⟩ := turn_below R2.out ht
            have R3 := Lib.hid hr; have B3 := Lib.hid (B2.out.trans (hb.mono hbase))
            have HM3 := Lib.hid ((hk _ _ _ _ (by decide) (by decide) HM2.out).trans HM2.out)
            clear ht hr hb hk
            refine hK.out _ _ HM3.out (fun _ => ?_)
            clear hK K R2 B2 HM2
            refine wpAnyH_ready (rs := [4]) (by kernel_rfl) (by simp) (AllReadyH.cons rfl (fun K hK => ?_) AllReadyH.nil)
            simp only [List.getElem_toArray, List.getElem_cons_succ, List.getElem_cons_zero]
            go_simp
            go_at_call 27
            (with_reducible refine Calls.mono (circuit_any _ _ _ _ _) ?_)
            rintro e x4 ⟨rfl, hb⟩
            have R4 := Lib.hid (R3.out.below hb); have B4 := Lib.hid (B3.out.trans (hb.mono B3.out.size))
            have HM4 := Lib.hid ((hb.block _ (lt_of_heap HM3.out)).trans HM3.out)
            clear hb
            refine hK.out _ _ HM4.out (fun _ => ?_)
            clear hK K R3 B3 HM3
            refine wpAnyH_ready (rs := [5]) (by kernel_rfl) (by simp) (AllReadyH.cons rfl (fun K hK => ?_) AllReadyH.nil)
            simp only [List.getElem_toArray, List.getElem_cons_succ, List.getElem_cons_zero]
            go_simp
            go_at_call 22
            (with_reducible refine Calls.mono (OP2.out _ _ R4.out) ?_)
            intro e x5 ht
            obtain ⟨rfl, ⟨v5, hr⟩, hb, hk⟩ := turn_below R4.out ht
            have R5 := Lib.hid hr; have B5 := Lib.hid (B4.out.trans (hb.mono hbase))
            have HM5 := Lib.hid ((hk _ _ _ _ (by decide) (by decide) HM4.out).trans HM4.out)
            clear ht hr hb hk
            refine hK.out _ _ HM5.out (fun _ => ?_)
            clear hK K R4 B4 HM4
            refine wpAnyH_ready (rs := [7]) (by kernel_rfl) (by simp) (AllReadyH.cons rfl (fun K hK => ?_) AllReadyH.nil)
            simp only [List.getElem_toArray, List.getElem_cons_succ, List.getElem_cons_zero]
            go_simp
            go_at_call 27
            (with_reducible refine Calls.mono (circuit_any _ _ _ _ _) ?_)
            rintro e x6 ⟨rfl, hb⟩
            have R6 := Lib.hid (R5.out.below hb); have B6 := Lib.hid (B5.out.trans (hb.mono B5.out.size))
            have HM6 := Lib.hid ((hb.block _ (lt_of_heap HM5.out)).trans HM5.out)
            clear hb
            refine hK.out _ _ HM6.out (fun _ => ?_)
            clear hK K R5 B5 HM5
            refine wpAnyH_ready (rs := [8]) (by kernel_rfl) (by simp) (AllReadyH.cons rfl (fun K hK => ?_) AllReadyH.nil)
            simp only [List.getElem_toArray, List.getElem_cons_succ, List.getElem_cons_zero]
            go_simp
            go_at_call 22
            (with_reducible refine Calls.mono (OP3.out _ _ R6.out) ?_)
            intro e x7 ht
            obtain ⟨rfl, ⟨v7, hr⟩, hb, hk⟩ := turn_below R6.out ht
            have R7 := Lib.hid hr; have B7 := Lib.hid (B6.out.trans (hb.mono hbase))
            have HM7 := Lib.hid ((hk _ _ _ _ (by decide) (by decide) HM6.out).trans HM6.out)
            clear ht hr hb hk
            refine hK.out _ _ HM7.out (fun _ => ?_)
            clear hK K R6 B6 HM6
            refine wpAnyH_ready (rs := [10]) (by kernel_rfl) (by simp) (AllReadyH.cons rfl (fun K hK => ?_) AllReadyH.nil)
            simp only [List.getElem_toArray, List.getElem_cons_succ, List.getElem_cons_zero]
            go_simp
            go_at_call 27
            (with_reducible refine Calls.mono (circuit_any _ _ _ _ _) ?_)
            rintro e x8 ⟨rfl, hb⟩
            have R8 := Lib.hid (R7.out.below hb); have B8 := Lib.hid (B7.out.trans (hb.mono B7.out.size))
            have HM8 := Lib.hid ((hb.block _ (lt_of_heap HM7.out)).trans HM7.out)
            clear hb
            refine hK.out _ _ HM8.out (fun _ => ?_)
            clear hK K R7 B7 HM7
            refine wpAnyH_ready (rs := [11]) (by kernel_rfl) (by simp) (AllReadyH.cons rfl (fun K hK => ?_) AllReadyH.nil)
            simp only [List.getElem_toArray, List.getElem_cons_succ, List.getElem_cons_zero]
            go_simp
            go_at_call 22
            (with_reducible refine Calls.mono (OP4.out _ _ R8.out) ?_)
            intro e x9 ht
            obtain ⟨rfl, ⟨v9, hr⟩, hb, hk⟩ := turn_below R8.out ht
            have R9 := Lib.hid hr; have B9 := Lib.hid (B8.out.trans (hb.mono hbase))
            have HM9 := Lib.hid ((hk _ _ _ _ (by decide) (by decide) HM8.out).trans HM8.out)
            clear ht hr hb hk
            refine hK.out _ _ HM9.out (fun _ => ?_)
            clear hK K R8 B8 HM8
            refine wpAnyH_ready (rs := [13]) (by kernel_rfl) (by simp) (AllReadyH.cons rfl (fun K hK => ?_) AllReadyH.nil)
            simp only [List.getElem_toArray, List.getElem_cons_succ, List.getElem_cons_zero]
            go_simp
            go_at_call 27
            (with_reducible refine Calls.mono (circuit_any _ _ _ _ _) ?_)
            rintro e x10 ⟨rfl, hb⟩
            have R10 := Lib.hid (R9.out.below hb); have B10 := Lib.hid (B9.out.trans (hb.mono B9.out.size))
            have HM10 := Lib.hid ((hb.block _ (lt_of_heap HM9.out)).trans HM9.out)
            clear hb
            refine hK.out _ _ HM10.out (fun _ => ?_)
            clear hK K R9 B9 HM9
            refine wpAnyH_ready (rs := [14]) (by kernel_rfl) (by simp) (AllReadyH.cons rfl (fun K hK => ?_) AllReadyH.nil)
            simp only [List.getElem_toArray, List.getElem_cons_succ, List.getElem_cons_zero]
            go_simp
            go_at_call 22
            (with_reducible refine Calls.mono (OP5.out _ _ R10.out) ?_)
            intro e x11 ht
            obtain ⟨rfl, ⟨v11, hr⟩, hb, hk⟩ := turn_below R10.out ht
            have R11 := Lib.hid hr; have B11 := Lib.hid (B10.out.trans (hb.mono hbase))
            have HM11 := Lib.hid ((hk _ _ _ _ (by decide) (by decide) HM10.out).trans HM10.out)
            clear ht hr hb hk
            refine hK.out _ _ HM11.out (fun _ => ?_)
            clear hK K R10 B10 HM10
            refine wpAnyH_ready (rs := [16]) (by kernel_rfl) (by simp) (AllReadyH.cons rfl (fun K hK => ?_) AllReadyH.nil)
            simp only [List.getElem_toArray, List.getElem_cons_succ, List.getElem_cons_zero]
            go_simp
            go_at_call 27
            (with_reducible refine Calls.mono (circuit_any _ _ _ _ _) ?_)
            rintro e x12 ⟨rfl, hb⟩
            have R12 := Lib.hid (R11.out.below hb); have B12 := Lib.hid (B11.out.trans (hb.mono B11.out.size))
            have HM12 := Lib.hid ((hb.block _ (lt_of_heap HM11.out)).trans HM11.out)
            clear hb
            refine hK.out _ _ HM12.out (fun _ => ?_)
            clear hK K R11 B11 HM11
            refine wpAnyH_ready (rs := [17]) (by kernel_rfl) (by simp) (AllReadyH.cons rfl (fun K hK => ?_) AllReadyH.nil)
            simp only [List.getElem_toArray, List.getElem_cons_succ, List.getElem_cons_zero]
            go_simp
            go_at_call 22
            (with_reducible refine Calls.mono (OP6.out _ _ R12.out) ?_)
            intro e x13 ht
            obtain ⟨rfl, ⟨v13, hr⟩, hb, hk⟩ := turn_below R12.out ht
            have R13 := Lib.hid hr; have B13 := Lib.hid (B12.out.trans (hb.mono hbase))
            have HM13 := Lib.hid ((hk _ _ _ _ (by decide) (by decide) HM12.out).trans HM12.out)
            clear ht hr hb hk
            refine hK.out _ _ HM13.out (fun _ => ?_)
            clear hK K R12 B12 HM12
            refine wpAnyH_ready (rs := [21]) (by kernel_rfl) (by simp) (AllReadyH.cons rfl (fun K hK => ?_) AllReadyH.nil)
            simp only [List.getElem_toArray, List.getElem_cons_succ, List.getElem_cons_zero]
            go_simp
            go_at_call 27
            (with_reducible refine Calls.mono (circuit_any _ _ _ _ _) ?_)
            rintro e x14 ⟨rfl, hb⟩
            have R14 := Lib.hid (R13.out.below hb); have B14 := Lib.hid (B13.out.trans (hb.mono B13.out.size))
            have HM14 := Lib.hid ((hb.block _ (lt_of_heap HM13.out)).trans HM13.out)
            clear hb
            refine hK.out _ _ HM14.out (fun _ => ?_)
            clear hK K R13 B13 HM13
            refine wpAnyH_ready (rs := [22]) (by kernel_rfl) (by simp) (AllReadyH.cons rfl (fun K hK => ?_) AllReadyH.nil)
            simp only [List.getElem_toArray, List.getElem_cons_succ, List.getElem_cons_zero]
            go_simp
            go_at_call 22
            (with_reducible refine Calls.mono (OP7.out _ _ R14.out) ?_)
            intro e x15 ht
            obtain ⟨rfl, ⟨v15, hr⟩, hb, hk⟩ := turn_below R14.out ht
            have R15 := Lib.hid hr; have B15 := Lib.hid (B14.out.trans (hb.mono hbase))
            have HM15 := Lib.hid ((hk _ _ _ _ (by decide) (by decide) HM14.out).trans HM14.out)
            clear ht hr hb hk
            refine hK.out _ _ HM15.out (fun _ => ?_)
            clear hK K R14 B14 HM14
            refine wpAnyH_ready (rs := [24]) (by kernel_rfl) (by simp) (AllReadyH.cons rfl (fun K hK => ?_) AllReadyH.nil)
            simp only [List.getElem_toArray, List.getElem_cons_succ, List.getElem_cons_zero]
            go_simp
            go_at_call 27
            (with_reducible refine Calls.mono (circuit_any _ _ _ _ _) ?_)
            rintro e x16 ⟨rfl, hb⟩
            have R16 := Lib.hid (R15.out.below hb); have B16 := Lib.hid (B15.out.trans (hb.mono B15.out.size))
            have HM16 := Lib.hid ((hb.block _ (lt_of_heap HM15.out)).trans HM15.out)
            clear hb
            refine hK.out _ _ HM16.out (fun _ => ?_)
            clear hK K R15 B15 HM15
            refine wpAnyH_ready (rs := [25]) (by kernel_rfl) (by simp) (AllReadyH.cons rfl (fun K hK => ?_) AllReadyH.nil)
            simp only [List.getElem_toArray, List.getElem_cons_succ, List.getElem_cons_zero]
            go_simp
            go_at_call 22
            (with_reducible refine Calls.mono (OP8.out _ _ R16.out) ?_)
            intro e x17 ht
            obtain ⟨rfl, ⟨v17, hr⟩, hb, hk⟩ := turn_below R16.out ht
            have R17 := Lib.hid hr; have B17 := Lib.hid (B16.out.trans (hb.mono hbase))
            have HM17 := Lib.hid ((hk _ _ _ _ (by decide) (by decide) HM16.out).trans HM16.out)
            clear ht hr hb hk
            refine hK.out _ _ HM17.out (fun _ => ?_)
            clear hK K R16 B16 HM16
            refine wpAnyH_ready (rs := [26]) (by kernel_rfl) (by simp) (AllReadyH.cons rfl (fun K hK => ?_) AllReadyH.nil)
            simp only [List.getElem_toArray, List.getElem_cons_succ, List.getElem_cons_zero]
            go_simp
            refine hK.out _ _ ((alloc_heap _ (lt_of_heap HM17.out)).trans HM17.out) (fun _ => ?_)
            clear hK K
            refine wpAnyH_ready (rs := [27]) (by kernel_rfl) (by simp) (AllReadyH.cons rfl (fun K hK => ?_) AllReadyH.nil)
            simp only [List.getElem_toArray, List.getElem_cons_succ, List.getElem_cons_zero]
            go_simp
            refine hK.out _ _ ((alloc_heap _ (lt_of_heap HM17.out)).trans HM17.out) (fun _ => ?_)
            clear hK K
            refine wpAnyH_done (by kernel_rfl) ?_ _
            go_wp2_with fail
            go_meet
            exact ⟨_, _, rfl, Lib.hid (B17.out.alloc B17.out.size _), Lib.hid (R17.out.below (below_new' x17 _)), Lib.hid (heap_alloc_at _ _)⟩
          simp only [List.getElem_toArray, List.getElem_cons_succ, List.getElem_cons_zero]
          go_simp
          go_at_call 22
          (with_reducible refine Calls.mono (OP1.out _ _ R1.out) ?_)
          intro e x2 ht
          obtain ⟨rfl, ⟨v2, hr⟩, hb, hk⟩ := turn_below R1.out ht
          have R2 := Lib.hid hr; have B2 := Lib.hid (B1.out.trans (hb.mono hbase))
          clear ht hr hb hk
          refine hK.out _ _ trivial (fun _ => ?_)
          clear hK K R1 B1
          refine wpAnyH_ready (rs := [4, 19]) (by kernel_rfl) (by simp) (AllReadyH.cons rfl (fun K hK => ?_) (AllReadyH.cons rfl (fun K hK => ?_) AllReadyH.nil))
          rotate_left
          focus
            simp only [List.getElem_toArray, List.getElem_cons_succ, List.getElem_cons_zero]
            have hms := HMS.out
            go_simp
            clear hms
            refine hK.out _ _ trivial (fun _ => ?_)
            clear hK K
            have R3 := Lib.hid (R2.out.below (below_new' x2 (.cells z 5))); have B3 := Lib.hid (B2.out.alloc B2.out.size (.cells z 5)); have HM3 := Lib.hid (heap_alloc_at x2 (.cells z 5))
            generalize x2.alloc (.cells z 5) = x3 at R3 B3 HM3 ⊢
            generalize x2.heap.size = gm at HM3 ⊢
            clear R2 B2
            refine held_true (S := fun w' => w'.heap[gm]? = some (.cells z 5 (0, 0))) ?_
            refine wpAnyH_take (i := 20) (v := .string b7) rfl (by kernel_rfl) (by kernel_rfl) (by kernel_rfl) (fun _ _ _ h => h) (Or.inl ⟨by kernel_rfl, fun x hx => by have h := HCV.out x gm hx; simp only [List.getElem_toArray, List.getElem_cons_succ, List.getElem_cons_zero]; go_simp⟩) HM3.out ?_
            simp only [Act.put, List.setIfInBounds_toArray, List.set_cons_zero, List.set_cons_succ]
            refine wpAnyH_ready (rs := [4]) (by kernel_rfl) (by simp) (AllReadyH.cons rfl (fun K hK => ?_) AllReadyH.nil)
            simp only [List.getElem_toArray, List.getElem_cons_succ, List.getElem_cons_zero]
            go_simp
            go_at_call 27
            (with_reducible refine Calls.mono (circuit_any _ _ _ _ _) ?_)
            rintro e x4 ⟨rfl, hb⟩
            have R4 := Lib.hid (R3.out.below hb); have B4 := Lib.hid (B3.out.trans (hb.mono B3.out.size))
            have HM4 := Lib.hid ((hb.block _ (lt_of_heap HM3.out)).trans HM3.out)
            clear hb
            refine hK.out _ _ HM4.out (fun _ => ?_)
            clear hK K R3 B3 HM3
            refine wpAnyH_ready (rs := [5]) (by kernel_rfl) (by simp) (AllReadyH.cons rfl (fun K hK => ?_) AllReadyH.nil)
            simp only [List.getElem_toArray, List.getElem_cons_succ, List.getElem_cons_zero]
            go_simp
            go_at_call 22
            (with_reducible refine Calls.mono (OP2.out _ _ R4.out) ?_)
            intro e x5 ht
            obtain ⟨rfl, ⟨v5, hr⟩, hb, hk⟩ := turn_below R4.out ht
            have R5 := Lib.hid hr; have B5 := Lib.hid (B4.out.trans (hb.mono hbase))
            have HM5 := Lib.hid ((hk _ _ _ _ (by decide) (by decide) HM4.out).trans HM4.out)
            clear ht hr hb hk
            refine hK.out _ _ HM5.out (fun _ => ?_)
            clear hK K R4 B4 HM4
            refine wpAnyH_ready (rs := [7]) (by kernel_rfl) (by simp) (AllReadyH.cons rfl (fun K hK => ?_) AllReadyH.nil)
            simp only [List.getElem_toArray, List.getElem_cons_succ, List.getElem_cons_zero]
            go_simp
            go_at_call 27
            (with_reducible refine Calls.mono (circuit_any _ _ _ _ _) ?_)
            rintro e x6 ⟨rfl, hb⟩
            have R6 := Lib.hid (R5.out.below hb); have B6 := Lib.hid (B5.out.trans (hb.mono B5.out.size))
            have HM6 := Lib.hid ((hb.block _ (lt_of_heap HM5.out)).trans HM5.out)
            clear hb
            refine hK.out _ _ HM6.out (fun _ => ?_)
            clear hK K R5 B5 HM5
            refine wpAnyH_ready (rs := [8]) (by kernel_rfl) (by simp) (AllReadyH.cons rfl (fun K hK => ?_) AllReadyH.nil)
            simp only [List.getElem_toArray, List.getElem_cons_succ, List.getElem_cons_zero]
            go_simp
            go_at_call 22
            (with_reducible refine Calls.mono (OP3.out _ _ R6.out) ?_)
            intro e x7 ht
            obtain ⟨rfl, ⟨v7, hr⟩, hb, hk⟩ := turn_below R6.out ht
            have R7 := Lib.hid hr; have B7 := Lib.hid (B6.out.trans (hb.mono hbase))
            have HM7 := Lib.hid ((hk _ _ _ _ (by decide) (by decide) HM6.out).trans HM6.out)
            clear ht hr hb hk
            refine hK.out _ _ HM7.out (fun _ => ?_)
            clear hK K R6 B6 HM6
            refine wpAnyH_ready (rs := [10]) (by kernel_rfl) (by simp) (AllReadyH.cons rfl (fun K hK => ?_) AllReadyH.nil)
            simp only [List.getElem_toArray, List.getElem_cons_succ, List.getElem_cons_zero]
            go_simp
            go_at_call 27
            (with_reducible refine Calls.mono (circuit_any _ _ _ _ _) ?_)
            rintro e x8 ⟨rfl, hb⟩
            have R8 := Lib.hid (R7.out.below hb); have B8 := Lib.hid (B7.out.trans (hb.mono B7.out.size))
            have HM8 := Lib.hid ((hb.block _ (lt_of_heap HM7.out)).trans HM7.out)
            clear hb
            refine hK.out _ _ HM8.out (fun _ => ?_)
            clear hK K R7 B7 HM7
            refine wpAnyH_ready (rs := [11]) (by kernel_rfl) (by simp) (AllReadyH.cons rfl (fun K hK => ?_) AllReadyH.nil)
            simp only [List.getElem_toArray, List.getElem_cons_succ, List.getElem_cons_zero]
            go_simp
            go_at_call 22
            (with_reducible refine Calls.mono (OP4.out _ _ R8.out) ?_)
            intro e x9 ht
            obtain ⟨rfl, ⟨v9, hr⟩, hb, hk⟩ := turn_below R8.out ht
            have R9 := Lib.hid hr; have B9 := Lib.hid (B8.out.trans (hb.mono hbase))
            have HM9 := Lib.hid ((hk _ _ _ _ (by decide) (by decide) HM8.out).trans HM8.out)
            clear ht hr hb hk
            refine hK.out _ _ HM9.out (fun _ => ?_)
            clear hK K R8 B8 HM8
            refine wpAnyH_ready (rs := [13]) (by kernel_rfl) (by simp) (AllReadyH.cons rfl (fun K hK => ?_) AllReadyH.nil)
            simp only [List.getElem_toArray, List.getElem_cons_succ, List.getElem_cons_zero]
            go_simp
            go_at_call 27
            (with_reducible refine Calls.mono (circuit_any _ _ _ _ _) ?_)
            rintro e x10 ⟨rfl, hb⟩
            have R10 := Lib.hid (R9.out.below hb); have B10 := Lib.hid (B9.out.trans (hb.mono B9.out.size))
            have HM10 := Lib.hid ((hb.block _ (lt_of_heap HM9.out)).trans HM9.out)
            clear hb
            refine hK.out _ _ HM10.out (fun _ => ?_)
            clear hK K R9 B9 HM9
            refine wpAnyH_ready (rs := [14]) (by kernel_rfl) (by simp) (AllReadyH.cons rfl (fun K hK => ?_) AllReadyH.nil)
            simp only [List.getElem_toArray, List.getElem_cons_succ, List.getElem_cons_zero]
            go_simp
            go_at_call 22
            (with_reducible refine Calls.mono (OP5.out _ _ R10.out) ?_)
            intro e x11 ht
            obtain ⟨rfl, ⟨v11, hr⟩, hb, hk⟩ := turn_below R10.out ht
            have R11 := Lib.hid hr; have B11 := Lib.hid (B10.out.trans (hb.mono hbase))
            have HM11 := Lib.hid ((hk _ _ _ _ (by decide) (by decide) HM10.out).trans HM10.out)
            clear ht hr hb hk
            refine hK.out _ _ HM11.out (fun _ => ?_)
            clear hK K R10 B10 HM10
            refine wpAnyH_ready (rs := [16]) (by kernel_rfl) (by simp) (AllReadyH.cons rfl (fun K hK => ?_) AllReadyH.nil)
            simp only [List.getElem_toArray, List.getElem_cons_succ, List.getElem_cons_zero]
            go_simp
            go_at_call 27
            (with_reducible refine Calls.mono (circuit_any _ _ _ _ _) ?_)
            rintro e x12 ⟨rfl, hb⟩
            have R12 := Lib.hid (R11.out.below hb); have B12 := Lib.hid (B11.out.trans (hb.mono B11.out.size))
            have HM12 := Lib.hid ((hb.block _ (lt_of_heap HM11.out)).trans HM11.out)
            clear hb
            refine hK.out _ _ HM12.out (fun _ => ?_)
            clear hK K R11 B11 HM11
            refine wpAnyH_ready (rs := [17]) (by kernel_rfl) (by simp) (AllReadyH.cons rfl (fun K hK => ?_) AllReadyH.nil)
            simp only [List.getElem_toArray, List.getElem_cons_succ, List.getElem_cons_zero]
            go_simp
            go_at_call 22
            (with_reducible refine Calls.mono (OP6.out _ _ R12.out) ?_)
            intro e x13 ht
            obtain ⟨rfl, ⟨v13, hr⟩, hb, hk⟩ := turn_below R12.out ht
            have R13 := Lib.hid hr; have B13 := Lib.hid (B12.out.trans (hb.mono hbase))
            have HM13 := Lib.hid ((hk _ _ _ _ (by decide) (by decide) HM12.out).trans HM12.out)
            clear ht hr hb hk
            refine hK.out _ _ HM13.out (fun _ => ?_)
            clear hK K R12 B12 HM12
            refine wpAnyH_ready (rs := [21]) (by kernel_rfl) (by simp) (AllReadyH.cons rfl (fun K hK => ?_) AllReadyH.nil)
            simp only [List.getElem_toArray, List.getElem_cons_succ, List.getElem_cons_zero]
            go_simp
            go_at_call 27
            (with_reducible refine Calls.mono (circuit_any _ _ _ _ _) ?_)
            rintro e x14 ⟨rfl, hb⟩
            have R14 := Lib.hid (R13.out.below hb); have B14 := Lib.hid (B13.out.trans (hb.mono B13.out.size))
            have HM14 := Lib.hid ((hb.block _ (lt_of_heap HM13.out)).trans HM13.out)
            clear hb
            refine hK.out _ _ HM14.out (fun _ => ?_)
            clear hK K R13 B13 HM13
            refine wpAnyH_ready (rs := [22]) (by kernel_rfl) (by simp) (AllReadyH.cons rfl (fun K hK => ?_) AllReadyH.nil)
            simp only [List.getElem_toArray, List.getElem_cons_succ, List.getElem_cons_zero]
            go_simp
            go_at_call 22
            (with_reducible refine Calls.mono (OP7.out _ _ R14.out) ?_)
            intro e x15 ht
            obtain ⟨rfl, ⟨v15, hr⟩, hb, hk⟩ := turn_below R14.out ht
            have R15 := Lib.hid hr; have B15 := Lib.hid (B14.out.trans (hb.mono hbase))
            have HM15 := Lib.hid ((hk _ _ _ _ (by decide) (by decide) HM14.out).trans HM14.out)
            clear ht hr hb hk
            refine hK.out _ _ HM15.out (fun _ => ?_)
            clear hK K R14 B14 HM14
            refine wpAnyH_ready (rs := [24]) (by kernel_rfl) (by simp) (AllReadyH.cons rfl (fun K hK => ?_) AllReadyH.nil)
            simp only [List.getElem_toArray, List.getElem_cons_succ, List.getElem_cons_zero]
            go_simp
            go_at_call 27
            (with_reducible refine Calls.mono (circuit_any _ _ _ _ _) ?_)
            rintro e x16 ⟨rfl, hb⟩
            have R16 := Lib.hid (R15.out.below hb); have B16 := Lib.hid (B15.out.trans (hb.mono B15.out.size))
            have HM16 := Lib.hid ((hb.block _ (lt_of_heap HM15.out)).trans HM15.out)
            clear hb
            refine hK.out _ _ HM16.out (fun _ => ?_)
            clear hK K R15 B15 HM15
            refine wpAnyH_ready (rs := [25]) (by kernel_rfl) (by simp) (AllReadyH.cons rfl (fun K hK => ?_) AllReadyH.nil)
            simp only [List.getElem_toArray, List.getElem_cons_succ, List.getElem_cons_zero]
            go_simp
            go_at_call 22
            (with_reducible refine Calls.mono (OP8.out _ _ R16.out) ?_)
            intro e x17 ht
            obtain ⟨rfl, ⟨v17, hr⟩, hb, hk⟩ := turn_below R16.out ht
            have R17 := Lib.hid hr; have B17 := Lib.hid (B16.out.trans (hb.mono hbase))
            have HM17 := Lib.hid ((hk _ _ _ _ (by decide) (by decide) HM16.out).trans HM16.out)
            clear ht hr hb hk
            refine hK.out _ _ HM17.out (fun _ => ?_)
            clear hK K R16 B16 HM16
            refine wpAnyH_ready (rs := [26]) (by kernel_rfl) (by simp) (AllReadyH.cons rfl (fun K hK => ?_) AllReadyH.nil)
            simp only [List.getElem_toArray, List.getElem_cons_succ, List.getElem_cons_zero]
            go_simp
            refine hK.out _ _ ((alloc_heap _ (lt_of_heap HM17.out)).trans HM17.out) (fun _ => ?_)
            clear hK K
            refine wpAnyH_ready (rs := [27]) (by kernel_rfl) (by simp) (AllReadyH.cons rfl (fun K hK => ?_) AllReadyH.nil)
            simp only [List.getElem_toArray, List.getElem_cons_succ, List.getElem_cons_zero]
            go_simp
            refine hK.out _ _ ((alloc_heap _ (lt_of_heap HM17.out)).trans HM17.out) (fun _ => ?_)
            clear hK K
            refine wpAnyH_done (by kernel_rfl) ?_ _
            go_wp2_with fail
            go_meet
            exact ⟨_, _, rfl, Lib.hid (B17.out.alloc B17.out.size _), Lib.hid (R17.out.below (below_new' x17 _)), Lib.hid (heap_alloc_at _ _)⟩
          simp only [List.getElem_toArray, List.getElem_cons_succ, List.getElem_cons_zero]
          go_simp
          go_at_call 27
          (with_reducible refine Calls.mono (circuit_any _ _ _ _ _) ?_)
          rintro e x3 ⟨rfl, hb⟩
          have R3 := Lib.hid (R2.out.below hb); have B3 := Lib.hid (B2.out.trans (hb.mono B2.out.size))
          clear hb
          refine hK.out _ _ trivial (fun _ => ?_)
          clear hK K R2 B2
          refine wpAnyH_ready (rs := [5, 19]) (by kernel_rfl) (by simp) (AllReadyH.cons rfl (fun K hK => ?_) (AllReadyH.cons rfl (fun K hK => ?_) AllReadyH.nil))
          rotate_left
          focus
            simp only [List.getElem_toArray, List.getElem_cons_succ, List.getElem_cons_zero]
            have hms := HMS.out
            go_simp
            clear hms
            refine hK.out _ _ trivial (fun _ => ?_)
            clear hK K
            have R4 := Lib.hid (R3.out.below (below_new' x3 (.cells z 5))); have B4 := Lib.hid (B3.out.alloc B3.out.size (.cells z 5)); have HM4 := Lib.hid (heap_alloc_at x3 (.cells z 5))
            generalize x3.alloc (.cells z 5) = x4 at R4 B4 HM4 ⊢
            generalize x3.heap.size = gm at HM4 ⊢
            clear R3 B3
            refine held_true (S := fun w' => w'.heap[gm]? = some (.cells z 5 (0, 0))) ?_
            refine wpAnyH_take (i := 20) (v := .string b7) rfl (by kernel_rfl) (by kernel_rfl) (by kernel_rfl) (fun _ _ _ h => h) (Or.inl ⟨by kernel_rfl, fun x hx => by have h := HCV.out x gm hx; simp only [List.getElem_toArray, List.getElem_cons_succ, List.getElem_cons_zero]; go_simp⟩) HM4.out ?_
            simp only [Act.put, List.setIfInBounds_toArray, List.set_cons_zero, List.set_cons_succ]
            refine wpAnyH_ready (rs := [5]) (by kernel_rfl) (by simp) (AllReadyH.cons rfl (fun K hK => ?_) AllReadyH.nil)
            simp only [List.getElem_toArray, List.getElem_cons_succ, List.getElem_cons_zero]
            go_simp
            go_at_call 22
            (with_reducible refine Calls.mono (OP2.out _ _ R4.out) ?_)
            intro e x5 ht
            obtain ⟨rfl, ⟨v5, hr⟩, hb, hk⟩ := turn_below R4.out ht
            have R5 := Lib.hid hr; have B5 := Lib.hid (B4.out.trans (hb.mono hbase))
            have HM5 := Lib.hid ((hk _ _ _ _ (by decide) (by decide) HM4.out).trans HM4.out)
            clear ht hr hb hk
            refine hK.out _ _ HM5.out (fun _ => ?_)
            clear hK K R4 B4 HM4
            refine wpAnyH_ready (rs := [7]) (by kernel_rfl) (by simp) (AllReadyH.cons rfl (fun K hK => ?_) AllReadyH.nil)
            simp only [List.getElem_toArray, List.getElem_cons_succ, List.getElem_cons_zero]
            go_simp
            go_at_call 27
            (with_reducible refine Calls.mono (circuit_any _ _ _ _ _) ?_)
            rintro e x6 ⟨rfl, hb⟩
            have R6 := Lib.hid (R5.out.below hb); have B6 := Lib.hid (B5.out.trans (hb.mono B5.out.size))
            have HM6 := Lib.hid ((hb.block _ (lt_of_heap HM5.out)).trans HM5.out)
            clear hb
            refine hK.out _ _ HM6.out (fun _ => ?_)
            clear hK K R5 B5 HM5
            refine wpAnyH_ready (rs := [8]) (by kernel_rfl) (by simp) (AllReadyH.cons rfl (fun K hK => ?_) AllReadyH.nil)
            simp only [List.getElem_toArray, List.getElem_cons_succ, List.getElem_cons_zero]
            go_simp
            go_at_call 22
            (with_reducible refine Calls.mono (OP3.out _ _ R6.out) ?_)
            intro e x7 ht
            obtain ⟨rfl, ⟨v7, hr⟩, hb, hk⟩ := turn_below R6.out ht
            have R7 := Lib.hid hr; have B7 := Lib.hid (B6.out.trans (hb.mono hbase))
            have HM7 := Lib.hid ((hk _ _ _ _ (by decide) (by decide) HM6.out).trans HM6.out)
            clear ht hr hb hk
            refine hK.out _ _ HM7.out (fun _ => ?_)
            clear hK K R6 B6 HM6
            refine wpAnyH_ready (rs := [10]) (by kernel_rfl) (by simp) (AllReadyH.cons rfl (fun K hK => ?_) AllReadyH.nil)
            simp only [List.getElem_toArray, List.getElem_cons_succ, List.getElem_cons_zero]
            go_simp
            go_at_call 27
            (with_reducible refine Calls.mono (circuit_any _ _ _ _ _) ?_)
            rintro e x8 ⟨rfl, hb⟩
            have R8 := Lib.hid (R7.out.below hb); have B8 := Lib.hid (B7.out.trans (hb.mono B7.out.size))
            have HM8 := Lib.hid ((hb.block _ (lt_of_heap HM7.out)).trans HM7.out)
            clear hb
            refine hK.out _ _ HM8.out (fun _ => ?_)
            clear hK K R7 B7 HM7
            refine wpAnyH_ready (rs := [11]) (by kernel_rfl) (by simp) (AllReadyH.cons rfl (fun K hK => ?_) AllReadyH.nil)
            simp only [List.getElem_toArray, List.getElem_cons_succ, List.getElem_cons_zero]
            go_simp
            go_at_call 22
            (with_reducible refine Calls.mono (OP4.out _ _ R8.out) ?_)
            intro e x9 ht
            obtain ⟨rfl, ⟨v9, hr⟩, hb, hk⟩ := turn_below R8.out ht
            have R9 := Lib.hid hr; have B9 := Lib.hid (B8.out.trans (hb.mono hbase))
            have HM9 := Lib.hid ((hk _ _ _ _ (by decide) (by decide) HM8.out).trans HM8.out)
            clear ht hr hb hk
            refine hK.out _ _ HM9.out (fun _ => ?_)
            clear hK K R8 B8 HM8
            refine wpAnyH_ready (rs := [13]) (by kernel_rfl) (by simp) (AllReadyH.cons rfl (fun K hK => ?_) AllReadyH.nil)
            simp only [List.getElem_toArray, List.getElem_cons_succ, List.getElem_cons_zero]
            go_simp
            go_at_call 27
            (with_reducible refine Calls.mono (circuit_any _ _ _ _ _) ?_)
            rintro e x10 ⟨rfl, hb⟩
            have R10 := Lib.hid (R9.out.below hb); have B10 := Lib.hid (B9.out.trans (hb.mono B9.out.size))
            have HM10 := Lib.hid ((hb.block _ (lt_of_heap HM9.out)).trans HM9.out)
            clear hb
            refine hK.out _ _ HM10.out (fun _ => ?_)
            clear hK K R9 B9 HM9
            refine wpAnyH_ready (rs := [14]) (by kernel_rfl) (by simp) (AllReadyH.cons rfl (fun K hK => ?_) AllReadyH.nil)
            simp only [List.getElem_toArray, List.getElem_cons_succ, List.getElem_cons_zero]
            go_simp
            go_at_call 22
            (with_reducible refine Calls.mono (OP5.out _ _ R10.out) ?_)
            intro e x11 ht
            obtain ⟨rfl, ⟨v11, hr⟩, hb, hk⟩ := turn_below R10.out ht
            have R11 := Lib.hid hr; have B11 := Lib.hid (B10.out.trans (hb.mono hbase))
            have HM11 := Lib.hid ((hk _ _ _ _ (by decide) (by decide) HM10.out).trans HM10.out)
            clear ht hr hb hk
            refine hK.out _ _ HM11.out (fun _ => ?_)
            clear hK K R10 B10 HM10
            refine wpAnyH_ready (rs := [16]) (by kernel_rfl) (by simp) (AllReadyH.cons rfl (fun K hK => ?_) AllReadyH.nil)
            simp only [List.getElem_toArray, List.getElem_cons_succ, List.getElem_cons_zero]
            go_simp
            go_at_call 27
            (with_reducible refine Calls.mono (circuit_any _ _ _ _ _) ?_)
            rintro e x12 ⟨rfl, hb⟩
            have R12 := Lib.hid (R11.out.below hb); have B12 := Lib.hid (B11.out.trans (hb.mono B11.out.size))
            have HM12 := Lib.hid ((hb.block _ (lt_of_heap HM11.out)).trans HM11.out)
            clear hb
            refine hK.out _ _ HM12.out (fun _ => ?_)
            clear hK K R11 B11 HM11
            refine wpAnyH_ready (rs := [17]) (by kernel_rfl) (by simp) (AllReadyH.cons rfl (fun K hK => ?_) AllReadyH.nil)
            simp only [List.getElem_toArray, List.getElem_cons_succ, List.getElem_cons_zero]
            go_simp
            go_at_call 22
            (with_reducible refine Calls.mono (OP6.out _ _ R12.out) ?_)
            intro e x13 ht
            obtain ⟨rfl, ⟨v13, hr⟩, hb, hk⟩ := turn_below R12.out ht
            have R13 := Lib.hid hr; have B13 := Lib.hid (B12.out.trans (hb.mono hbase))
            have HM13 := Lib.hid ((hk _ _ _ _ (by decide) (by decide) HM12.out).trans HM12.out)
            clear ht hr hb hk
            refine hK.out _ _ HM13.out (fun _ => ?_)
            clear hK K R12 B12 HM12
            refine wpAnyH_ready (rs := [21]) (by kernel_rfl) (by simp) (AllReadyH.cons rfl (fun K hK => ?_) AllReadyH.nil)
            simp only [List.getElem_toArray, List.getElem_cons_succ, List.getElem_cons_zero]
            go_simp
            go_at_call 27
            (with_reducible refine Calls.mono (circuit_any _ _ _ _ _) ?_)
            rintro e x14 ⟨rfl, hb⟩
            have R14 := Lib.hid (R13.out.below hb); have B14 := Lib.hid (B13.out.trans (hb.mono B13.out.size))
            have HM14 := Lib.hid ((hb.block _ (lt_of_heap HM13.out)).trans HM13.out)
            clear hb
            refine hK.out _ _ HM14.out (fun _ => ?_)
            clear hK K R13 B13 HM13
            refine wpAnyH_ready (rs := [22]) (by kernel_rfl) (by simp) (AllReadyH.cons rfl (fun K hK => ?_) AllReadyH.nil)
            simp only [List.getElem_toArray, List.getElem_cons_succ, List.getElem_cons_zero]
            go_simp
            go_at_call 22
            (with_reducible refine Calls.mono (OP7.out _ _ R14.out) ?_)
            intro e x15 ht
            obtain ⟨rfl, ⟨v15, hr⟩, hb, hk⟩ := turn_below R14.out ht
            have R15 := Lib.hid hr; have B15 := Lib.hid (B14.out.trans (hb.mono hbase))
            have HM15 := Lib.hid ((hk _ _ _ _ (by decide) (by decide) HM14.out).trans HM14.out)
            clear ht hr hb hk
            refine hK.out _ _ HM15.out (fun _ => ?_)
            clear hK K R14 B14 HM14
            refine wpAnyH_ready (rs := [24]) (by kernel_rfl) (by simp) (AllReadyH.cons rfl (fun K hK => ?_) AllReadyH.nil)
            simp only [List.getElem_toArray, List.getElem_cons_succ, List.getElem_cons_zero]
            go_simp
            go_at_call 27
            (with_reducible refine Calls.mono (circuit_any _ _ _ _ _) ?_)
            rintro e x16 ⟨rfl, hb⟩
            have R16 := Lib.hid (R15.out.below hb); have B16 := Lib.hid (B15.out.trans (hb.mono B15.out.size))
            have HM16 := Lib.hid ((hb.block _ (lt_of_heap HM15.out)).trans HM15.out)
            clear hb
            refine hK.out _ _ HM16.out (fun _ => ?_)
            clear hK K R15 B15 HM15
            refine wpAnyH_ready (rs := [25]) (by kernel_rfl) (by simp) (AllReadyH.cons rfl (fun K hK => ?_) AllReadyH.nil)
            simp only [List.getElem_toArray, List.getElem_cons_succ, List.getElem_cons_zero]
            go_simp
            go_at_call 22
            (with_reducible refine Calls.mono (OP8.out _ _ R16.out) ?_)
            intro e x17 ht
            obtain ⟨rfl, ⟨v17, hr⟩, hb, hk⟩ := turn_below R16.out ht
            have R17 := Lib.hid hr; have B17 := Lib.hid (B16.out.trans (hb.mono hbase))
            have HM17 := Lib.hid ((hk _ _ _ _ (by decide) (by decide) HM16.out).trans HM16.out)
            clear ht hr hb hk
            refine hK.out _ _ HM17.out (fun _ => ?_)
            clear hK K R16 B16 HM16
            refine wpAnyH_ready (rs := [26]) (by kernel_rfl) (by simp) (AllReadyH.cons rfl (fun K hK => ?_) AllReadyH.nil)
            simp only [List.getElem_toArray, List.getElem_cons_succ, List.getElem_cons_zero]
            go_simp
            refine hK.out _ _ ((alloc_heap _ (lt_of_heap HM17.out)).trans HM17.out) (fun _ => ?_)
            clear hK K
            refine wpAnyH_ready (rs := [27]) (by kernel_rfl) (by simp) (AllReadyH.cons rfl (fun K hK => ?_) AllReadyH.nil)
            simp only [List.getElem_toArray, List.getElem_cons_succ, List.getElem_cons_zero]
            go_simp
            refine hK.out _ _ ((alloc_heap _ (lt_of_heap HM17.out)).trans HM17.out) (fun _ => ?_)
            clear hK K
            refine wpAnyH_done (by kernel_rfl) ?_ _
            go_wp2_with fail
            go_meet
            exact ⟨_, _, rfl, Lib.hid (B17.out.alloc B17.out.size _), Lib.hid (R17.out.below (below_new' x17 _)), Lib.hid (heap_alloc_at _ _)⟩
          simp only [List.getElem_toArray, List.getElem_cons_succ, List.getElem_cons_zero]
          go_simp
          go_at_call 22
          (with_reducible refine Calls.mono (OP2.out _ _ R3.out) ?_)
          intro e x4 ht
          obtain ⟨rfl, ⟨v4, hr⟩, hb, hk⟩ := turn_below R3.out ht
          have R4 := Lib.hid hr; have B4 := Lib.hid (B3.out.trans (hb.mono hbase))
          clear ht hr hb hk
          refine hK.out _ _ trivial (fun _ => ?_)
          clear hK K R3 B3
          refine wpAnyH_ready (rs := [7, 19]) (by kernel_rfl) (by simp) (AllReadyH.cons rfl (fun K hK => ?_) (AllReadyH.cons rfl (fun K hK => ?_) AllReadyH.nil))
          rotate_left
          focus
            simp only [List.getElem_toArray, List.getElem_cons_succ, List.getElem_cons_zero]
            have hms := HMS.out
            go_simp
            clear hms
            refine hK.out _ _ trivial (fun _ => ?_)
            clear hK K
            have R5 := Lib.hid (R4.out.below (below_new' x4 (.cells z 5))); have B5 := Lib.hid (B4.out.alloc B4.out.size (.cells z 5)); have HM5 := Lib.hid (heap_alloc_at x4 (.cells z 5))
            generalize x4.alloc (.cells z 5) = x5 at R5 B5 HM5 ⊢
            generalize x4.heap.size = gm at HM5 ⊢
            clear R4 B4
            refine held_true (S := fun w' => w'.heap[gm]? = some (.cells z 5 (0, 0))) ?_
            refine wpAnyH_take (i := 20) (v := .string b7) rfl (by kernel_rfl) (by kernel_rfl) (by kernel_rfl) (fun _ _ _ h => h) (Or.inl ⟨by kernel_rfl, fun x hx => by have h := HCV.out x gm hx; simp only [List.getElem_toArray, List.getElem_cons_succ, List.getElem_cons_zero]; go_simp⟩) HM5.out ?_
            simp only [Act.put, List.setIfInBounds_toArray, List.set_cons_zero, List.set_cons_succ]
            refine wpAnyH_ready (rs := [7]) (by kernel_rfl) (by simp) (AllReadyH.cons rfl (fun K hK => ?_) AllReadyH.nil)
            simp only [List.getElem_toArray, List.getElem_cons_succ, List.getElem_cons_zero]
            go_simp
            go_at_call 27
            (with_reducible refine Calls.mono (circuit_any _ _ _ _ _) ?_)
            rintro e x6 ⟨rfl, hb⟩
            have R6 := Lib.hid (R5.out.below hb); have B6 := Lib.hid (B5.out.trans (hb.mono B5.out.size))
            have HM6 := Lib.hid ((hb.block _ (lt_of_heap HM5.out)).trans HM5.out)
            clear hb
            refine hK.out _ _ HM6.out (fun _ => ?_)
            clear hK K R5 B5 HM5
            refine wpAnyH_ready (rs := [8]) (by kernel_rfl) (by simp) (AllReadyH.cons rfl (fun K hK => ?_) AllReadyH.nil)
            simp only [List.getElem_toArray, List.getElem_cons_succ, List.getElem_cons_zero]
            go_simp
            go_at_call 22
            (with_reducible refine Calls.mono (OP3.out _ _ R6.out) ?_)
            intro e x7 ht
            obtain ⟨rfl, ⟨v7, hr⟩, hb, hk⟩ := turn_below R6.out ht
            have R7 := Lib.hid hr; have B7 := Lib.hid (B6.out.trans (hb.mono hbase))
            have HM7 := Lib.hid ((hk _ _ _ _ (by decide) (by decide) HM6.out).trans HM6.out)
            clear ht hr hb hk
            refine hK.out _ _ HM7.out (fun _ => ?_)
            clear hK K R6 B6 HM6
            refine wpAnyH_ready (rs := [10]) (by kernel_rfl) (by simp) (AllReadyH.cons rfl (fun K hK => ?_) AllReadyH.nil)
            simp only [List.getElem_toArray, List.getElem_cons_succ, List.getElem_cons_zero]
            go_simp
            go_at_call 27
            (with_reducible refine Calls.mono (circuit_any _ _ _ _ _) ?_)
            rintro e x8 ⟨rfl, hb⟩
            have R8 := Lib.hid (R7.out.below hb); have B8 := Lib.hid (B7.out.trans (hb.mono B7.out.size))
            have HM8 := Lib.hid ((hb.block _ (lt_of_heap HM7.out)).trans HM7.out)
            clear hb
            refine hK.out _ _ HM8.out (fun _ => ?_)
            clear hK K R7 B7 HM7
            refine wpAnyH_ready (rs := [11]) (by kernel_rfl) (by simp) (AllReadyH.cons rfl (fun K hK => ?_) AllReadyH.nil)
            simp only [List.getElem_toArray, List.getElem_cons_succ, List.getElem_cons_zero]
            go_simp
            go_at_call 22
            (with_reducible refine Calls.mono (OP4.out _ _ R8.out) ?_)
            intro e x9 ht
            obtain ⟨rfl, ⟨v9, hr⟩, hb, hk⟩ := turn_below R8.out ht
            have R9 := Lib.hid hr; have B9 := Lib.hid (B8.out.trans (hb.mono hbase))
            have HM9 := Lib.hid ((hk _ _ _ _ (by decide) (by decide) HM8.out).trans HM8.out)
            clear ht hr hb hk
            refine hK.out _ _ HM9.out (fun _ => ?_)
            clear hK K R8 B8 HM8
            refine wpAnyH_ready (rs := [13]) (by kernel_rfl) (by simp) (AllReadyH.cons rfl (fun K hK => ?_) AllReadyH.nil)
            simp only [List.getElem_toArray, List.getElem_cons_succ, List.getElem_cons_zero]
            go_simp
            go_at_call 27
            (with_reducible refine Calls.mono (circuit_any _ _ _ _ _) ?_)
            rintro e x10 ⟨rfl, hb⟩
            have R10 := Lib.hid (R9.out.below hb); have B10 := Lib.hid (B9.out.trans (hb.mono B9.out.size))
            have HM10 := Lib.hid ((hb.block _ (lt_of_heap HM9.out)).trans HM9.out)
            clear hb
            refine hK.out _ _ HM10.out (fun _ => ?_)
            clear hK K R9 B9 HM9
            refine wpAnyH_ready (rs := [14]) (by kernel_rfl) (by simp) (AllReadyH.cons rfl (fun K hK => ?_) AllReadyH.nil)
            simp only [List.getElem_toArray, List.getElem_cons_succ, List.getElem_cons_zero]
            go_simp
            go_at_call 22
            (with_reducible refine Calls.mono (OP5.out _ _ R10.out) ?_)
            intro e x11 ht
            obtain ⟨rfl, ⟨v11, hr⟩, hb, hk⟩ := turn_below R10.out ht
            have R11 := Lib.hid hr; have B11 := Lib.hid (B10.out.trans (hb.mono hbase))
            have HM11 := Lib.hid ((hk _ _ _ _ (by decide) (by decide) HM10.out).trans HM10.out)
            clear ht hr hb hk
            refine hK.out _ _ HM11.out (fun _ => ?_)
            clear hK K R10 B10 HM10
            refine wpAnyH_ready (rs := [16]) (by kernel_rfl) (by simp) (AllReadyH.cons rfl (fun K hK => ?_) AllReadyH.nil)
            simp only [List.getElem_toArray, List.getElem_cons_succ, List.getElem_cons_zero]
            go_simp
            go_at_call 27
            (with_reducible refine Calls.mono (circuit_any _ _ _ _ _) ?_)
            rintro e x12 ⟨rfl, hb⟩
            have R12 := Lib.hid (R11.out.below hb); have B12 := Lib.hid (B11.out.trans (hb.mono B11.out.size))
            have HM12 := Lib.hid ((hb.block _ (lt_of_heap HM11.out)).trans HM11.out)
            clear hb
            refine hK.out _ _ HM12.out (fun _ => ?_)
            clear hK K R11 B11 HM11
            refine wpAnyH_ready (rs := [17]) (by kernel_rfl) (by simp) (AllReadyH.cons rfl (fun K hK => ?_) AllReadyH.nil)
            simp only [List.getElem_toArray, List.getElem_cons_succ, List.getElem_cons_zero]
            go_simp
            go_at_call 22
            (with_reducible refine Calls.mono (OP6.out _ _ R12.out) ?_)
            intro e x13 ht
            obtain ⟨rfl, ⟨v13, hr⟩, hb, hk⟩ := turn_below R12.out ht
            have R13 := Lib.hid hr; have B13 := Lib.hid (B12.out.trans (hb.mono hbase))
            have HM13 := Lib.hid ((hk _ _ _ _ (by decide) (by decide) HM12.out).trans HM12.out)
            clear ht hr hb hk
            refine hK.out _ _ HM13.out (fun _ => ?_)
            clear hK K R12 B12 HM12
            refine wpAnyH_ready (rs := [21]) (by kernel_rfl) (by simp) (AllReadyH.cons rfl (fun K hK => ?_) AllReadyH.nil)
            simp only [List.getElem_toArray, List.getElem_cons_succ, List.getElem_cons_zero]
            go_simp
            go_at_call 27
            (with_reducible refine Calls.mono (circuit_any _ _ _ _ _) ?_)
            rintro e x14 ⟨rfl, hb⟩
            have R14 := Lib.hid (R13.out.below hb); have B14 := Lib.hid (B13.out.trans (hb.mono B13.out.size))
            have HM14 := Lib.hid ((hb.block _ (lt_of_heap HM13.out)).trans HM13.out)
            clear hb
            refine hK.out _ _ HM14.out (fun _ => ?_)
            clear hK K R13 B13 HM13
            refine wpAnyH_ready (rs := [22]) (by kernel_rfl) (by simp) (AllReadyH.cons rfl (fun K hK => ?_) AllReadyH.nil)
            simp only [List.getElem_toArray, List.getElem_cons_succ, List.getElem_cons_zero]
            go_simp
            go_at_call 22
            (with_reducible refine Calls.mono (OP7.out _ _ R14.out) ?_)
            intro e x15 ht
            obtain ⟨rfl, ⟨v15, hr⟩, hb, hk⟩ := turn_below R14.out ht
            have R15 := Lib.hid hr; have B15 := Lib.hid (B14.out.trans (hb.mono hbase))
            have HM15 := Lib.hid ((hk _ _ _ _ (by decide) (by decide) HM14.out).trans HM14.out)
            clear ht hr hb hk
            refine hK.out _ _ HM15.out (fun _ => ?_)
            clear hK K R14 B14 HM14
            refine wpAnyH_ready (rs := [24]) (by kernel_rfl) (by simp) (AllReadyH.cons rfl (fun K hK => ?_) AllReadyH.nil)
            simp only [List.getElem_toArray, List.getElem_cons_succ, List.getElem_cons_zero]
            go_simp
            go_at_call 27
            (with_reducible refine Calls.mono (circuit_any _ _ _ _ _) ?_)
            rintro e x16 ⟨rfl, hb⟩
            have R16 := Lib.hid (R15.out.below hb); have B16 := Lib.hid (B15.out.trans (hb.mono B15.out.size))
            have HM16 := Lib.hid ((hb.block _ (lt_of_heap HM15.out)).trans HM15.out)
            clear hb
            refine hK.out _ _ HM16.out (fun _ => ?_)
            clear hK K R15 B15 HM15
            refine wpAnyH_ready (rs := [25]) (by kernel_rfl) (by simp) (AllReadyH.cons rfl (fun K hK => ?_) AllReadyH.nil)
            simp only [List.getElem_toArray, List.getElem_cons_succ, List.getElem_cons_zero]
            go_simp
            go_at_call 22
            (with_reducible refine Calls.mono (OP8.out _ _ R16.out) ?_)
            intro e x17 ht
            obtain ⟨rfl, ⟨v17, hr⟩, hb, hk⟩ := turn_below R16.out ht
            have R17 := Lib.hid hr; have B17 := Lib.hid (B16.out.trans (hb.mono hbase))
            have HM17 := Lib.hid ((hk _ _ _ _ (by decide) (by decide) HM16.out).trans HM16.out)
            clear ht hr hb hk
            refine hK.out _ _ HM17.out (fun _ => ?_)
            clear hK K R16 B16 HM16
            refine wpAnyH_ready (rs := [26]) (by kernel_rfl) (by simp) (AllReadyH.cons rfl (fun K hK => ?_) AllReadyH.nil)
            simp only [List.getElem_toArray, List.getElem_cons_succ, List.getElem_cons_zero]
            go_simp
            refine hK.out _ _ ((alloc_heap _ (lt_of_heap HM17.out)).trans HM17.out) (fun _ => ?_)
            clear hK K
            refine wpAnyH_ready (rs := [27]) (by kernel_rfl) (by simp) (AllReadyH.cons rfl (fun K hK => ?_) AllReadyH.nil)
            simp only [List.getElem_toArray, List.getElem_cons_succ, List.getElem_cons_zero]
            go_simp
            refine hK.out _ _ ((alloc_heap _ (lt_of_heap HM17.out)).trans HM17.out) (fun _ => ?_)
            clear hK K
            refine wpAnyH_done (by kernel_rfl) ?_ _
            go_wp2_with fail
            go_meet
            exact ⟨_, _, rfl, Lib.hid (B17.out.alloc B17.out.size _), Lib.hid (R17.out.below (below_new' x17 _)), Lib.hid (heap_alloc_at _ _)⟩
          simp only [List.getElem_toArray, List.getElem_cons_succ, List.getElem_cons_zero]
          go_simp
          go_at_call 27
          (with_reducible refine Calls.mono (circuit_any _ _ _ _ _) ?_)
          rintro e x5 ⟨rfl, hb⟩
          have R5 := Lib.hid (R4.out.below hb); have B5 := Lib.hid (B4.out.trans (hb.mono B4.out.size))
          clear hb
          refine hK.out _ _ trivial (fun _ => ?_)
          clear hK K R4 B4
          refine wpAnyH_ready (rs := [8, 19]) (by kernel_rfl) (by simp) (AllReadyH.cons rfl (fun K hK => ?_) (AllReadyH.cons rfl (fun K hK => ?_) AllReadyH.nil))
          rotate_left
          focus
            simp only [List.getElem_toArray, List.getElem_cons_succ, List.getElem_cons_zero]
            have hms := HMS.out
            go_simp
            clear hms
            refine hK.out _ _ trivial (fun _ => ?_)
            clear hK K
            have R6 := Lib.hid (R5.out.below (below_new' x5 (.cells z 5))); have B6 := Lib.hid (B5.out.alloc B5.out.size (.cells z 5)); have HM6 := Lib.hid (heap_alloc_at x5 (.cells z 5))
            generalize x5.alloc (.cells z 5) = x6 at R6 B6 HM6 ⊢
            generalize x5.heap.size = gm at HM6 ⊢
            clear R5 B5
            refine held_true (S := fun w' => w'.heap[gm]? = some (.cells z 5 (0, 0))) ?_
            refine wpAnyH_take (i := 20) (v := .string b7) rfl (by kernel_rfl) (by kernel_rfl) (by kernel_rfl) (fun _ _ _ h => h) (Or.inl ⟨by kernel_rfl, fun x hx => by have h := HCV.out x gm hx; simp only [List.getElem_toArray, List.getElem_cons_succ, List.getElem_cons_zero]; go_simp⟩) HM6.out ?_
            simp only [Act.put, List.setIfInBounds_toArray, List.set_cons_zero, List.set_cons_succ]
            refine wpAnyH_ready (rs := [8]) (by kernel_rfl) (by simp) (AllReadyH.cons rfl (fun K hK => ?_) AllReadyH.nil)
            simp only [List.getElem_toArray, List.getElem_cons_succ, List.getElem_cons_zero]
            go_simp
            go_at_call 22
            (with_reducible refine Calls.mono (OP3.out _ _ R6.out) ?_)
            intro e x7 ht
            obtain ⟨rfl, ⟨v7, hr⟩, hb, hk⟩ := turn_below R6.out ht
            have R7 := Lib.hid hr; have B7 := Lib.hid (B6.out.trans (hb.mono hbase))
            have HM7 := Lib.hid ((hk _ _ _ _ (by decide) (by decide) HM6.out).trans HM6.out)
            clear ht hr hb hk
            refine hK.out _ _ HM7.out (fun _ => ?_)
            clear hK K R6 B6 HM6
            refine wpAnyH_ready (rs := [10]) (by kernel_rfl) (by simp) (AllReadyH.cons rfl (fun K hK => ?_) AllReadyH.nil)
            simp only [List.getElem_toArray, List.getElem_cons_succ, List.getElem_cons_zero]
            go_simp
            go_at_call 27
            (with_reducible refine Calls.mono (circuit_any _ _ _ _ _) ?_)
            rintro e x8 ⟨rfl, hb⟩
            have R8 := Lib.hid (R7.out.below hb); have B8 := Lib.hid (B7.out.trans (hb.mono B7.out.size))
            have HM8 := Lib.hid ((hb.block _ (lt_of_heap HM7.out)).trans HM7.out)
            clear hb
            refine hK.out _ _ HM8.out (fun _ => ?_)
            clear hK K R7 B7 HM7
            refine wpAnyH_ready (rs := [11]) (by kernel_rfl) (by simp) (AllReadyH.cons rfl (fun K hK => ?_) AllReadyH.nil)
            simp only [List.getElem_toArray, List.getElem_cons_succ, List.getElem_cons_zero]
            go_simp
            go_at_call 22
            (with_reducible refine Calls.mono (OP4.out _ _ R8.out) ?_)
            intro e x9 ht
            obtain ⟨rfl, ⟨v9, hr⟩, hb, hk⟩ := turn_below R8.out ht
            have R9 := Lib.hid hr; have B9 := Lib.hid (B8.out.trans (hb.mono hbase))
            have HM9 := Lib.hid ((hk _ _ _ _ (by decide) (by decide) HM8.out).trans HM8.out)
            clear ht hr hb hk
            refine hK.out _ _ HM9.out (fun _ => ?_)
            clear hK K R8 B8 HM8
            refine wpAnyH_ready (rs := [13]) (by kernel_rfl) (by simp) (AllReadyH.cons rfl (fun K hK => ?_) AllReadyH.nil)
            simp only [List.getElem_toArray, List.getElem_cons_succ, List.getElem_cons_zero]
            go_simp
            go_at_call 27
            (with_reducible refine Calls.mono (circuit_any _ _ _ _ _) ?_)
            rintro e x10 ⟨rfl, hb⟩
            have R10 := Lib.hid (R9.out.below hb); have B10 := Lib.hid (B9.out.trans (hb.mono B9.out.size))
            have HM10 := Lib.hid ((hb.block _ (lt_of_heap HM9.out)).trans HM9.out)
            clear hb
            refine hK.out _ _ HM10.out (fun _ => ?_)
            clear hK K R9 B9 HM9
            refine wpAnyH_ready (rs := [14]) (by kernel_rfl) (by simp) (AllReadyH.cons rfl (fun K hK => ?_) AllReadyH.nil)
            simp only [List.getElem_toArray, List.getElem_cons_succ, List.getElem_cons_zero]
            go_simp
            go_at_call 22
            (with_reducible refine Calls.mono (OP5.out _ _ R10.out) ?_)
            intro e x11 ht
            obtain ⟨rfl, ⟨v11, hr⟩, hb, hk⟩ := turn_below R10.out ht
            have R11 := Lib.hid hr; have B11 := Lib.hid (B10.out.trans (hb.mono hbase))
            have HM11 := Lib.hid ((hk _ _ _ _ (by decide) (by decide) HM10.out).trans HM10.out)
            clear ht hr hb hk
            refine hK.out _ _ HM11.out (fun _ => ?_)
            clear hK K R10 B10 HM10
            refine wpAnyH_ready (rs := [16]) (by kernel_rfl) (by simp) (AllReadyH.cons rfl (fun K hK => ?_) AllReadyH.nil)
            simp only [List.getElem_toArray, List.getElem_cons_succ, List.getElem_cons_zero]
            go_simp
            go_at_call 27
            (with_reducible refine Calls.mono (circuit_any _ _ _ _ _) ?_)
            rintro e x12 ⟨rfl, hb⟩
            have R12 := Lib.hid (R11.out.below hb); have B12 := Lib.hid (B11.out.trans (hb.mono B11.out.size))
            have HM12 := Lib.hid ((hb.block _ (lt_of_heap HM11.out)).trans HM11.out)
            clear hb
            refine hK.out _ _ HM12.out (fun _ => ?_)
            clear hK K R11 B11 HM11
            refine wpAnyH_ready (rs := [17]) (by kernel_rfl) (by simp) (AllReadyH.cons rfl (fun K hK => ?_) AllReadyH.nil)
            simp only [List.getElem_toArray, List.getElem_cons_succ, List.getElem_cons_zero]
            go_simp
            go_at_call 22
            (with_reducible refine Calls.mono (OP6.out _ _ R12.out) ?_)
            intro e x13 ht
            obtain ⟨rfl, ⟨v13, hr⟩, hb, hk⟩ := turn_below R12.out ht
            have R13 := Lib.hid hr; have B13 := Lib.hid (B12.out.trans (hb.mono hbase))
            have HM13 := Lib.hid ((hk _ _ _ _ (by decide) (by decide) HM12.out).trans HM12.out)
            clear ht hr hb hk
            refine hK.out _ _ HM13.out (fun _ => ?_)
            clear hK K R12 B12 HM12
            refine wpAnyH_ready (rs := [21]) (by kernel_rfl) (by simp) (AllReadyH.cons rfl (fun K hK => ?_) AllReadyH.nil)
            simp only [List.getElem_toArray, List.getElem_cons_succ, List.getElem_cons_zero]
            go_simp
            go_at_call 27
            (with_reducible refine Calls.mono (circuit_any _ _ _ _ _) ?_)
            rintro e x14 ⟨rfl, hb⟩
            have R14 := Lib.hid (R13.out.below hb); have B14 := Lib.hid (B13.out.trans (hb.mono B13.out.size))
            have HM14 := Lib.hid ((hb.block _ (lt_of_heap HM13.out)).trans HM13.out)
            clear hb
            refine hK.out _ _ HM14.out (fun _ => ?_)
            clear hK K R13 B13 HM13
            refine wpAnyH_ready (rs := [22]) (by kernel_rfl) (by simp) (AllReadyH.cons rfl (fun K hK => ?_) AllReadyH.nil)
            simp only [List.getElem_toArray, List.getElem_cons_succ, List.getElem_cons_zero]
            go_simp
            go_at_call 22
            (with_reducible refine Calls.mono (OP7.out _ _ R14.out) ?_)
            intro e x15 ht
            obtain ⟨rfl, ⟨v15, hr⟩, hb, hk⟩ := turn_below R14.out ht
            have R15 := Lib.hid hr; have B15 := Lib.hid (B14.out.trans (hb.mono hbase))
            have HM15 := Lib.hid ((hk _ _ _ _ (by decide) (by decide) HM14.out).trans HM14.out)
            clear ht hr hb hk
            refine hK.out _ _ HM15.out (fun _ => ?_)
            clear hK K R14 B14 HM14
            refine wpAnyH_ready (rs := [24]) (by kernel_rfl) (by simp) (AllReadyH.cons rfl (fun K hK => ?_) AllReadyH.nil)
            simp only [List.getElem_toArray, List.getElem_cons_succ, List.getElem_cons_zero]
            go_simp
            go_at_call 27
            (with_reducible refine Calls.mono (circuit_any _ _ _ _ _) ?_)
            rintro e x16 ⟨rfl, hb⟩
            have R16 := Lib.hid (R15.out.below hb); have B16 := Lib.hid (B15.out.trans (hb.mono B15.out.size))
            have HM16 := Lib.hid ((hb.block _ (lt_of_heap HM15.out)).trans HM15.out)
            clear hb
            refine hK.out _ _ HM16.out (fun _ => ?_)
            clear hK K R15 B15 HM15
            refine wpAnyH_ready (rs := [25]) (by kernel_rfl) (by simp) (AllReadyH.cons rfl (fun K hK => ?_) AllReadyH.nil)
            simp only [List.getElem_toArray, List.getElem_cons_succ, List.getElem_cons_zero]
            go_simp
            go_at_call 22
            (with_reducible refine Calls.mono (OP8.out _ _ R16.out) ?_)
            intro e x17 ht
            obtain ⟨rfl, ⟨v17, hr⟩, hb, hk⟩ := turn_below R16.out ht
            have R17 := Lib.hid hr; have B17 := Lib.hid (B16.out.trans (hb.mono hbase))
            have HM17 := Lib.hid ((hk _ _ _ _ (by decide) (by decide) HM16.out).trans HM16.out)
            clear ht hr hb hk
            refine hK.out _ _ HM17.out (fun _ => ?_)
            clear hK K R16 B16 HM16
            refine wpAnyH_ready (rs := [26]) (by kernel_rfl) (by simp) (AllReadyH.cons rfl (fun K hK => ?_) AllReadyH.nil)
            simp only [List.getElem_toArray, List.getElem_cons_succ, List.getElem_cons_zero]
            go_simp
            refine hK.out _ _ ((alloc_heap _ (lt_of_heap HM17.out)).trans HM17.out) (fun _ => ?_)
            clear hK K
            refine wpAnyH_ready (rs := [27]) (by kernel_rfl) (by simp) (AllReadyH.cons rfl (fun K hK => ?_) AllReadyH.nil)
            simp only [List.getElem_toArray, List.getElem_cons_succ, List.getElem_cons_zero]
            go_simp
            refine hK.out _ _ ((alloc_heap _ (lt_of_heap HM17.out)).trans HM17.out) (fun _ => ?_)
            clear hK K
            refine wpAnyH_done (by kernel_rfl) ?_ _
            go_wp2_with fail
            go_meet
            exact ⟨_, _, rfl, Lib.hid (B17.out.alloc B17.out.size _), Lib.hid (R17.out.below (below_new' x17 _)), Lib.hid (heap_alloc_at _ _)⟩
          simp only [List.getElem_toArray, List.getElem_cons_succ, List.getElem_cons_zero]
          go_simp
          go_at_call 22
          (with_reducible refine Calls.mono (OP3.out _ _ R5.out) ?_)
          intro e x6 ht
          obtain ⟨rfl, ⟨v6, hr⟩, hb, hk⟩ := turn_below R5.out ht
          have R6 := Lib.hid hr; have B6 := Lib.hid (B5.out.trans (hb.mono hbase))
          clear ht hr hb hk
          refine hK.out _ _ trivial (fun _ => ?_)
          clear hK K R5 B5
          refine wpAnyH_ready (rs := [10, 19]) (by kernel_rfl) (by simp) (AllReadyH.cons rfl (fun K hK => ?_) (AllReadyH.cons rfl (fun K hK => ?_) AllReadyH.nil))
          rotate_left
          focus
            simp only [List.getElem_toArray, List.getElem_cons_succ, List.getElem_cons_zero]
            have hms := HMS.out
            go_simp
            clear hms
            refine hK.out _ _ trivial (fun _ => ?_)
            clear hK K
            have R7 := Lib.hid (R6.out.below (below_new' x6 (.cells z 5))); have B7 := Lib.hid (B6.out.alloc B6.out.size (.cells z 5)); have HM7 := Lib.hid (heap_alloc_at x6 (.cells z 5))
            generalize x6.alloc (.cells z 5) = x7 at R7 B7 HM7 ⊢
            generalize x6.heap.size = gm at HM7 ⊢
            clear R6 B6
            refine held_true (S := fun w' => w'.heap[gm]? = some (.cells z 5 (0, 0))) ?_
            refine wpAnyH_take (i := 20) (v := .string b7) rfl (by kernel_rfl) (by kernel_rfl) (by kernel_rfl) (fun _ _ _ h => h) (Or.inl ⟨by kernel_rfl, fun x hx => by have h := HCV.out x gm hx; simp only [List.getElem_toArray, List.getElem_cons_succ, List.getElem_cons_zero]; go_simp⟩) HM7.out ?_
            simp only [Act.put, List.setIfInBounds_toArray, List.set_cons_zero, List.set_cons_succ]
            refine wpAnyH_ready (rs := [10]) (by kernel_rfl) (by simp) (AllReadyH.cons rfl (fun K hK => ?_) AllReadyH.nil)
            simp only [List.getElem_toArray, List.getElem_cons_succ, List.getElem_cons_zero]
            go_simp
            go_at_call 27
            (with_reducible refine Calls.mono (circuit_any _ _ _ _ _) ?_)
            rintro e x8 ⟨rfl, hb⟩
            have R8 := Lib.hid (R7.out.below hb); have B8 := Lib.hid (B7.out.trans (hb.mono B7.out.size))
            have HM8 := Lib.hid ((hb.block _ (lt_of_heap HM7.out)).trans HM7.out)
            clear hb
            refine hK.out _ _ HM8.out (fun _ => ?_)
            clear hK K R7 B7 HM7
            refine wpAnyH_ready (rs := [11]) (by kernel_rfl) (by simp) (AllReadyH.cons rfl (fun K hK => ?_) AllReadyH.nil)
            simp only [List.getElem_toArray, List.getElem_cons_succ, List.getElem_cons_zero]
            go_simp
            go_at_call 22
            (with_reducible refine Calls.mono (OP4.out _ _ R8.out) ?_)
            intro e x9 ht
            obtain ⟨rfl, ⟨v9, hr⟩, hb, hk⟩ := turn_below R8.out ht
            have R9 := Lib.hid hr; have B9 := Lib.hid (B8.out.trans (hb.mono hbase))
            have HM9 := Lib.hid ((hk _ _ _ _ (by decide) (by decide) HM8.out).trans HM8.out)
            clear ht hr hb hk
            refine hK.out _ _ HM9.out (fun _ => ?_)
            clear hK K R8 B8 HM8
            refine wpAnyH_ready (rs := [13]) (by kernel_rfl) (by simp) (AllReadyH.cons rfl (fun K hK => ?_) AllReadyH.nil)
            simp only [List.getElem_toArray, List.getElem_cons_succ, List.getElem_cons_zero]
            go_simp
            go_at_call 27
            (with_reducible refine Calls.mono (circuit_any _ _ _ _ _) ?_)
            rintro e x10 ⟨rfl, hb⟩
            have R10 := Lib.hid (R9.out.below hb); have B10 := Lib.hid (B9.out.trans (hb.mono B9.out.size))
            have HM10 := Lib.hid ((hb.block _ (lt_of_heap HM9.out)).trans HM9.out)
            clear hb
            refine hK.out _ _ HM10.out (fun _ => ?_)
            clear hK K R9 B9 HM9
            refine wpAnyH_ready (rs := [14]) (by kernel_rfl) (by simp) (AllReadyH.cons rfl (fun K hK => ?_) AllReadyH.nil)
            simp only [List.getElem_toArray, List.getElem_cons_succ, List.getElem_cons_zero]
            go_simp
            go_at_call 22
            (with_reducible refine Calls.mono (OP5.out _ _ R10.out) ?_)
            intro e x11 ht
            obtain ⟨rfl, ⟨v11, hr⟩, hb, hk⟩ := turn_below R10.out ht
            have R11 := Lib.hid hr; have B11 := Lib.hid (B10.out.trans (hb.mono hbase))
            have HM11 := Lib.hid ((hk _ _ _ _ (by decide) (by decide) HM10.out).trans HM10.out)
            clear ht hr hb hk
            refine hK.out _ _ HM11.out (fun _ => ?_)
            clear hK K R10 B10 HM10
            refine wpAnyH_ready (rs := [16]) (by kernel_rfl) (by simp) (AllReadyH.cons rfl (fun K hK => ?_) AllReadyH.nil)
            simp only [List.getElem_toArray, List.getElem_cons_succ, List.getElem_cons_zero]
            go_simp
            go_at_call 27
            (with_reducible refine Calls.mono (circuit_any _ _ _ _ _) ?_)
            rintro e x12 ⟨rfl, hb⟩
            have R12 := Lib.hid (R11.out.below hb); have B12 := Lib.hid (B11.out.trans (hb.mono B11.out.size))
            have HM12 := Lib.hid ((hb.block _ (lt_of_heap HM11.out)).trans HM11.out)
            clear hb
            refine hK.out _ _ HM12.out (fun _ => ?_)
            clear hK K R11 B11 HM11
            refine wpAnyH_ready (rs := [17]) (by kernel_rfl) (by simp) (AllReadyH.cons rfl (fun K hK => ?_) AllReadyH.nil)
            simp only [List.getElem_toArray, List.getElem_cons_succ, List.getElem_cons_zero]
            go_simp
            go_at_call 22
            (with_reducible refine Calls.mono (OP6.out _ _ R12.out) ?_)
            intro e x13 ht
            obtain ⟨rfl, ⟨v13, hr⟩, hb, hk⟩ := turn_below R12.out ht
            have R13 := Lib.hid hr; have B13 := Lib.hid (B12.out.trans (hb.mono hbase))
            have HM13 := Lib.hid ((hk _ _ _ _ (by decide) (by decide) HM12.out).trans HM12.out)
            clear ht hr hb hk
            refine hK.out _ _ HM13.out (fun _ => ?_)
            clear hK K R12 B12 HM12
            refine wpAnyH_ready (rs := [21]) (by kernel_rfl) (by simp) (AllReadyH.cons rfl (fun K hK => ?_) AllReadyH.nil)
            simp only [List.getElem_toArray, List.getElem_cons_succ, List.getElem_cons_zero]
            go_simp
            go_at_call 27
            (with_reducible refine Calls.mono (circuit_any _ _ _ _ _) ?_)
            rintro e x14 ⟨rfl, hb⟩
            have R14 := Lib.hid (R13.out.below hb); have B14 := Lib.hid (B13.out.trans (hb.mono B13.out.size))
            have HM14 := Lib.hid ((hb.block _ (lt_of_heap HM13.out)).trans HM13.out)
            clear hb
            refine hK.out _ _ HM14.out (fun _ => ?_)
            clear hK K R13 B13 HM13
            refine wpAnyH_ready (rs := [22]) (by kernel_rfl) (by simp) (AllReadyH.cons rfl (fun K hK => ?_) AllReadyH.nil)
            simp only [List.getElem_toArray, List.getElem_cons_succ, List.getElem_cons_zero]
            go_simp
            go_at_call 22
            (with_reducible refine Calls.mono (OP7.out _ _ R14.out) ?_)
            intro e x15 ht
            obtain ⟨rfl, ⟨v15, hr⟩, hb, hk⟩ := turn_below R14.out ht
            have R15 := Lib.hid hr; have B15 := Lib.hid (B14.out.trans (hb.mono hbase))
            have HM15 := Lib.hid ((hk _ _ _ _ (by decide) (by decide) HM14.out).trans HM14.out)
            clear ht hr hb hk
            refine hK.out _ _ HM15.out (fun _ => ?_)
            clear hK K R14 B14 HM14
            refine wpAnyH_ready (rs := [24]) (by kernel_rfl) (by simp) (AllReadyH.cons rfl (fun K hK => ?_) AllReadyH.nil)
            simp only [List.getElem_toArray, List.getElem_cons_succ, List.getElem_cons_zero]
            go_simp
            go_at_call 27
            (with_reducible refine Calls.mono (circuit_any _ _ _ _ _) ?_)
            rintro e x16 ⟨rfl, hb⟩
            have R16 := Lib.hid (R15.out.below hb); have B16 := Lib.hid (B15.out.trans (hb.mono B15.out.size))
            have HM16 := Lib.hid ((hb.block _ (lt_of_heap HM15.out)).trans HM15.out)
            clear hb
            refine hK.out _ _ HM16.out (fun _ => ?_)
            clear hK K R15 B15 HM15
            refine wpAnyH_ready (rs := [25]) (by kernel_rfl) (by simp) (AllReadyH.cons rfl (fun K hK => ?_) AllReadyH.nil)
            simp only [List.getElem_toArray, List.getElem_cons_succ, List.getElem_cons_zero]
            go_simp
            go_at_call 22
            (with_reducible refine Calls.mono (OP8.out _ _ R16.out) ?_)
            intro e x17 ht
            obtain ⟨rfl, ⟨v17, hr⟩, hb, hk⟩ := turn_below R16.out ht
            have R17 := Lib.hid hr; have B17 := Lib.hid (B16.out.trans (hb.mono hbase))
            have HM17 := Lib.hid ((hk _ _ _ _ (by decide) (by decide) HM16.out).trans HM16.out)
            clear ht hr hb hk
            refine hK.out _ _ HM17.out (fun _ => ?_)
            clear hK K R16 B16 HM16
            refine wpAnyH_ready (rs := [26]) (by kernel_rfl) (by simp) (AllReadyH.cons rfl (fun K hK => ?_) AllReadyH.nil)
            simp only [List.getElem_toArray, List.getElem_cons_succ, List.getElem_cons_zero]
            go_simp
            refine hK.out _ _ ((alloc_heap _ (lt_of_heap HM17.out)).trans HM17.out) (fun _ => ?_)
            clear hK K
            refine wpAnyH_ready (rs := [27]) (by kernel_rfl) (by simp) (AllReadyH.cons rfl (fun K hK => ?_) AllReadyH.nil)
            simp only [List.getElem_toArray, List.getElem_cons_succ, List.getElem_cons_zero]
            go_simp
            refine hK.out _ _ ((alloc_heap _ (lt_of_heap HM17.out)).trans HM17.out) (fun _ => ?_)
            clear hK K
            refine wpAnyH_done (by kernel_rfl) ?_ _
            go_wp2_with fail
            go_meet
            exact ⟨_, _, rfl, Lib.hid (B17.out.alloc B17.out.size _), Lib.hid (R17.out.below (below_new' x17 _)), Lib.hid (heap_alloc_at _ _)⟩
          simp only [List.getElem_toArray, List.getElem_cons_succ, List.getElem_cons_zero]
          go_simp
          go_at_call 27
          (with_reducible refine Calls.mono (circuit_any _ _ _ _ _) ?_)
          rintro e x7 ⟨rfl, hb⟩
          have R7 := Lib.hid (R6.out.below hb); have B7 := Lib.hid (B6.out.trans (hb.mono B6.out.size))
          clear hb
          refine hK.out _ _ trivial (fun _ => ?_)
          clear hK K R6 B6
          refine wpAnyH_ready (rs := [11, 19]) (by kernel_rfl) (by simp) (AllReadyH.cons rfl (fun K hK => ?_) (AllReadyH.cons rfl (fun K hK => ?_) AllReadyH.nil))
          rotate_left
          focus
            simp only [List.getElem_toArray, List.getElem_cons_succ, List.getElem_cons_zero]
            have hms := HMS.out
            go_simp
            clear hms
            refine hK.out _ _ trivial (fun _ => ?_)
            clear hK K
            have R8 := Lib.hid (R7.out.below (below_new' x7 (.cells z 5))); have B8 := Lib.hid (B7.out.alloc B7.out.size (.cells z 5)); have HM8 := Lib.hid (heap_alloc_at x7 (.cells z 5))
            generalize x7.alloc (.cells z 5) = x8 at R8 B8 HM8 ⊢
            generalize x7.heap.size = gm at HM8 ⊢
            clear R7 B7
            refine held_true (S := fun w' => w'.heap[gm]? = some (.cells z 5 (0, 0))) ?_
            refine wpAnyH_take (i := 20) (v := .string b7) rfl (by kernel_rfl) (by kernel_rfl) (by kernel_rfl) (fun _ _ _ h => h) (Or.inl ⟨by kernel_rfl, fun x hx => by have h := HCV.out x gm hx; simp only [List.getElem_toArray, List.getElem_cons_succ, List.getElem_cons_zero]; go_simp⟩) HM8.out ?_
            simp only [Act.put, List.setIfInBounds_toArray, List.set_cons_zero, List.set_cons_succ]
            refine wpAnyH_ready (rs := [11]) (by kernel_rfl) (by simp) (AllReadyH.cons rfl (fun K hK => ?_) AllReadyH.nil)
            simp only [List.getElem_toArray, List.getElem_cons_succ, List.getElem_cons_zero]
            go_simp
            go_at_call 22
            (with_reducible refine Calls.mono (OP4.out _ _ R8.out) ?_)
            intro e x9 ht
            obtain ⟨rfl, ⟨v9, hr⟩, hb, hk⟩ := turn_below R8.out ht
            have R9 := Lib.hid hr; have B9 := Lib.hid (B8.out.trans (hb.mono hbase))
            have HM9 := Lib.hid ((hk _ _ _ _ (by decide) (by decide) HM8.out).trans HM8.out)
            clear ht hr hb hk
            refine hK.out _ _ HM9.out (fun _ => ?_)
            clear hK K R8 B8 HM8
            refine wpAnyH_ready (rs := [13]) (by kernel_rfl) (by simp) (AllReadyH.cons rfl (fun K hK => ?_) AllReadyH.nil)
            simp only [List.getElem_toArray, List.getElem_cons_succ, List.getElem_cons_zero]
            go_simp
            go_at_call 27
            (with_reducible refine Calls.mono (circuit_any _ _ _ _ _) ?_)
            rintro e x10 ⟨rfl, hb⟩
            have R10 := Lib.hid (R9.out.below hb); have B10 := Lib.hid (B9.out.trans (hb.mono B9.out.size))
            have HM10 := Lib.hid ((hb.block _ (lt_of_heap HM9.out)).trans HM9.out)
            clear hb
            refine hK.out _ _ HM10.out (fun _ => ?_)
            clear hK K R9 B9 HM9
            refine wpAnyH_ready (rs := [14]) (by kernel_rfl) (by simp) (AllReadyH.cons rfl (fun K hK => ?_) AllReadyH.nil)
            simp only [List.getElem_toArray, List.getElem_cons_succ, List.getElem_cons_zero]
            go_simp
            go_at_call 22
            (with_reducible refine Calls.mono (OP5.out _ _ R10.out) ?_)
            intro e x11 ht
            obtain ⟨rfl, ⟨v11, hr⟩, hb, hk⟩ := turn_below R10.out ht
            have R11 := Lib.hid hr; have B11 := Lib.hid (B10.out.trans (hb.mono hbase))
            have HM11 := Lib.hid ((hk _ _ _ _ (by decide) (by decide) HM10.out).trans HM10.out)
            clear ht hr hb hk
            refine hK.out _ _ HM11.out (fun _ => ?_)
            clear hK K R10 B10 HM10
            refine wpAnyH_ready (rs := [16]) (by kernel_rfl) (by simp) (AllReadyH.cons rfl (fun K hK => ?_) AllReadyH.nil)
            simp only [List.getElem_toArray, List.getElem_cons_succ, List.getElem_cons_zero]
            go_simp
            go_at_call 27
            (with_reducible refine Calls.mono (circuit_any _ _ _ _ _) ?_)
            rintro e x12 ⟨rfl, hb⟩
            have R12 := Lib.hid (R11.out.below hb); have B12 := Lib.hid (B11.out.trans (hb.mono B11.out.size))
            have HM12 := Lib.hid ((hb.block _ (lt_of_heap HM11.out)).trans HM11.out)
            clear hb
            refine hK.out _ _ HM12.out (fun _ => ?_)
            clear hK K R11 B11 HM11
            refine wpAnyH_ready (rs := [17]) (by kernel_rfl) (by simp) (AllReadyH.cons rfl (fun K hK => ?_) AllReadyH.nil)
            simp only [List.getElem_toArray, List.getElem_cons_succ, List.getElem_cons_zero]
            go_simp
            go_at_call 22
            (with_reducible refine Calls.mono (OP6.out _ _ R12.out) ?_)
            intro e x13 ht
            obtain ⟨rfl, ⟨v13, hr⟩, hb, hk⟩ := turn_below R12.out ht
            have R13 := Lib.hid hr; have B13 := Lib.hid (B12.out.trans (hb.mono hbase))
            have HM13 := Lib.hid ((hk _ _ _ _ (by decide) (by decide) HM12.out).trans HM12.out)
            clear ht hr hb hk
            refine hK.out _ _ HM13.out (fun _ => ?_)
            clear hK K R12 B12 HM12
            refine wpAnyH_ready (rs := [21]) (by kernel_rfl) (by simp) (AllReadyH.cons rfl (fun K hK => ?_) AllReadyH.nil)
            simp only [List.getElem_toArray, List.getElem_cons_succ, List.getElem_cons_zero]
            go_simp
            go_at_call 27
            (with_reducible refine Calls.mono (circuit_any _ _ _ _ _) ?_)
            rintro e x14 ⟨rfl, hb⟩
            have R14 := Lib.hid (R13.out.below hb); have B14 := Lib.hid (B13.out.trans (hb.mono B13.out.size))
            have HM14 := Lib.hid ((hb.block _ (lt_of_heap HM13.out)).trans HM13.out)
            clear hb
            refine hK.out _ _ HM14.out (fun _ => ?_)
            clear hK K R13 B13 HM13
            refine wpAnyH_ready (rs := [22]) (by kernel_rfl) (by simp) (AllReadyH.cons rfl (fun K hK => ?_) AllReadyH.nil)
            simp only [List.getElem_toArray, List.getElem_cons_succ, List.getElem_cons_zero]
            go_simp
            go_at_call 22
            (with_reducible refine Calls.mono (OP7.out _ _ R14.out) ?_)
            intro e x15 ht
            obtain ⟨rfl, ⟨v15, hr⟩, hb, hk⟩ := turn_below R14.out ht
            have R15 := Lib.hid hr; have B15 := Lib.hid (B14.out.trans (hb.mono hbase))
            have HM15 := Lib.hid ((hk _ _ _ _ (by decide) (by decide) HM14.out).trans HM14.out)
            clear ht hr hb hk
            refine hK.out _ _ HM15.out (fun _ => ?_)
            clear hK K R14 B14 HM14
            refine wpAnyH_ready (rs := [24]) (by kernel_rfl) (by simp) (AllReadyH.cons rfl (fun K hK => ?_) AllReadyH.nil)
            simp only [List.getElem_toArray, List.getElem_cons_succ, List.getElem_cons_zero]
            go_simp
            go_at_call 27
            (with_reducible refine Calls.mono (circuit_any _ _ _ _ _) ?_)
            rintro e x16 ⟨rfl, hb⟩
            have R16 := Lib.hid (R15.out.below hb); have B16 := Lib.hid (B15.out.trans (hb.mono B15.out.size))
            have HM16 := Lib.hid ((hb.block _ (lt_of_heap HM15.out)).trans HM15.out)
            clear hb
            refine hK.out _ _ HM16.out (fun _ => ?_)
            clear hK K R15 B15 HM15
            refine wpAnyH_ready (rs := [25]) (by kernel_rfl) (by simp) (AllReadyH.cons rfl (fun K hK => ?_) AllReadyH.nil)
            simp only [List.getElem_toArray, List.getElem_cons_succ, List.getElem_cons_zero]
            go_simp
            go_at_call 22
            (with_reducible refine Calls.mono (OP8.out _ _ R16.out) ?_)
            intro e x17 ht
            obtain ⟨rfl, ⟨v17, hr⟩, hb, hk⟩ := turn_below R16.out ht
            have R17 := Lib.hid hr; have B17 := Lib.hid (B16.out.trans (hb.mono hbase))
            have HM17 := Lib.hid ((hk _ _ _ _ (by decide) (by decide) HM16.out).trans HM16.out)
            clear ht hr hb hk
            refine hK.out _ _ HM17.out (fun _ => ?_)
            clear hK K R16 B16 HM16
            refine wpAnyH_ready (rs := [26]) (by kernel_rfl) (by simp) (AllReadyH.cons rfl (fun K hK => ?_) AllReadyH.nil)
            simp only [List.getElem_toArray, List.getElem_cons_succ, List.getElem_cons_zero]
            go_simp
            refine hK.out _ _ ((alloc_heap _ (lt_of_heap HM17.out)).trans HM17.out) (fun _ => ?_)
            clear hK K
            refine wpAnyH_ready (rs := [27]) (by kernel_rfl) (by simp) (AllReadyH.cons rfl (fun K hK => ?_) AllReadyH.nil)
            simp only [List.getElem_toArray, List.getElem_cons_succ, List.getElem_cons_zero]
            go_simp
            refine hK.out _ _ ((alloc_heap _ (lt_of_heap HM17.out)).trans HM17.out) (fun _ => ?_)
            clear hK K
            refine wpAnyH_done (by kernel_rfl) ?_ _
            go_wp2_with fail
            go_meet
            exact ⟨_, _, rfl, Lib.hid (B17.out.alloc B17.out.size _), Lib.hid (R17.out.below (below_new' x17 _)), Lib.hid (heap_alloc_at _ _)⟩
          simp only [List.getElem_toArray, List.getElem_cons_succ, List.getElem_cons_zero]
          go_simp
          go_at_call 22
          (with_reducible refine Calls.mono (OP4.out _ _ R7.out) ?_)
          intro e x8 ht
          obtain ⟨rfl, ⟨v8, hr⟩, hb, hk⟩ := turn_below R7.out ht
          have R8 := Lib.hid hr; have B8 := Lib.hid (B7.out.trans (hb.mono hbase))
          clear ht hr hb hk
          refine hK.out _ _ trivial (fun _ => ?_)
          clear hK K R7 B7
          refine wpAnyH_ready (rs := [13, 19]) (by kernel_rfl) (by simp) (AllReadyH.cons rfl (fun K hK => ?_) (AllReadyH.cons rfl (fun K hK => ?_) AllReadyH.nil))
          rotate_left
          focus
            simp only [List.getElem_toArray, List.getElem_cons_succ, List.getElem_cons_zero]
            have hms := HMS.out
            go_simp
            clear hms
            refine hK.out _ _ trivial (fun _ => ?_)
            clear hK K
            have R9 := Lib.hid (R8.out.below (below_new' x8 (.cells z 5))); have B9 := Lib.hid (B8.out.alloc B8.out.size (.cells z 5)); have HM9 := Lib.hid (heap_alloc_at x8 (.cells z 5))
            generalize x8.alloc (.cells z 5) = x9 at R9 B9 HM9 ⊢
            generalize x8.heap.size = gm at HM9 ⊢
            clear R8 B8
            refine held_true (S := fun w' => w'.heap[gm]? = some (.cells z 5 (0, 0))) ?_
            refine wpAnyH_take (i := 20) (v := .string b7) rfl (by kernel_rfl) (by kernel_rfl) (by kernel_rfl) (fun _ _ _ h => h) (Or.inl ⟨by kernel_rfl, fun x hx => by have h := HCV.out x gm hx; simp only [List.getElem_toArray, List.getElem_cons_succ, List.getElem_cons_zero]; go_simp⟩) HM9.out ?_
            simp only [Act.put, List.setIfInBounds_toArray, List.set_cons_zero, List.set_cons_succ]
            refine wpAnyH_ready (rs := [13]) (by kernel_rfl) (by simp) (AllReadyH.cons rfl (fun K hK => ?_) AllReadyH.nil)
            simp only [List.getElem_toArray, List.getElem_cons_succ, List.getElem_cons_zero]
            go_simp
            go_at_call 27
            (with_reducible refine Calls.mono (circuit_any _ _ _ _ _) ?_)
            rintro e x10 ⟨rfl, hb⟩
            have R10 := Lib.hid (R9.out.below hb); have B10 := Lib.hid (B9.out.trans (hb.mono B9.out.size))
            have HM10 := Lib.hid ((hb.block _ (lt_of_heap HM9.out)).trans HM9.out)
            clear hb
            refine hK.out _ _ HM10.out (fun _ => ?_)
            clear hK K R9 B9 HM9
            refine wpAnyH_ready (rs := [14]) (by kernel_rfl) (by simp) (AllReadyH.cons rfl (fun K hK => ?_) AllReadyH.nil)
            simp only [List.getElem_toArray, List.getElem_cons_succ, List.getElem_cons_zero]
            go_simp
            go_at_call 22
            (with_reducible refine Calls.mono (OP5.out _ _ R10.out) ?_)
            intro e x11 ht
            obtain ⟨rfl, ⟨v11, hr⟩, hb, hk⟩ := turn_below R10.out ht
            have R11 := Lib.hid hr; have B11 := Lib.hid (B10.out.trans (hb.mono hbase))
            have HM11 := Lib.hid ((hk _ _ _ _ (by decide) (by decide) HM10.out).trans HM10.out)
            clear ht hr hb hk
            refine hK.out _ _ HM11.out (fun _ => ?_)
            clear hK K R10 B10 HM10
            refine wpAnyH_ready (rs := [16]) (by kernel_rfl) (by simp) (AllReadyH.cons rfl (fun K hK => ?_) AllReadyH.nil)
            simp only [List.getElem_toArray, List.getElem_cons_succ, List.getElem_cons_zero]
            go_simp
            go_at_call 27
            (with_reducible refine Calls.mono (circuit_any _ _ _ _ _) ?_)
            rintro e x12 ⟨rfl, hb⟩
            have R12 := Lib.hid (R11.out.below hb); have B12 := Lib.hid (B11.out.trans (hb.mono B11.out.size))
            have HM12 := Lib.hid ((hb.block _ (lt_of_heap HM11.out)).trans HM11.out)
            clear hb
            refine hK.out _ _ HM12.out (fun _ => ?_)
            clear hK K R11 B11 HM11
            refine wpAnyH_ready (rs := [17]) (by kernel_rfl) (by simp) (AllReadyH.cons rfl (fun K hK => ?_) AllReadyH.nil)
            simp only [List.getElem_toArray, List.getElem_cons_succ, List.getElem_cons_zero]
            go_simp
            go_at_call 22
            (with_reducible refine Calls.mono (OP6.out _ _ R12.out) ?_)
            intro e x13 ht
            obtain ⟨rfl, ⟨v13, hr⟩, hb, hk⟩ := turn_below R12.out ht
            have R13 := Lib.hid hr; have B13 := Lib.hid (B12.out.trans (hb.mono hbase))
            have HM13 := Lib.hid ((hk _ _ _ _ (by decide) (by decide) HM12.out).trans HM12.out)
            clear ht hr hb hk
            refine hK.out _ _ HM13.out (fun _ => ?_)
            clear hK K R12 B12 HM12
            refine wpAnyH_ready (rs := [21]) (by kernel_rfl) (by simp) (AllReadyH.cons rfl (fun K hK => ?_) AllReadyH.nil)
            simp only [List.getElem_toArray, List.getElem_cons_succ, List.getElem_cons_zero]
            go_simp
            go_at_call 27
            (with_reducible refine Calls.mono (circuit_any _ _ _ _ _) ?_)
            rintro e x14 ⟨rfl, hb⟩
            have R14 := Lib.hid (R13.out.below hb); have B14 := Lib.hid (B13.out.trans (hb.mono B13.out.size))
            have HM14 := Lib.hid ((hb.block _ (lt_of_heap HM13.out)).trans HM13.out)
            clear hb
            refine hK.out _ _ HM14.out (fun _ => ?_)
            clear hK K R13 B13 HM13
            refine wpAnyH_ready (rs := [22]) (by kernel_rfl) (by simp) (AllReadyH.cons rfl (fun K hK => ?_) AllReadyH.nil)
            simp only [List.getElem_toArray, List.getElem_cons_succ, List.getElem_cons_zero]
            go_simp
            go_at_call 22
            (with_reducible refine Calls.mono (OP7.out _ _ R14.out) ?_)
            intro e x15 ht
            obtain ⟨rfl, ⟨v15, hr⟩, hb, hk⟩ := turn_below R14.out ht
            have R15 := Lib.hid hr; have B15 := Lib.hid (B14.out.trans (hb.mono hbase))
            have HM15 := Lib.hid ((hk _ _ _ _ (by decide) (by decide) HM14.out).trans HM14.out)
            clear ht hr hb hk
            refine hK.out _ _ HM15.out (fun _ => ?_)
            clear hK K R14 B14 HM14
            refine wpAnyH_ready (rs := [24]) (by kernel_rfl) (by simp) (AllReadyH.cons rfl (fun K hK => ?_) AllReadyH.nil)
            simp only [List.getElem_toArray, List.getElem_cons_succ, List.getElem_cons_zero]
            go_simp
            go_at_call 27
            (with_reducible refine Calls.mono (circuit_any _ _ _ _ _) ?_)
            rintro e x16 ⟨rfl, hb⟩
            have R16 := Lib.hid (R15.out.below hb); have B16 := Lib.hid (B15.out.trans (hb.mono B15.out.size))
            have HM16 := Lib.hid ((hb.block _ (lt_of_heap HM15.out)).trans HM15.out)
            clear hb
            refine hK.out _ _ HM16.out (fun _ => ?_)
            clear hK K R15 B15 HM15
            refine wpAnyH_ready (rs := [25]) (by kernel_rfl) (by simp) (AllReadyH.cons rfl (fun K hK => ?_) AllReadyH.nil)
            simp only [List.getElem_toArray, List.getElem_cons_succ, List.getElem_cons_zero]
            go_simp
            go_at_call 22
            (with_reducible refine Calls.mono (OP8.out _ _ R16.out) ?_)
            intro e x17 ht
            obtain ⟨rfl, ⟨v17, hr⟩, hb, hk⟩ := turn_below R16.out ht
            have R17 := Lib.hid hr; have B17 := Lib.hid (B16.out.trans (hb.mono hbase))
            have HM17 := Lib.hid ((hk _ _ _ _ (by decide) (by decide) HM16.out).trans HM16.out)
            clear ht hr hb hk
            refine hK.out _ _ HM17.out (fun _ => ?_)
            clear hK K R16 B16 HM16
            refine wpAnyH_ready (rs := [26]) (by kernel_rfl) (by simp) (AllReadyH.cons rfl (fun K hK => ?_) AllReadyH.nil)
            simp only [List.getElem_toArray, List.getElem_cons_succ, List.getElem_cons_zero]
            go_simp
            refine hK.out _ _ ((alloc_heap _ (lt_of_heap HM17.out)).trans HM17.out) (fun _ => ?_)
            clear hK K
            refine wpAnyH_ready (rs := [27]) (by kernel_rfl) (by simp) (AllReadyH.cons rfl (fun K hK => ?_) AllReadyH.nil)
            simp only [List.getElem_toArray, List.getElem_cons_succ, List.getElem_cons_zero]
            go_simp
            refine hK.out _ _ ((alloc_heap _ (lt_of_heap HM17.out)).trans HM17.out) (fun _ => ?_)
            clear hK K
            refine wpAnyH_done (by kernel_rfl) ?_ _
            go_wp2_with fail
            go_meet
            exact ⟨_, _, rfl, Lib.hid (B17.out.alloc B17.out.size _), Lib.hid (R17.out.below (below_new' x17 _)), Lib.hid (heap_alloc_at _ _)⟩
          simp only [List.getElem_toArray, List.getElem_cons_succ, List.getElem_cons_zero]
          go_simp
          go_at_call 27
          (with_reducible refine Calls.mono (circuit_any _ _ _ _ _) ?_)
          rintro e x9 ⟨rfl, hb⟩
          have R9 := Lib.hid (R8.out.below hb); have B9 := Lib.hid (B8.out.trans (hb.mono B8.out.size))
          clear hb
          refine hK.out _ _ trivial (fun _ => ?_)
          clear hK K R8 B8
          refine wpAnyH_ready (rs := [14, 19]) (by kernel_rfl) (by simp) (AllReadyH.cons rfl (fun K hK => ?_) (AllReadyH.cons rfl (fun K hK => ?_) AllReadyH.nil))
          rotate_left
          focus
            simp only [List.getElem_toArray, List.getElem_cons_succ, List.getElem_cons_zero]
            have hms := HMS.out
            go_simp
            clear hms
            refine hK.out _ _ trivial (fun _ => ?_)
            clear hK K
            have R10 := Lib.hid (R9.out.below (below_new' x9 (.cells z 5))); have B10 := Lib.hid (B9.out.alloc B9.out.size (.cells z 5)); have HM10 := Lib.hid (heap_alloc_at x9 (.cells z 5))
            generalize x9.alloc (.cells z 5) = x10 at R10 B10 HM10 ⊢
            generalize x9.heap.size = gm at HM10 ⊢
            clear R9 B9
            refine held_true (S := fun w' => w'.heap[gm]? = some (.cells z 5 (0, 0))) ?_
            refine wpAnyH_take (i := 20) (v := .string b7) rfl (by kernel_rfl) (by kernel_rfl) (by kernel_rfl) (fun _ _ _ h => h) (Or.inl ⟨by kernel_rfl, fun x hx => by have h := HCV.out x gm hx; simp only [List.getElem_toArray, List.getElem_cons_succ, List.getElem_cons_zero]; go_simp⟩) HM10.out ?_
            simp only [Act.put, List.setIfInBounds_toArray, List.set_cons_zero, List.set_cons_succ]
            refine wpAnyH_ready (rs := [14]) (by kernel_rfl) (by simp) (AllReadyH.cons rfl (fun K hK => ?_) AllReadyH.nil)
            simp only [List.getElem_toArray, List.getElem_cons_succ, List.getElem_cons_zero]
            go_simp
            go_at_call 22
            (with_reducible refine Calls.mono (OP5.out _ _ R10.out) ?_)
            intro e x11 ht
            obtain ⟨rfl, ⟨v11, hr⟩, hb, hk⟩ := turn_below R10.out ht
            have R11 := Lib.hid hr; have B11 := Lib.hid (B10.out.trans (hb.mono hbase))
            have HM11 := Lib.hid ((hk _ _ _ _ (by decide) (by decide) HM10.out).trans HM10.out)
            clear ht hr hb hk
            refine hK.out _ _ HM11.out (fun _ => ?_)
            clear hK K R10 B10 HM10
            refine wpAnyH_ready (rs := [16]) (by kernel_rfl) (by simp) (AllReadyH.cons rfl (fun K hK => ?_) AllReadyH.nil)
            simp only [List.getElem_toArray, List.getElem_cons_succ, List.getElem_cons_zero]
            go_simp
            go_at_call 27
            (with_reducible refine Calls.mono (circuit_any _ _ _ _ _) ?_)
            rintro e x12 ⟨rfl, hb⟩
            have R12 := Lib.hid (R11.out.below hb); have B12 := Lib.hid (B11.out.trans (hb.mono B11.out.size))
            have HM12 := Lib.hid ((hb.block _ (lt_of_heap HM11.out)).trans HM11.out)
            clear hb
            refine hK.out _ _ HM12.out (fun _ => ?_)
            clear hK K R11 B11 HM11
            refine wpAnyH_ready (rs := [17]) (by kernel_rfl) (by simp) (AllReadyH.cons rfl (fun K hK => ?_) AllReadyH.nil)
            simp only [List.getElem_toArray, List.getElem_cons_succ, List.getElem_cons_zero]
            go_simp
            go_at_call 22
            (with_reducible refine Calls.mono (OP6.out _ _ R12.out) ?_)
            intro e x13 ht
            obtain ⟨rfl, ⟨v13, hr⟩, hb, hk⟩ := turn_below R12.out ht
            have R13 := Lib.hid hr; have B13 := Lib.hid (B12.out.trans (hb.mono hbase))
            have HM13 := Lib.hid ((hk _ _ _ _ (by decide) (by decide) HM12.out).trans HM12.out)
            clear ht hr hb hk
            refine hK.out _ _ HM13.out (fun _ => ?_)
            clear hK K R12 B12 HM12
            refine wpAnyH_ready (rs := [21]) (by kernel_rfl) (by simp) (AllReadyH.cons rfl (fun K hK => ?_) AllReadyH.nil)
            simp only [List.getElem_toArray, List.getElem_cons_succ, List.getElem_cons_zero]
            go_simp
            go_at_call 27
            (with_reducible refine Calls.mono (circuit_any _ _ _ _ _) ?_)
            rintro e x14 ⟨rfl, hb⟩
            have R14 := Lib.hid (R13.out.below hb); have B14 := Lib.hid (B13.out.trans (hb.mono B13.out.size))
            have HM14 := Lib.hid ((hb.block _ (lt_of_heap HM13.out)).trans HM13.out)
            clear hb
            refine hK.out _ _ HM14.out (fun _ => ?_)
            clear hK K R13 B13 HM13
            refine wpAnyH_ready (rs := [22]) (by kernel_rfl) (by simp) (AllReadyH.cons rfl (fun K hK => ?_) AllReadyH.nil)
            simp only [List.getElem_toArray, List.getElem_cons_succ, List.getElem_cons_zero]
            go_simp
            go_at_call 22
            (with_reducible refine Calls.mono (OP7.out _ _ R14.out) ?_)
            intro e x15 ht
            obtain ⟨rfl, ⟨v15, hr⟩, hb, hk⟩ := turn_below R14.out ht
            have R15 := Lib.hid hr; have B15 := Lib.hid (B14.out.trans (hb.mono hbase))
            have HM15 := Lib.hid ((hk _ _ _ _ (by decide) (by decide) HM14.out).trans HM14.out)
            clear ht hr hb hk
            refine hK.out _ _ HM15.out (fun _ => ?_)
            clear hK K R14 B14 HM14
            refine wpAnyH_ready (rs := [24]) (by kernel_rfl) (by simp) (AllReadyH.cons rfl (fun K hK => ?_) AllReadyH.nil)
            simp only [List.getElem_toArray, List.getElem_cons_succ, List.getElem_cons_zero]
            go_simp
            go_at_call 27
            (with_reducible refine Calls.mono (circuit_any _ _ _ _ _) ?_)
            rintro e x16 ⟨rfl, hb⟩
            have R16 := Lib.hid (R15.out.below hb); have B16 := Lib.hid (B15.out.trans (hb.mono B15.out.size))
            have HM16 := Lib.hid ((hb.block _ (lt_of_heap HM15.out)).trans HM15.out)
            clear hb
            refine hK.out _ _ HM16.out (fun _ => ?_)
            clear hK K R15 B15 HM15
            refine wpAnyH_ready (rs := [25]) (by kernel_rfl) (by simp) (AllReadyH.cons rfl (fun K hK => ?_) AllReadyH.nil)
            simp only [List.getElem_toArray, List.getElem_cons_succ, List.getElem_cons_zero]
            go_simp
            go_at_call 22
            (with_reducible refine Calls.mono (OP8.out _ _ R16.out) ?_)
            intro e x17 ht
            obtain ⟨rfl, ⟨v17, hr⟩, hb, hk⟩ := turn_below R16.out ht
            have R17 := Lib.hid hr; have B17 := Lib.hid (B16.out.trans (hb.mono hbase))
            have HM17 := Lib.hid ((hk _ _ _ _ (by decide) (by decide) HM16.out).trans HM16.out)
            clear ht hr hb hk
            refine hK.out _ _ HM17.out (fun _ => ?_)
            clear hK K R16 B16 HM16
            refine wpAnyH_ready (rs := [26]) (by kernel_rfl) (by simp) (AllReadyH.cons rfl (fun K hK => ?_) AllReadyH.nil)
            simp only [List.getElem_toArray, List.getElem_cons_succ, List.getElem_cons_zero]
            go_simp
            refine hK.out _ _ ((alloc_heap _ (lt_of_heap HM17.out)).trans HM17.out) (fun _ => ?_)
            clear hK K
            refine wpAnyH_ready (rs := [27]) (by kernel_rfl) (by simp) (AllReadyH.cons rfl (fun K hK => ?_) AllReadyH.nil)
            simp only [List.getElem_toArray, List.getElem_cons_succ, List.getElem_cons_zero]
            go_simp
            refine hK.out _ _ ((alloc_heap _ (lt_of_heap HM17.out)).trans HM17.out) (fun _ => ?_)
            clear hK K
            refine wpAnyH_done (by kernel_rfl) ?_ _
            go_wp2_with fail
            go_meet
            exact ⟨_, _, rfl, Lib.hid (B17.out.alloc B17.out.size _), Lib.hid (R17.out.below (below_new' x17 _)), Lib.hid (heap_alloc_at _ _)⟩
          simp only [List.getElem_toArray, List.getElem_cons_succ, List.getElem_cons_zero]
          go_simp
          go_at_call 22
          (with_reducible refine Calls.mono (OP5.out _ _ R9.out) ?_)
          intro e x10 ht
          obtain ⟨rfl, ⟨v10, hr⟩, hb, hk⟩ := turn_below R9.out ht
          have R10 := Lib.hid hr; have B10 := Lib.hid (B9.out.trans (hb.mono hbase))
          clear ht hr hb hk
          refine hK.out _ _ trivial (fun _ => ?_)
          clear hK K R9 B9
          refine wpAnyH_ready (rs := [16, 19]) (by kernel_rfl) (by simp) (AllReadyH.cons rfl (fun K hK => ?_) (AllReadyH.cons rfl (fun K hK => ?_) AllReadyH.nil))
          rotate_left
          focus
            simp only [List.getElem_toArray, List.getElem_cons_succ, List.getElem_cons_zero]
            have hms := HMS.out
            go_simp
            clear hms
            refine hK.out _ _ trivial (fun _ => ?_)
            clear hK K
            have R11 := Lib.hid (R10.out.below (below_new' x10 (.cells z 5))); have B11 := Lib.hid (B10.out.alloc B10.out.size (.cells z 5)); have HM11 := Lib.hid (heap_alloc_at x10 (.cells z 5))
            generalize x10.alloc (.cells z 5) = x11 at R11 B11 HM11 ⊢
            generalize x10.heap.size = gm at HM11 ⊢
            clear R10 B10
            refine held_true (S := fun w' => w'.heap[gm]? = some (.cells z 5 (0, 0))) ?_
            refine wpAnyH_take (i := 20) (v := .string b7) rfl (by kernel_rfl) (by kernel_rfl) (by kernel_rfl) (fun _ _ _ h => h) (Or.inl ⟨by kernel_rfl, fun x hx => by have h := HCV.out x gm hx; simp only [List.getElem_toArray, List.getElem_cons_succ, List.getElem_cons_zero]; go_simp⟩) HM11.out ?_
            simp only [Act.put, List.setIfInBounds_toArray, List.set_cons_zero, List.set_cons_succ]
            refine wpAnyH_ready (rs := [16]) (by kernel_rfl) (by simp) (AllReadyH.cons rfl (fun K hK => ?_) AllReadyH.nil)
            simp only [List.getElem_toArray, List.getElem_cons_succ, List.getElem_cons_zero]
            go_simp
            go_at_call 27
            (with_reducible refine Calls.mono (circuit_any _ _ _ _ _) ?_)
            rintro e x12 ⟨rfl, hb⟩
            have R12 := Lib.hid (R11.out.below hb); have B12 := Lib.hid (B11.out.trans (hb.mono B11.out.size))
            have HM12 := Lib.hid ((hb.block _ (lt_of_heap HM11.out)).trans HM11.out)
            clear hb
            refine hK.out _ _ HM12.out (fun _ => ?_)
            clear hK K R11 B11 HM11
            refine wpAnyH_ready (rs := [17]) (by kernel_rfl) (by simp) (AllReadyH.cons rfl (fun K hK => ?_) AllReadyH.nil)
            simp only [List.getElem_toArray, List.getElem_cons_succ, List.getElem_cons_zero]
            go_simp
            go_at_call 22
            (with_reducible refine Calls.mono (OP6.out _ _ R12.out) ?_)
            intro e x13 ht
            obtain ⟨rfl, ⟨v13, hr⟩, hb, hk⟩ := turn_below R12.out ht
            have R13 := Lib.hid hr; have B13 := Lib.hid (B12.out.trans (hb.mono hbase))
            have HM13 := Lib.hid ((hk _ _ _ _ (by decide) (by decide) HM12.out).trans HM12.out)
            clear ht hr hb hk
            refine hK.out _ _ HM13.out (fun _ => ?_)
            clear hK K R12 B12 HM12
            refine wpAnyH_ready (rs := [21]) (by kernel_rfl) (by simp) (AllReadyH.cons rfl (fun K hK => ?_) AllReadyH.nil)
            simp only [List.getElem_toArray, List.getElem_cons_succ, List.getElem_cons_zero]
            go_simp
            go_at_call 27
            (with_reducible refine Calls.mono (circuit_any _ _ _ _ _) ?_)
            rintro e x14 ⟨rfl, hb⟩
            have R14 := Lib.hid (R13.out.below hb); have B14 := Lib.hid (B13.out.trans (hb.mono B13.out.size))
            have HM14 := Lib.hid ((hb.block _ (lt_of_heap HM13.out)).trans HM13.out)
            clear hb
            refine hK.out _ _ HM14.out (fun _ => ?_)
            clear hK K R13 B13 HM13
            refine wpAnyH_ready (rs := [22]) (by kernel_rfl) (by simp) (AllReadyH.cons rfl (fun K hK => ?_) AllReadyH.nil)
            simp only [List.getElem_toArray, List.getElem_cons_succ, List.getElem_cons_zero]
            go_simp
            go_at_call 22
            (with_reducible refine Calls.mono (OP7.out _ _ R14.out) ?_)
            intro e x15 ht
            obtain ⟨rfl, ⟨v15, hr⟩, hb, hk⟩ := turn_below R14.out ht
            have R15 := Lib.hid hr; have B15 := Lib.hid (B14.out.trans (hb.mono hbase))
            have HM15 := Lib.hid ((hk _ _ _ _ (by decide) (by decide) HM14.out).trans HM14.out)
            clear ht hr hb hk
            refine hK.out _ _ HM15.out (fun _ => ?_)
            clear hK K R14 B14 HM14
            refine wpAnyH_ready (rs := [24]) (by kernel_rfl) (by simp) (AllReadyH.cons rfl (fun K hK => ?_) AllReadyH.nil)
            simp only [List.getElem_toArray, List.getElem_cons_succ, List.getElem_cons_zero]
            go_simp
            go_at_call 27
            (with_reducible refine Calls.mono (circuit_any _ _ _ _ _) ?_)
            rintro e x16 ⟨rfl, hb⟩
            have R16 := Lib.hid (R15.out.below hb); have B16 := Lib.hid (B15.out.trans (hb.mono B15.out.size))
            have HM16 := Lib.hid ((hb.block _ (lt_of_heap HM15.out)).trans HM15.out)
            clear hb
            refine hK.out _ _ HM16.out (fun _ => ?_)
            clear hK K R15 B15 HM15
            refine wpAnyH_ready (rs := [25]) (by kernel_rfl) (by simp) (AllReadyH.cons rfl (fun K hK => ?_) AllReadyH.nil)
            simp only [List.getElem_toArray, List.getElem_cons_succ, List.getElem_cons_zero]
            go_simp
            go_at_call 22
            (with_reducible refine Calls.mono (OP8.out _ _ R16.out) ?_)
            intro e x17 ht
            obtain ⟨rfl, ⟨v17, hr⟩, hb, hk⟩ := turn_below R16.out ht
            have R17 := Lib.hid hr; have B17 := Lib.hid (B16.out.trans (hb.mono hbase))
            have HM17 := Lib.hid ((hk _ _ _ _ (by decide) (by decide) HM16.out).trans HM16.out)
            clear ht hr hb hk
            refine hK.out _ _ HM17.out (fun _ => ?_)
            clear hK K R16 B16 HM16
            refine wpAnyH_ready (rs := [26]) (by kernel_rfl) (by simp) (AllReadyH.cons rfl (fun K hK => ?_) AllReadyH.nil)
            simp only [List.getElem_toArray, List.getElem_cons_succ, List.getElem_cons_zero]
            go_simp
            refine hK.out _ _ ((alloc_heap _ (lt_of_heap HM17.out)).trans HM17.out) (fun _ => ?_)
            clear hK K
            refine wpAnyH_ready (rs := [27]) (by kernel_rfl) (by simp) (AllReadyH.cons rfl (fun K hK => ?_) AllReadyH.nil)
            simp only [List.getElem_toArray, List.getElem_cons_succ, List.getElem_cons_zero]
            go_simp
            refine hK.out _ _ ((alloc_heap _ (lt_of_heap HM17.out)).trans HM17.out) (fun _ => ?_)
            clear hK K
            refine wpAnyH_done (by kernel_rfl) ?_ _
            go_wp2_with fail
            go_meet
            exact ⟨_, _, rfl, Lib.hid (B17.out.alloc B17.out.size _), Lib.hid (R17.out.below (below_new' x17 _)), Lib.hid (heap_alloc_at _ _)⟩
          simp only [List.getElem_toArray, List.getElem_cons_succ, List.getElem_cons_zero]
          go_simp
          go_at_call 27
          (with_reducible refine Calls.mono (circuit_any _ _ _ _ _) ?_)
          rintro e x11 ⟨rfl, hb⟩
          have R11 := Lib.hid (R10.out.below hb); have B11 := Lib.hid (B10.out.trans (hb.mono B10.out.size))
          clear hb
          refine hK.out _ _ trivial (fun _ => ?_)
          clear hK K R10 B10
          refine wpAnyH_ready (rs := [17, 19]) (by kernel_rfl) (by simp) (AllReadyH.cons rfl (fun K hK => ?_) (AllReadyH.cons rfl (fun K hK => ?_) AllReadyH.nil))
          rotate_left
          focus
            simp only [List.getElem_toArray, List.getElem_cons_succ, List.getElem_cons_zero]
            have hms := HMS.out
            go_simp
            clear hms
            refine hK.out _ _ trivial (fun _ => ?_)
            clear hK K
            have R12 := Lib.hid (R11.out.below (below_new' x11 (.cells z 5))); have B12 := Lib.hid (B11.out.alloc B11.out.size (.cells z 5)); have HM12 := Lib.hid (heap_alloc_at x11 (.cells z 5))
            generalize x11.alloc (.cells z 5) = x12 at R12 B12 HM12 ⊢
            generalize x11.heap.size = gm at HM12 ⊢
            clear R11 B11
            refine held_true (S := fun w' => w'.heap[gm]? = some (.cells z 5 (0, 0))) ?_
            refine wpAnyH_take (i := 20) (v := .string b7) rfl (by kernel_rfl) (by kernel_rfl) (by kernel_rfl) (fun _ _ _ h => h) (Or.inl ⟨by kernel_rfl, fun x hx => by have h := HCV.out x gm hx; simp only [List.getElem_toArray, List.getElem_cons_succ, List.getElem_cons_zero]; go_simp⟩) HM12.out ?_
            simp only [Act.put, List.setIfInBounds_toArray, List.set_cons_zero, List.set_cons_succ]
            refine wpAnyH_ready (rs := [17]) (by kernel_rfl) (by simp) (AllReadyH.cons rfl (fun K hK => ?_) AllReadyH.nil)
            simp only [List.getElem_toArray, List.getElem_cons_succ, List.getElem_cons_zero]
            go_simp
            go_at_call 22
            (with_reducible refine Calls.mono (OP6.out _ _ R12.out) ?_)
            intro e x13 ht
            obtain ⟨rfl, ⟨v13, hr⟩, hb, hk⟩ := turn_below R12.out ht
            have R13 := Lib.hid hr; have B13 := Lib.hid (B12.out.trans (hb.mono hbase))
            have HM13 := Lib.hid ((hk _ _ _ _ (by decide) (by decide) HM12.out).trans HM12.out)
            clear ht hr hb hk
            refine hK.out _ _ HM13.out (fun _ => ?_)
            clear hK K R12 B12 HM12
            refine wpAnyH_ready (rs := [21]) (by kernel_rfl) (by simp) (AllReadyH.cons rfl (fun K hK => ?_) AllReadyH.nil)
            simp only [List.getElem_toArray, List.getElem_cons_succ, List.getElem_cons_zero]
            go_simp
            go_at_call 27
            (with_reducible refine Calls.mono (circuit_any _ _ _ _ _) ?_)
            rintro e x14 ⟨rfl, hb⟩
            have R14 := Lib.hid (R13.out.below hb); have B14 := Lib.hid (B13.out.trans (hb.mono B13.out.size))
            have HM14 := Lib.hid ((hb.block _ (lt_of_heap HM13.out)).trans HM13.out)
            clear hb
            refine hK.out _ _ HM14.out (fun _ => ?_)
            clear hK K R13 B13 HM13
            refine wpAnyH_ready (rs := [22]) (by kernel_rfl) (by simp) (AllReadyH.cons rfl (fun K hK => ?_) AllReadyH.nil)
            simp only [List.getElem_toArray, List.getElem_cons_succ, List.getElem_cons_zero]
            go_simp
            go_at_call 22
            (with_reducible refine Calls.mono (OP7.out _ _ R14.out) ?_)
            intro e x15 ht
            obtain ⟨rfl, ⟨v15, hr⟩, hb, hk⟩ := turn_below R14.out ht
            have R15 := Lib.hid hr; have B15 := Lib.hid (B14.out.trans (hb.mono hbase))
            have HM15 := Lib.hid ((hk _ _ _ _ (by decide) (by decide) HM14.out).trans HM14.out)
            clear ht hr hb hk
            refine hK.out _ _ HM15.out (fun _ => ?_)
            clear hK K R14 B14 HM14
            refine wpAnyH_ready (rs := [24]) (by kernel_rfl) (by simp) (AllReadyH.cons rfl (fun K hK => ?_) AllReadyH.nil)
            simp only [List.getElem_toArray, List.getElem_cons_succ, List.getElem_cons_zero]
            go_simp
            go_at_call 27
            (with_reducible refine Calls.mono (circuit_any _ _ _ _ _) ?_)
            rintro e x16 ⟨rfl, hb⟩
            have R16 := Lib.hid (R15.out.below hb); have B16 := Lib.hid (B15.out.trans (hb.mono B15.out.size))
            have HM16 := Lib.hid ((hb.block _ (lt_of_heap HM15.out)).trans HM15.out)
            clear hb
            refine hK.out _ _ HM16.out (fun _ => ?_)
            clear hK K R15 B15 HM15
            refine wpAnyH_ready (rs := [25]) (by kernel_rfl) (by simp) (AllReadyH.cons rfl (fun K hK => ?_) AllReadyH.nil)
            simp only [List.getElem_toArray, List.getElem_cons_succ, List.getElem_cons_zero]
            go_simp
            go_at_call 22
            (with_reducible refine Calls.mono (OP8.out _ _ R16.out) ?_)
            intro e x17 ht
            obtain ⟨rfl, ⟨v17, hr⟩, hb, hk⟩ := turn_below R16.out ht
            have R17 := Lib.hid hr; have B17 := Lib.hid (B16.out.trans (hb.mono hbase))
            have HM17 := Lib.hid ((hk _ _ _ _ (by decide) (by decide) HM16.out).trans HM16.out)
            clear ht hr hb hk
            refine hK.out _ _ HM17.out (fun _ => ?_)
            clear hK K R16 B16 HM16
            refine wpAnyH_ready (rs := [26]) (by kernel_rfl) (by simp) (AllReadyH.cons rfl (fun K hK => ?_) AllReadyH.nil)
            simp only [List.getElem_toArray, List.getElem_cons_succ, List.getElem_cons_zero]
            go_simp
            refine hK.out _ _ ((alloc_heap _ (lt_of_heap HM17.out)).trans HM17.out) (fun _ => ?_)
            clear hK K
            refine wpAnyH_ready (rs := [27]) (by kernel_rfl) (by simp) (AllReadyH.cons rfl (fun K hK => ?_) AllReadyH.nil)
            simp only [List.getElem_toArray, List.getElem_cons_succ, List.getElem_cons_zero]
            go_simp
            refine hK.out _ _ ((alloc_heap _ (lt_of_heap HM17.out)).trans HM17.out) (fun _ => ?_)
            clear hK K
            refine wpAnyH_done (by kernel_rfl) ?_ _
            go_wp2_with fail
            go_meet
            exact ⟨_, _, rfl, Lib.hid (B17.out.alloc B17.out.size _), Lib.hid (R17.out.below (below_new' x17 _)), Lib.hid (heap_alloc_at _ _)⟩
          simp only [List.getElem_toArray, List.getElem_cons_succ, List.getElem_cons_zero]
          go_simp
          go_at_call 22
          (with_reducible refine Calls.mono (OP6.out _ _ R11.out) ?_)
          intro e x12 ht
          obtain ⟨rfl, ⟨v12, hr⟩, hb, hk⟩ := turn_below R11.out ht
          have R12 := Lib.hid hr; have B12 := Lib.hid (B11.out.trans (hb.mono hbase))
          clear ht hr hb hk
          refine hK.out _ _ trivial (fun _ => ?_)
          clear hK K R11 B11
          refine wpAnyH_ready (rs := [19]) (by kernel_rfl) (by simp) (AllReadyH.cons rfl (fun K hK => ?_) AllReadyH.nil)
          simp only [List.getElem_toArray, List.getElem_cons_succ, List.getElem_cons_zero]
          have hms := HMS.out
          go_simp
          clear hms
          refine hK.out _ _ trivial (fun _ => ?_)
          clear hK K
          have R13 := Lib.hid (R12.out.below (below_new' x12 (.cells z 5))); have B13 := Lib.hid (B12.out.alloc B12.out.size (.cells z 5)); have HM13 := Lib.hid (heap_alloc_at x12 (.cells z 5))
          generalize x12.alloc (.cells z 5) = x13 at R13 B13 HM13 ⊢
          generalize x12.heap.size = gm at HM13 ⊢
          clear R12 B12
          refine held_true (S := fun w' => w'.heap[gm]? = some (.cells z 5 (0, 0))) ?_
          refine wpAnyH_take (i := 20) (v := .string b7) rfl (by kernel_rfl) (by kernel_rfl) (by kernel_rfl) (fun _ _ _ h => h) (Or.inl ⟨by kernel_rfl, fun x hx => by have h := HCV.out x gm hx; simp only [List.getElem_toArray, List.getElem_cons_succ, List.getElem_cons_zero]; go_simp⟩) HM13.out ?_
          simp only [Act.put, List.setIfInBounds_toArray, List.set_cons_zero, List.set_cons_succ]
          refine wpAnyH_ready (rs := [21]) (by kernel_rfl) (by simp) (AllReadyH.cons rfl (fun K hK => ?_) AllReadyH.nil)
          simp only [List.getElem_toArray, List.getElem_cons_succ, List.getElem_cons_zero]
          go_simp
          go_at_call 27
          (with_reducible refine Calls.mono (circuit_any _ _ _ _ _) ?_)
          rintro e x14 ⟨rfl, hb⟩
          have R14 := Lib.hid (R13.out.below hb); have B14 := Lib.hid (B13.out.trans (hb.mono B13.out.size))
          have HM14 := Lib.hid ((hb.block _ (lt_of_heap HM13.out)).trans HM13.out)
          clear hb
          refine hK.out _ _ HM14.out (fun _ => ?_)
          clear hK K R13 B13 HM13
          refine wpAnyH_ready (rs := [22]) (by kernel_rfl) (by simp) (AllReadyH.cons rfl (fun K hK => ?_) AllReadyH.nil)
          simp only [List.getElem_toArray, List.getElem_cons_succ, List.getElem_cons_zero]
          go_simp
          go_at_call 22
          (with_reducible refine Calls.mono (OP7.out _ _ R14.out) ?_)
          intro e x15 ht
          obtain ⟨rfl, ⟨v15, hr⟩, hb, hk⟩ := turn_below R14.out ht
          have R15 := Lib.hid hr; have B15 := Lib.hid (B14.out.trans (hb.mono hbase))
          have HM15 := Lib.hid ((hk _ _ _ _ (by decide) (by decide) HM14.out).trans HM14.out)
          clear ht hr hb hk
          refine hK.out _ _ HM15.out (fun _ => ?_)
          clear hK K R14 B14 HM14
          refine wpAnyH_ready (rs := [24]) (by kernel_rfl) (by simp) (AllReadyH.cons rfl (fun K hK => ?_) AllReadyH.nil)
          simp only [List.getElem_toArray, List.getElem_cons_succ, List.getElem_cons_zero]
          go_simp
          go_at_call 27
          (with_reducible refine Calls.mono (circuit_any _ _ _ _ _) ?_)
          rintro e x16 ⟨rfl, hb⟩
          have R16 := Lib.hid (R15.out.below hb); have B16 := Lib.hid (B15.out.trans (hb.mono B15.out.size))
          have HM16 := Lib.hid ((hb.block _ (lt_of_heap HM15.out)).trans HM15.out)
          clear hb
          refine hK.out _ _ HM16.out (fun _ => ?_)
          clear hK K R15 B15 HM15
          refine wpAnyH_ready (rs := [25]) (by kernel_rfl) (by simp) (AllReadyH.cons rfl (fun K hK => ?_) AllReadyH.nil)
          simp only [List.getElem_toArray, List.getElem_cons_succ, List.getElem_cons_zero]
          go_simp
          go_at_call 22
          (with_reducible refine Calls.mono (OP8.out _ _ R16.out) ?_)
          intro e x17 ht
          obtain ⟨rfl, ⟨v17, hr⟩, hb, hk⟩ := turn_below R16.out ht
          have R17 := Lib.hid hr; have B17 := Lib.hid (B16.out.trans (hb.mono hbase))
          have HM17 := Lib.hid ((hk _ _ _ _ (by decide) (by decide) HM16.out).trans HM16.out)
          clear ht hr hb hk
          refine hK.out _ _ HM17.out (fun _ => ?_)
          clear hK K R16 B16 HM16
          refine wpAnyH_ready (rs := [26]) (by kernel_rfl) (by simp) (AllReadyH.cons rfl (fun K hK => ?_) AllReadyH.nil)
          simp only [List.getElem_toArray, List.getElem_cons_succ, List.getElem_cons_zero]
          go_simp
          refine hK.out _ _ ((alloc_heap _ (lt_of_heap HM17.out)).trans HM17.out) (fun _ => ?_)
          clear hK K
          refine wpAnyH_ready (rs := [27]) (by kernel_rfl) (by simp) (AllReadyH.cons rfl (fun K hK => ?_) AllReadyH.nil)
          simp only [List.getElem_toArray, List.getElem_cons_succ, List.getElem_cons_zero]
          go_simp
          refine hK.out _ _ ((alloc_heap _ (lt_of_heap HM17.out)).trans HM17.out) (fun _ => ?_)
          clear hK K
          refine wpAnyH_done (by kernel_rfl) ?_ _
          go_wp2_with fail
          go_meet
          exact ⟨_, _, rfl, Lib.hid (B17.out.alloc B17.out.size _), Lib.hid (R17.out.below (below_new' x17 _)), Lib.hid (heap_alloc_at _ _)⟩
        case rest =>
          obtain ⟨gc, v3, rfl, hB0, hR0, hC0⟩ := hcut
          go_upto_region 18 with fail
          have hgc : gc < wc.heap.size := lt_of_heap hC0.out
          have B3 := Lib.hid (hB0.out.alloc hB0.out.size (.cells gotA 27))
          have R3 := Lib.hid (hR0.out.below (below_new' wc (.cells gotA 27)))
          have HC : Hid ((wc.alloc (.cells gotA 27)).heap[gc]? = some (.cells gotA 27 (0, 0))) := (alloc_heap _ hgc).trans hC0.out
          have HD : Hid ((wc.alloc (.cells gotA 27)).heap[wc.heap.size]? = some (.cells gotA 27 (0, 0))) := heap_alloc_at _ _
          have hgen : wc.alloc (.cells #[.int .i64 0, .int .i64 6, .int .i64 6, .int .i64 0, .int .i64 2, .int .i64 2, .int .i64 2, .int .i64 0] 27) = wc.alloc (.cells gotA 27) := rfl
          rw [hgen]
          generalize wc.alloc (.cells gotA 27) = w3 at B3 R3 HC HD ⊢
          clear hgen
          generalize wc.heap.size = gd at HD ⊢
          clear hgc hC0 hB0 hR0 R2 B2
          go_wp2_with fail
          go_loopw [11] (fun iv wr => ∃ i : Nat, i ≤ 8 ∧ iv = .int .i64 i ∧ Hid (Below w3.heap.size w3 wr)) (fun iv _ => 8 - (intOf iv).toNat)
          case atStart => exact ⟨0, by omega, rfl, Below.refl _ _⟩
          case round =>
            obtain ⟨i, hi, rfl, hB⟩ := hrel
            have hBs := hB.out.size
            by_cases hlt : i < 8
            · obtain ⟨x, r0⟩ := got_at i hlt
              have ha := (hB.out.block gc (lt_of_heap HC.out)).trans HC.out
              have hb := (hB.out.block gd (lt_of_heap HD.out)).trans HD.out
              have g0 : wr.cell? ⟨gc, i, none⟩ = some (.int .i64 x) := by rw [cell_of_row _ _ _ _ _ _ ha]; exact r0
              have g1 : wr.cell? ⟨gd, i, none⟩ = some (.int .i64 x) := by rw [cell_of_row _ _ _ _ _ _ hb]; exact r0
              replace g0 := Later.cell g0; replace g1 := Later.cell g1
              clear ha hb r0
              have hii : (i : Int) < 8 := by omega
              have hne : (x != x) = false := by simp
              go_wp2_with fail
              refine wp_region_later (by kernel_rfl) (by kernel_rfl) ?_
              repeat (go_big_quiet_step (fail))
              refine wpQuiet_nil ?_
              intro _ hw'
              obtain ⟨nq, rfl⟩ := hw'
              go_wp2_with fail
              go_roundw
              case rel => exact ⟨i + 1, by omega, by go_num, hB.out.trans (nq.below.mono hBs)⟩
              case measure => simp [intOf]; omega
            · obtain rfl : i = 8 := by omega
              try rw [show ((8 : Nat) : Int) = 8 from rfl]
              have R4 := Lib.hid (R3.out.below hB.out)
              have B4 := Lib.hid (B3.out.trans (hB.out.mono B3.out.size))
              clear HC HD hB hBs hlt hi R3 B3
              have IN3 : Hid (∀ W v, RelAt W base rb mi mo v L3 → Calls Try.prog 15 #[.pointer (some ⟨rb, 0, none⟩), .string ⟨#[97]⟩, .int .i64 3] W fun e w' => e = .returned (.tuple #[.agg #[.string ⟨#[]⟩, .int .i64 0, .string ⟨#[]⟩, .int .i64 0, .int .i64 0, .int .i64 0, .int .i64 0, .int .i64 0, .string ⟨#[]⟩, .string ⟨#[]⟩], .bool false]) ∧ Below W.heap.size W w') := fun W v h => by
                have := in_any rb base mi mo v L3 W h ⟨#[97]⟩ 3
                rw [in3] at this
                exact this
              have CL1 : Hid (∀ W v, RelAt W base rb mi mo v L3 → Calls Try.prog 20 #[.pointer (some ⟨rb, 0, none⟩), .string ⟨#[98]⟩, .int .i64 7] W (TurnPost W base rb mi mo v (fillL 0) (.tuple #[.agg #[.string ⟨#[97]⟩, .int .i64 1, .string ⟨#[98]⟩, .int .i64 7, .int .i64 5015, .int .i64 5000, .int .i64 0, .int .i64 0, .string ⟨#[72, 110, 57, 59]⟩, .string ⟨#[]⟩], .int .i64 0]))) := fun W v h => by
                have := close_sum rb base mi mo v L3 W h ⟨#[98]⟩ 7
                rw [cl1] at this
                exact this
              have CL2 : Hid (∀ W v, RelAt W base rb mi mo v (fillL 0) → Calls Try.prog 20 #[.pointer (some ⟨rb, 0, none⟩), .string ⟨#[98]⟩, .int .i64 7] W (TurnPost W base rb mi mo v (fillL 0) (.tuple #[.agg #[.string ⟨#[]⟩, .int .i64 0, .string ⟨#[]⟩, .int .i64 0, .int .i64 0, .int .i64 0, .int .i64 0, .int .i64 0, .string ⟨#[]⟩, .string ⟨#[]⟩], .int .i64 5]))) := fun W v h => by
                have := close_sum rb base mi mo v (fillL 0) W h ⟨#[98]⟩ 7
                rw [cl2] at this
                exact this
              go_upto_region 24 with (go_at_call 15; (with_reducible refine Calls.mono (IN3.out _ _ R4.out) ?_); rintro e w5 ⟨rfl, hb5⟩; have R5 := Lib.hid (R4.out.below hb5); have B5 := Lib.hid (B4.out.trans (hb5.mono B4.out.size)); clear hb5)
              have R6 := Lib.hid (R5.out.below (below_new' w5 (.cells #[.string ⟨#[]⟩, .int .i64 0, .string ⟨#[]⟩, .int .i64 0, .int .i64 0, .int .i64 0, .int .i64 0, .int .i64 0, .string ⟨#[]⟩, .string ⟨#[]⟩] 44)))
              have B6 := Lib.hid (B5.out.alloc B5.out.size (.cells #[.string ⟨#[]⟩, .int .i64 0, .string ⟨#[]⟩, .int .i64 0, .int .i64 0, .int .i64 0, .int .i64 0, .int .i64 0, .string ⟨#[]⟩, .string ⟨#[]⟩] 44))
              generalize w5.alloc (.cells #[.string ⟨#[]⟩, .int .i64 0, .string ⟨#[]⟩, .int .i64 0, .int .i64 0, .int .i64 0, .int .i64 0, .int .i64 0, .string ⟨#[]⟩, .string ⟨#[]⟩] 44) = w6 at R6 B6 ⊢
              generalize w5.heap.size = ka
              clear R5 B5 R4 B4
              go_upto_region 25 with (go_at_call 20; (with_reducible refine Calls.mono (CL1.out _ _ R6.out) ?_); intro e w7 ht; obtain ⟨rfl, ⟨v7, hr7⟩, hb7, _⟩ := turn_below R6.out ht; have R7 := Lib.hid hr7; have B7 := Lib.hid (B6.out.trans (hb7.mono hbase)); clear ht hr7 hb7)
              have R8 := Lib.hid (R7.out.below (below_new' w7 (.cells #[.string ⟨#[97]⟩, .int .i64 1, .string ⟨#[98]⟩, .int .i64 7, .int .i64 5015, .int .i64 5000, .int .i64 0, .int .i64 0, .string ⟨#[72, 110, 57, 59]⟩, .string ⟨#[]⟩] 44)))
              have B8 := Lib.hid (B7.out.alloc B7.out.size (.cells #[.string ⟨#[97]⟩, .int .i64 1, .string ⟨#[98]⟩, .int .i64 7, .int .i64 5015, .int .i64 5000, .int .i64 0, .int .i64 0, .string ⟨#[72, 110, 57, 59]⟩, .string ⟨#[]⟩] 44))
              have K8 := Lib.hid (heap_alloc_at w7 (.cells #[.string ⟨#[97]⟩, .int .i64 1, .string ⟨#[98]⟩, .int .i64 7, .int .i64 5015, .int .i64 5000, .int .i64 0, .int .i64 0, .string ⟨#[72, 110, 57, 59]⟩, .string ⟨#[]⟩] 44))
              generalize w7.alloc (.cells #[.string ⟨#[97]⟩, .int .i64 1, .string ⟨#[98]⟩, .int .i64 7, .int .i64 5015, .int .i64 5000, .int .i64 0, .int .i64 0, .string ⟨#[72, 110, 57, 59]⟩, .string ⟨#[]⟩] 44) = w8 at R8 B8 K8 ⊢
              generalize w7.heap.size = kb at K8 ⊢
              clear R7 B7 R6 B6
              go_upto_region 26 with (go_at_call 20; (with_reducible refine Calls.mono (CL2.out _ _ R8.out) ?_); intro e w9 ht; obtain ⟨rfl, ⟨v9, hr9⟩, hb9, hk9⟩ := turn_below R8.out ht; have R9 := Lib.hid hr9; have B9 := Lib.hid (B8.out.trans (hb9.mono hbase)); have K9 := Lib.hid ((hk9 kb _ _ _ (by decide) (by decide) K8.out).trans K8.out); clear ht hr9 hb9 hk9)
              have R10 := Lib.hid (R9.out.below (below_new' w9 (.cells #[.string ⟨#[]⟩, .int .i64 0, .string ⟨#[]⟩, .int .i64 0, .int .i64 0, .int .i64 0, .int .i64 0, .int .i64 0, .string ⟨#[]⟩, .string ⟨#[]⟩] 44)))
              have B10 := Lib.hid (B9.out.alloc B9.out.size (.cells #[.string ⟨#[]⟩, .int .i64 0, .string ⟨#[]⟩, .int .i64 0, .int .i64 0, .int .i64 0, .int .i64 0, .int .i64 0, .string ⟨#[]⟩, .string ⟨#[]⟩] 44))
              have K10 : Hid ((w9.alloc (.cells #[.string ⟨#[]⟩, .int .i64 0, .string ⟨#[]⟩, .int .i64 0, .int .i64 0, .int .i64 0, .int .i64 0, .int .i64 0, .string ⟨#[]⟩, .string ⟨#[]⟩] 44)).heap[kb]? = some (.cells #[.string ⟨#[97]⟩, .int .i64 1, .string ⟨#[98]⟩, .int .i64 7, .int .i64 5015, .int .i64 5000, .int .i64 0, .int .i64 0, .string ⟨#[72, 110, 57, 59]⟩, .string ⟨#[]⟩] 44 (0, 0))) := (alloc_heap _ (lt_of_heap K9.out)).trans K9.out
              generalize w9.alloc (.cells #[.string ⟨#[]⟩, .int .i64 0, .string ⟨#[]⟩, .int .i64 0, .int .i64 0, .int .i64 0, .int .i64 0, .int .i64 0, .string ⟨#[]⟩, .string ⟨#[]⟩] 44) = w10 at R10 B10 K10 ⊢
              generalize w9.heap.size = kc
              clear R9 B9 R8 B8 K8 K9
              have heq : ∀ W : World, (binOp .eql 44 (.agg #[.string ⟨#[97]⟩, .int .i64 1, .string ⟨#[98]⟩, .int .i64 7, .int .i64 5015, .int .i64 5000, .int .i64 0, .int .i64 0, .string ⟨#[72, 110, 57, 59]⟩, .string ⟨#[]⟩]) (.agg #[.string ⟨#[97]⟩, .int .i64 1, .string ⟨#[98]⟩, .int .i64 7, .int .i64 5015, .int .i64 5000, .int .i64 0, .int .i64 0, .string ⟨#[72, 110, 57, 59]⟩, .string ⟨#[]⟩])).run Try.prog W = .ok (.bool true) W := fun W => by kernel_rfl
              have CNT : Hid (∀ W v, RelAt W base rb mi mo v (fillL 0) → Calls Try.prog 25 #[.pointer (some ⟨rb, 0, none⟩)] W fun e w' => e = .returned (.int .i64 2) ∧ W = w') := fun W v h => count_any rb base mi mo v (fillL 0) W h
              obtain ⟨g0, g1, g2, g3, g4, g5, g6, g7, g8, g9⟩ := ten_cells _ _ _ _ _ _ _ _ _ _ K10.out
              replace g0 := Later.cell g0; replace g1 := Later.cell g1; replace g2 := Later.cell g2; replace g3 := Later.cell g3; replace g4 := Later.cell g4; replace g5 := Later.cell g5; replace g6 := Later.cell g6; replace g7 := Later.cell g7; replace g8 := Later.cell g8; replace g9 := Later.cell g9
              refine wp_region_later (by kernel_rfl) (by kernel_rfl) ?_
              repeat (go_big_quiet_step (first | (go_at_call 27; exact calls_later (circuit_ex _)) | (go_at_call 25; exact calls_later_same (CNT.out _ _ (Later.rel R10.out _)))))
              refine wpQuiet_nil ?_
              intro _ hw'
              obtain ⟨nq, rfl⟩ := hw'
              have R11 := Lib.hid (R10.out.below nq.below)
              have B11 := Lib.hid (B10.out.trans (nq.below.mono B10.out.size))
              generalize nq.at_ = w11 at R11 B11 ⊢
              clear g0 g1 g2 g3 g4 g5 g6 g7 g8 g9 heq CNT K10 R10 B10 nq
              go_wp2_with fail
              go_loopw [19] (fun iv wr => ∃ (k : Nat) (z : Int) (v : Value), k ≤ 254 ∧ iv = .int .i64 z ∧ Hid (z = ((100 + k : Nat) : Int)) ∧ Hid (RelAt wr base rb mi mo v (fillL k)) ∧ Hid (Below w.heap.size w wr)) (fun iv _ => 354 - (intOf iv).toNat)
              case atStart => exact ⟨0, 100, _, by omega, rfl, rfl, R11.out, B11.out⟩
              case round =>
                obtain ⟨k, z, v, hk, rfl, hz, hR, hB⟩ := hrel
                have hBs := hB.out.size
                have hz0 : 100 ≤ z := by have := hz.out; omega
                have hz9 : z ≤ 354 := by have := hz.out; omega
                obtain ⟨n, hn⟩ : ∃ n : Int, n = ((k + 2 : Nat) : Int) := ⟨_, rfl⟩
                have CNT : Hid (Calls Try.prog 25 #[.pointer (some ⟨rb, 0, none⟩)] wr fun e w' => e = .returned (.int .i64 n) ∧ wr = w') := by
                  have := count_any rb base mi mo v (fillL k) wr hR.out
                  rw [fillL_len, ← hn] at this
                  exact this
                by_cases hlt : k < 254
                · have hn2 : n < 256 := by omega
                  have OPK : Hid (∀ W v, RelAt W base rb mi mo v (fillL k) → Calls Try.prog 22 #[.pointer (some ⟨rb, 0, none⟩), (mkC ⟨#[120]⟩ z ⟨#[121]⟩ z).val] W (TurnPost W base rb mi mo v (fillL (k + 1)) (.int .i64 0))) := fun W v h => by
                    have := open_sum rb base mi mo v (fillL k) W h (fillC ((100 + k : Nat) : Int)) (mkC_fits _ _ _ _ (by decide) (by decide))
                    rw [fill_open k hlt] at this
                    rw [hz.out]
                    exact this
                  clear hn
                  go_wp2_with (first
                    | (go_at_call 25; (with_reducible refine Calls.mono CNT.out ?_); rintro e wq ⟨rfl, rfl⟩)
                    | (go_at_call 27; (with_reducible refine Calls.mono (circuit_any ⟨#[120]⟩ z ⟨#[121]⟩ z _) ?_); rintro e w12 ⟨rfl, hb12⟩; have R12 := Lib.hid (hR.out.below hb12); have B12 := Lib.hid (hB.out.trans (hb12.mono hBs)); clear hb12)
                    | (go_at_call 22; (with_reducible refine Calls.mono (OPK.out _ _ R12.out) ?_); intro e w13 ht; obtain ⟨rfl, ⟨v13, hr13⟩, hb13, _⟩ := turn_below R12.out ht; have R13 := Lib.hid hr13; have B13 := Lib.hid (B12.out.trans (hb13.mono hbase)); clear ht hr13 hb13))
                  go_roundw
                  case rel => exact ⟨k + 1, z + 1, _, by omega, by go_num, (by have := hz.out; show z + 1 = _; omega), R13.out, B13.out⟩
                  case measure => have := hz.out; simp [intOf]; omega
                · obtain rfl : k = 254 := by omega
                  have hn2 : n = 256 := by omega
                  clear hn
                  subst hn2
                  clear hlt hk hz hz0 hz9
                  obtain ⟨LF, hLF⟩ : ∃ LF, fillL 254 = LF := ⟨_, rfl⟩
                  rw [hLF] at hR
                  have OPF : Hid (∀ W v, RelAt W base rb mi mo v LF → Calls Try.prog 22 #[.pointer (some ⟨rb, 0, none⟩), (mkC ⟨#[120]⟩ 1 ⟨#[121]⟩ 1).val] W (TurnPost W base rb mi mo v LF (.int .i64 3))) := fun W v h => by
                    rw [← hLF] at h ⊢
                    have := open_sum rb base mi mo v (fillL 254) W h (fillC 1) (mkC_fits _ _ _ _ (by decide) (by decide))
                    rw [full_open] at this
                    exact this
                  clear hLF
                  have NIN : Hid (∀ W, Calls Try.prog 15 #[.pointer none, .string ⟨#[97]⟩, .int .i64 1] W fun e w' => e = .returned (.tuple #[.agg #[.string ⟨#[]⟩, .int .i64 0, .string ⟨#[]⟩, .int .i64 0, .int .i64 0, .int .i64 0, .int .i64 0, .int .i64 0, .string ⟨#[]⟩, .string ⟨#[]⟩], .bool false]) ∧ Below W.heap.size W w') := fun W => in_nil _ _ W
                  have NOUT : Hid (∀ W, Calls Try.prog 18 #[.pointer none, .string ⟨#[97]⟩, .int .i64 1] W fun e w' => e = .returned (.tuple #[.agg #[.string ⟨#[]⟩, .int .i64 0, .string ⟨#[]⟩, .int .i64 0, .int .i64 0, .int .i64 0, .int .i64 0, .int .i64 0, .string ⟨#[]⟩, .string ⟨#[]⟩], .bool false]) ∧ Below W.heap.size W w') := fun W => out_nil _ _ W
                  have NCL : Hid (∀ W, Calls Try.prog 20 #[.pointer none, .string ⟨#[97]⟩, .int .i64 1] W fun e w' => e = .returned (.tuple #[.agg #[.string ⟨#[]⟩, .int .i64 0, .string ⟨#[]⟩, .int .i64 0, .int .i64 0, .int .i64 0, .int .i64 0, .int .i64 0, .string ⟨#[]⟩, .string ⟨#[]⟩], .int .i64 1]) ∧ Below W.heap.size W w') := fun W => close_nil _ _ W
                  have NOP : Hid (∀ W, Calls Try.prog 22 #[.pointer none, .agg #[.string ⟨#[97]⟩, .int .i64 1, .string ⟨#[98]⟩, .int .i64 7, .int .i64 5015, .int .i64 5000, .int .i64 0, .int .i64 0, .string ⟨#[72, 110, 57, 59]⟩, .string ⟨#[]⟩]] W fun e w' => e = .returned (.int .i64 1) ∧ Below W.heap.size W w') := fun W => open_nil exC W
                  go_upto_region 37 with (first
                    | (go_at_call 25; (with_reducible refine Calls.mono CNT.out ?_); rintro e wq ⟨rfl, rfl⟩)
                    | (go_at_call 27; (with_reducible refine Calls.mono (circuit_any ⟨#[120]⟩ 1 ⟨#[121]⟩ 1 _) ?_); rintro e w12 ⟨rfl, hb12⟩; have R12 := Lib.hid (hR.out.below hb12); have B12 := Lib.hid (hB.out.trans (hb12.mono hBs)); clear hb12)
                    | (go_at_call 22; (with_reducible refine Calls.mono (OPF.out _ _ R12.out) ?_); intro e w13 ht; obtain ⟨rfl, ⟨v13, hr13⟩, hb13, _⟩ := turn_below R12.out ht; have B13 := Lib.hid (B12.out.trans (hb13.mono hbase)); clear ht hr13 hb13)
                    | (go_at_call 15; (with_reducible refine Calls.mono (NIN.out _) ?_); rintro e w14 ⟨rfl, hb14⟩; have B14 := Lib.hid (B13.out.trans (hb14.mono B13.out.size)); clear hb14)
                    | (go_at_call 18; (with_reducible refine Calls.mono (NOUT.out _) ?_); rintro e w15 ⟨rfl, hb15⟩; have B15 := Lib.hid ((B14.out.alloc B14.out.size (.cells #[.string ⟨#[]⟩, .int .i64 0, .string ⟨#[]⟩, .int .i64 0, .int .i64 0, .int .i64 0, .int .i64 0, .int .i64 0, .string ⟨#[]⟩, .string ⟨#[]⟩] 44)).trans (hb15.mono (B14.out.alloc B14.out.size _).size)); clear hb15)
                    | (go_at_call 20; (with_reducible refine Calls.mono (NCL.out _) ?_); rintro e w16 ⟨rfl, hb16⟩; have B16 := Lib.hid ((B15.out.alloc B15.out.size (.cells #[.string ⟨#[]⟩, .int .i64 0, .string ⟨#[]⟩, .int .i64 0, .int .i64 0, .int .i64 0, .int .i64 0, .int .i64 0, .string ⟨#[]⟩, .string ⟨#[]⟩] 44)).trans (hb16.mono (B15.out.alloc B15.out.size _).size)); clear hb16))
                  have B17 := Lib.hid (B16.out.alloc B16.out.size (.cells #[.string ⟨#[]⟩, .int .i64 0, .string ⟨#[]⟩, .int .i64 0, .int .i64 0, .int .i64 0, .int .i64 0, .int .i64 0, .string ⟨#[]⟩, .string ⟨#[]⟩] 44))
                  generalize w16.alloc (.cells #[.string ⟨#[]⟩, .int .i64 0, .string ⟨#[]⟩, .int .i64 0, .int .i64 0, .int .i64 0, .int .i64 0, .int .i64 0, .string ⟨#[]⟩, .string ⟨#[]⟩] 44) = w17 at B17 ⊢
                  go_wp2_with (first
                    | (go_at_call 27; (with_reducible refine Calls.mono (circuit_ex _) ?_); rintro e w18 ⟨rfl, hb18⟩; have B18 := Lib.hid (B17.out.trans (hb18.mono B17.out.size)); clear hb18)
                    | (go_at_call 22; (with_reducible refine Calls.mono (NOP.out _) ?_); rintro e w19 ⟨rfl, hb19⟩; have B19 := Lib.hid (B18.out.trans (hb19.mono B18.out.size)); clear hb19)
                    | (go_at_call 24; (with_reducible refine Calls.mono (list_nil _) ?_); rintro e w20 ⟨rfl, hb20⟩; have B20 := Lib.hid (B19.out.trans (hb20.mono B19.out.size)); clear hb20)
                    | (go_at_call 25; (with_reducible refine Calls.mono (count_nil _) ?_); rintro e w21 ⟨rfl, hb21⟩; have B21 := Lib.hid (B20.out.trans (hb21.mono B20.out.size)); clear hb21)
                    | (go_at_call 11; (with_reducible refine Calls.mono (works_any _) ?_); rintro e w22 ⟨rfl, hb22⟩; have B22 := Lib.hid (B21.out.trans (hb22.mono B21.out.size)); clear hb22))
                  go_ret
                  exact ⟨rfl, B22.out⟩
end Go.Proofs.Ytjdbnaedlljfhaa
