/- RelayPairs, walked. -/
import Derived.Test.YtjdbnaedlljfhaaPairsB
namespace Go.Proofs.Ytjdbnaedlljfhaa
open Go.RowKit
set_option maxRecDepth 100000 in
set_option maxHeartbeats 4000000 in
theorem pairs_any (a : Option Addr) (cp : Nat) (ops : List Cal) (w : World) (hm : ops.length ≤ maxLen) (ho : OpsAt w a ops) : Calls Try.prog 7 #[.slice a ops.length cp] w fun e w' => e = .returned (.bool true) ∧ Below w.heap.size w w' := by
  have HLG := Lib.hid (large_any a cp ops w hm ho)
  have HO := Lib.hid ho
  clear ho
  unfold maxLen at hm
  go_enter Try.func7, Try.ntmps7
  go_wp2_with fail
  refine Calls.mono HLG.out ?_
  rintro e w1 ⟨b, rfl, hb1⟩
  have B1 := Lib.hid hb1
  clear hb1
  cases b with
  | true =>
    go_wp2_with (go_at_call 11; (with_reducible refine Calls.mono (works_any w1) ?_); rintro e w2 ⟨rfl, hb2⟩; have B2 := Lib.hid hb2; clear hb2)
    go_ret
    exact ⟨rfl, B1.out.trans (B2.out.mono B1.out.size)⟩
  | false =>
    go_wp2_with (go_at_call 14; (with_reducible refine Calls.mono (new_any w1) ?_); rintro e w2 ⟨rb, mi, mo, rfl, hr2, hb2⟩; have R2 := Lib.hid hr2; have B2 := Lib.hid (B1.out.trans (hb2.mono B1.out.size)); clear hr2 hb2)
    have hbase : w.heap.size ≤ w1.heap.size := B1.out.size
    obtain ⟨base, hbs⟩ : ∃ base, w1.heap.size = base := ⟨_, rfl⟩
    rw [hbs] at R2 hbase
    clear hbs
    go_loopw [4] (fun iv wr => ∃ (i : Nat) (v : Value) (L : List Circ), i ≤ ops.length ∧ iv = .int .i64 i ∧ Hid (RelAt wr base rb mi mo v L) ∧ Hid (AllOk L) ∧ Hid (Below w.heap.size w wr)) (fun iv _ => ops.length - (intOf iv).toNat)
    case atStart => exact ⟨0, _, [], Nat.zero_le _, rfl, R2.out, (fun c hc => (by cases hc)), B2.out⟩
    case round =>
      obtain ⟨i, v, L, hi, rfl, hR, hA, hB⟩ := hrel
      have hBs := hB.out.size
      by_cases hlt : i < ops.length
      · obtain ⟨o, hoo⟩ : ∃ o, ops[i]? = some o := ⟨_, List.getElem?_eq_getElem hlt⟩
        have hne : ops ≠ [] := by intro h; rw [h] at hlt; simp at hlt
        obtain ⟨b, off, rfl, hrec0⟩ := HO.out.resolve_left hne
        have hbl0 : b < w.heap.size := World.block_lt_of_cell? w _ (hrec0 i o hoo).1
        have hbl : b < base := by omega
        obtain ⟨hk, hc0, hk0, hk1, hfit, _, _⟩ := hrec0 i o hoo
        have hkw := cell_later hB.out hk
        have hcw := hc0.below hB.out
        obtain ⟨q0, q1, q2, q3, q4, q5, q6, q7, q8, q9⟩ := hcw
        have hii : (i : Int) < (ops.length : Int) := by omega
        obtain ⟨kd, c⟩ := o
        simp only at hk0 hk1 hfit hkw q0 q1 q2 q3 q4 q5 q6 q7 q8 q9
        have HF := Lib.hid hfit
        have OPN : Hid (∀ (W : World) (v : Value) (L : List Circ), RelAt W base rb mi mo v L → Calls Try.prog 22 #[.pointer (some ⟨rb, 0, none⟩), .agg #[.string c.ic, .int .i64 c.ii, .string c.oc, .int .i64 c.oi, .int .i64 c.ia, .int .i64 c.oa, .int .i64 c.ie, .int .i64 c.oe, .string c.hash, .string c.sh]] W (TurnPost W base rb mi mo v (openN L c).1 (.int .i64 (openN L c).2))) := fun W v L h => open_sum rb base mi mo v L W h c hfit
        clear hoo hrec0 hk hc0 hfit
        by_cases k3 : kd % 6 < 3
        · go_wp2_with (go_at_call 22; (with_reducible refine Calls.mono (OPN.out wr v L hR.out) ?_); intro e w3 ht; obtain ⟨rfl, ⟨v3, hr3⟩, hb3, _⟩ := turn_below hR.out ht; have R3 := Lib.hid hr3; have B3 := Lib.hid hb3; clear ht hr3 hb3)
          go_roundw
          case rel => exact ⟨i + 1, _, _, by omega, by go_num, R3.out, hA.out.open_ c HF.out, hB.out.trans (B3.out.mono hbase)⟩
          case measure => simp [intOf]; omega
        · by_cases k5 : kd % 6 = 5
          · have k5b : (kd % 6 == 5) = true := by simpa using k5
            go_wp2_with fail
            go_region_held3 (fun w' => w'.cell? ⟨b, off + i * 11 + 1 + 2, none⟩ = some (.string c.oc) ∧ w'.cell? ⟨b, off + i * 11 + 1 + 3, none⟩ = some (.int .i64 c.oi))
              (first | go_keep | (go_split_ands; refine ⟨?_, ?_⟩ <;> (refine cell_lo (by assumption) (by assumption) ?_; assumption)))
              ((go_at_call 20; (with_reducible refine Calls.mono (close_sum rb base mi mo v L _ (hR.out.below (Below.refl _ _).drew) c.oc c.oi) ?_); intro e w3 ht; obtain ⟨rfl, ⟨v3, hr3⟩, hb3, _⟩ := turn_below (hR.out.below (Below.refl _ _).drew) ht; have R3 := Lib.hid hr3; have B3 := Lib.hid hb3))
            go_wp2
            go_roundw
            case rel => exact ⟨i + 1, _, _, by omega, by go_num, R3.out, hA.out.close _ _, hB.out.trans (((Below.refl _ _).drew.trans B3.out).mono hbase)⟩
            case measure => simp [intOf]; omega
          · have k5b : (kd % 6 == 5) = false := by simpa using k5
            go_wp2_with fail
            go_roundw
            case rel => exact ⟨i + 1, _, _, by omega, by go_num, hR.out, hA.out, hB.out⟩
            case measure => simp [intOf]; omega
      · obtain rfl : i = ops.length := by omega
        have LST := Lib.hid (list_any rb base mi mo v L wr hR.out)
        have hfew := hR.out.few
        go_wp2_with (go_at_call 24; (with_reducible refine Calls.mono LST.out ?_); rintro e w5 ⟨lv, rfl, hlo, hb5⟩; obtain ⟨la, lc, rfl⟩ := own_slice hlo; have LA := Lib.hid (LAt.of hlo rfl); have R5 := Lib.hid (hR.out.below hb5); have B5 := Lib.hid (hB.out.trans (hb5.mono hBs)); clear hlo hb5)
        have AO := Lib.hid hA.out
        obtain ⟨n, hn⟩ : ∃ n, L.length = n := ⟨_, rfl⟩
        have HN := Lib.hid hn
        rw [hn] at hfew ⊢
        clear hn hR hA hB hBs LST
        go_loopw [6] (fun iv wr => ∃ i : Nat, i ≤ n ∧ iv = .int .i64 i ∧ Hid (Below w5.heap.size w5 wr)) (fun iv _ => n - (intOf iv).toNat)
        case atStart => exact ⟨0, Nat.zero_le _, rfl, Below.refl _ _⟩
        case round =>
          obtain ⟨i, hi, rfl, hB⟩ := hrel
          have hBs := hB.out.size
          by_cases hlt : i < n
          · obtain ⟨c, hc⟩ : ∃ c, L[i]? = some c := ⟨_, List.getElem?_eq_getElem (by have := HN.out; omega)⟩
            obtain ⟨g, hla, hca⟩ := (LA.out.below hB.out).row hc
            subst hla
            have CA := Lib.hid hca
            have hii : (i : Int) < (n : Int) := by omega
            have hRw := Lib.hid (R5.out.below hB.out)
            have INN : Hid (∀ W : World, RelAt W base rb mi mo v L → Calls Try.prog 15 #[.pointer (some ⟨rb, 0, none⟩), .string c.ic, .int .i64 c.ii] W fun e w' => e = .returned (.tuple #[.agg #[.string c.ic, .int .i64 c.ii, .string c.oc, .int .i64 c.oi, .int .i64 c.ia, .int .i64 c.oa, .int .i64 c.ie, .int .i64 c.oe, .string c.hash, .string c.sh], .bool true]) ∧ Below W.heap.size W w') := fun W h => by
              have := in_any rb base mi mo v L W h c.ic c.ii
              rw [find_in h.uni hc] at this
              exact this
            have OUT : Hid (∀ W : World, RelAt W base rb mi mo v L → Calls Try.prog 18 #[.pointer (some ⟨rb, 0, none⟩), .string c.oc, .int .i64 c.oi] W fun e w' => e = .returned (.tuple #[.agg #[.string c.ic, .int .i64 c.ii, .string c.oc, .int .i64 c.oi, .int .i64 c.ia, .int .i64 c.oa, .int .i64 c.ie, .int .i64 c.oe, .string c.hash, .string c.sh], .bool true]) ∧ Below W.heap.size W w') := fun W h => by
              have := out_any rb base mi mo v L W h c.oc c.oi
              rw [find_out h.uni hc] at this
              exact this
            have gl : g < wr.heap.size := World.block_lt_of_cell? wr _ hca.q0
            obtain ⟨q0, q1, q2, q3, q4, q5, q6, q7, q8, q9⟩ := hca
            clear q2 q3 q4 q5 q6 q7 q8 q9
            have HC := Lib.hid hc
            clear hc
            go_wp2_with fail
            go_cut [7, 8] from 65 to 131 (fun p q wx => ∃ k7, p = .pointer (some ⟨k7, 0, none⟩) ∧ q = .bool true ∧ Hid (Below wr.heap.size wr wx) ∧ Hid (wr.heap.size ≤ k7) ∧ Hid (wx.heap[k7]? = some (.cells c.cells.toArray 44 (0, 0))))
            case first =>
              have BW := Below.refl wr.heap.size wr
              go_region_held3 (fun w' => Below wr.heap.size wr w' ∧ w'.cell? ⟨g, i * 10, none⟩ = some (.string c.ic) ∧ w'.cell? ⟨g, i * 10 + 1, none⟩ = some (.int .i64 c.ii))
                ((go_split_ands; with_reducible exact keep2 (by (first | (with_reducible assumption) | (repeat' (first | (with_reducible exact Below.refl _ _) | (with_reducible assumption) | (with_reducible refine Below.alloc ?_ ?_ _) | (with_reducible refine Below.drew ?_) | (with_reducible refine Below.setCell ?_ ?_ _) | (with_reducible refine below_drewN ?_ _) | (refine Below.trans ?_ (Below.mono (by assumption) ?_)) | go_size)))) (by with_reducible assumption) (by with_reducible assumption)))
                ((go_at_call 15; go_split_ands; (with_reducible refine Calls.mono (INN.out _ (hRw.out.below (by with_reducible assumption))) ?_); rintro e w6 ⟨rfl, hb6⟩; have BX : Below wr.heap.size wr w6 := lt2 (by with_reducible assumption) hb6; have z6 := BX.size; obtain ⟨hcX, hfX⟩ := bcell hb6))
              all_goals go_wp2_with fail
              all_goals go_meet
              · exact ⟨w6.heap.size, rfl, rfl, BX.alloc z6 _, z6, heap_alloc_at w6 _⟩
              · exact ⟨wr.heap.size, rfl, rfl, set10_below (c := c) BX (Nat.le_refl _), Nat.le_refl _, set10 (c := c) ((hb6.block _ (by simp)).trans (heap_alloc_at wr _))⟩
            case rest =>
              obtain ⟨k7, rfl, rfl, hb7, hk7, h7⟩ := hcut
              obtain ⟨wm, rfl⟩ : ∃ wm : World, wm = wc := ⟨_, rfl⟩
              have hBm := Lib.hid (lt2 hB.out hb7.out)
              have hRm := Lib.hid (R5.out.below hBm.out)
              have hca2 := CA.out.below hb7.out
              have CM := Lib.hid hca2
              have gm : g < wm.heap.size := World.block_lt_of_cell? wm _ hca2.q0
              obtain ⟨q0, q1, q2, q3, q4, q5, q6, q7, q8, q9⟩ := hca2
              clear q0 q1 q4 q5 q6 q7 q8 q9 gl hRw CA
              go_wp2_with fail
              go_cut [9, 10] from 65 to 131 (fun p q wx => ∃ k9, p = .pointer (some ⟨k9, 0, none⟩) ∧ q = .bool true ∧ Hid (Below wm.heap.size wm wx) ∧ Hid (wm.heap.size ≤ k9) ∧ Hid (wx.heap[k9]? = some (.cells c.cells.toArray 44 (0, 0))))
              case first =>
                have BW := Below.refl wm.heap.size wm
                go_region_held3 (fun w' => Below wm.heap.size wm w' ∧ w'.cell? ⟨g, i * 10 + 2, none⟩ = some (.string c.oc) ∧ w'.cell? ⟨g, i * 10 + 3, none⟩ = some (.int .i64 c.oi))
                  ((go_split_ands; with_reducible exact keep2 (by (first | (with_reducible assumption) | (repeat' (first | (with_reducible exact Below.refl _ _) | (with_reducible assumption) | (with_reducible refine Below.alloc ?_ ?_ _) | (with_reducible refine Below.drew ?_) | (with_reducible refine Below.setCell ?_ ?_ _) | (with_reducible refine below_drewN ?_ _) | (refine Below.trans ?_ (Below.mono (by assumption) ?_)) | go_size)))) (by with_reducible assumption) (by with_reducible assumption)))
                  ((go_at_call 18; go_split_ands; (with_reducible refine Calls.mono (OUT.out _ (hRm.out.below (by with_reducible assumption))) ?_); rintro e w6 ⟨rfl, hb6⟩; have BX : Below wm.heap.size wm w6 := lt2 (by with_reducible assumption) hb6; have z6 := BX.size; obtain ⟨hcX, hfX⟩ := bcell hb6))
                all_goals go_wp2_with fail
                all_goals go_meet
                · exact ⟨w6.heap.size, rfl, rfl, BX.alloc z6 _, z6, heap_alloc_at w6 _⟩
                · exact ⟨wm.heap.size, rfl, rfl, set10_below (c := c) BX (Nat.le_refl _), Nat.le_refl _, set10 (c := c) ((hb6.block _ (by simp)).trans (heap_alloc_at wm _))⟩
              case rest =>
                obtain ⟨k9, rfl, rfl, hb9, hk9, h9⟩ := hcut
                have hBn := Lib.hid (lt2 hBm.out hb9.out)
                have hRn := Lib.hid (R5.out.below hBn.out)
                have hca3 := CM.out.below hb9.out
                have h7n : wc.heap[k7]? = some (.cells c.cells.toArray 44 (0, 0)) := (hb9.out.block _ (lt_of_heap h7.out)).trans h7.out
                obtain ⟨g0, g1, g2, g3, g4, g5, g6, g7, g8, g9⟩ := ten_cells _ _ _ _ _ _ _ _ _ _ h7n
                obtain ⟨k0, k1, k2, k3, k4, k5, k6, k7', k8, k9'⟩ := ten_cells _ _ _ _ _ _ _ _ _ _ h9.out
                obtain ⟨q0, q1, q2, q3, q4, q5, q6, q7, q8, q9⟩ := hca3
                replace g0 := Later.cell g0; replace g1 := Later.cell g1; replace g2 := Later.cell g2; replace g3 := Later.cell g3; replace g4 := Later.cell g4; replace g5 := Later.cell g5; replace g6 := Later.cell g6; replace g7 := Later.cell g7; replace g8 := Later.cell g8; replace g9 := Later.cell g9
                replace k0 := Later.cell k0; replace k1 := Later.cell k1; replace k2 := Later.cell k2; replace k3 := Later.cell k3; replace k4 := Later.cell k4; replace k5 := Later.cell k5; replace k6 := Later.cell k6; replace k7' := Later.cell k7'; replace k8 := Later.cell k8; replace k9' := Later.cell k9'
                replace q0 := Later.cell q0; replace q1 := Later.cell q1; replace q2 := Later.cell q2; replace q3 := Later.cell q3; replace q4 := Later.cell q4; replace q5 := Later.cell q5; replace q6 := Later.cell q6; replace q7 := Later.cell q7; replace q8 := Later.cell q8; replace q9 := Later.cell q9
                have hneq := fun W => run_neq_circ W c
                have OPT : Hid (∀ W : World, RelAt W base rb mi mo v L → Calls Try.prog 22 #[.pointer (some ⟨rb, 0, none⟩), .agg #[.string c.ic, .int .i64 c.ii, .string c.oc, .int .i64 c.oi, .int .i64 c.ia, .int .i64 c.oa, .int .i64 c.ie, .int .i64 c.oe, .string c.hash, .string c.sh]] W fun e w' => e = .returned (.int .i64 6) ∧ Below W.heap.size W w') := fun W h => by
                  have hcm := AO.out c (List.mem_of_getElem? HC.out)
                  exact open_ss rb base mi mo v L W h c hcm.1 hcm.2.1 hcm.2.2 _ _ (find_in h.uni HC.out) (find_out h.uni HC.out)
                clear h7n
                go_wp2_with fail
                refine wp_region_later (by kernel_rfl) (by kernel_rfl) ?_
                repeat (go_big_quiet_step ((go_at_call 22; exact calls_later (OPT.out _ (Later.rel hRn.out _)))))
                refine wpQuiet_nil ?_
                intro _ hw'
                obtain ⟨nq, rfl⟩ := hw'
                go_wp2
                go_roundw
                case rel => exact ⟨i + 1, by omega, by go_num, lt2 hBn.out nq.below⟩
                case measure => simp [intOf]; omega
          · obtain rfl : i = n := by omega
            have RW : Hid (RelAt wr base rb mi mo v (L.drop 0 ++ L.take 0)) := by show RelAt _ _ _ _ _ _ _; rw [List.drop_zero, List.take_zero, List.append_nil]; exact R5.out.below hB.out
            have LW := Lib.hid (LA.out.below hB.out)
            have BWW := Lib.hid (B5.out.trans (hB.out.mono B5.out.size))
            clear hB hBs R5 LA B5
            go_wp2_with fail
            go_loopw [11] (fun iv wr => ∃ (j : Nat) (v : Value), j ≤ i ∧ iv = .int .i64 j ∧ Hid (RelAt wr base rb mi mo v (L.drop j ++ L.take j)) ∧ Hid (LAt wr la L) ∧ Hid (Below w.heap.size w wr)) (fun iv _ => i - (intOf iv).toNat)
            case atStart => exact ⟨0, v, Nat.zero_le _, rfl, RW.out, LW.out, BWW.out⟩
            case round =>
              obtain ⟨j, v, hj, rfl, hR, hL, hB⟩ := hrel
              by_cases hlt : j < i
              · obtain ⟨c, hc⟩ : ∃ c, L[j]? = some c := ⟨_, List.getElem?_eq_getElem (by have := HN.out; omega)⟩
                have hne : L ≠ [] := by intro h; rw [h] at hc; simp at hc
                obtain ⟨g, cur, hla, hgc, _⟩ := hL.out.resolve_left hne
                obtain ⟨g', hla', hca⟩ := hL.out.row hc
                rw [hla] at hla'; cases hla'; subst hla
                obtain ⟨e0, e1, e2⟩ := rot_erase hc
                have hjj : (j : Int) < (i : Int) := by omega
                have hbw : base ≤ wr.heap.size := Nat.le_trans hR.out.h1 (Nat.le_of_lt (lt_of_heap hR.out.rbk))
                have CLS : Hid (∀ (W : World) (v : Value), RelAt W base rb mi mo v (L.drop j ++ L.take j) → Calls Try.prog 20 #[.pointer (some ⟨rb, 0, none⟩), .string c.oc, .int .i64 c.oi] W (TurnPost W base rb mi mo v (L.drop (j + 1) ++ L.take j) (.tuple #[.agg #[.string c.ic, .int .i64 c.ii, .string c.oc, .int .i64 c.oi, .int .i64 c.ia, .int .i64 c.oa, .int .i64 c.ie, .int .i64 c.oe, .string c.hash, .string c.sh], .int .i64 0]))) := fun W v h => by
                  have := close_sum rb base mi mo v _ W h c.oc c.oi
                  unfold closeN at this
                  rw [find_out h.uni e1] at this
                  simp only at this
                  rw [e0] at this
                  exact this
                have NON := Lib.hid (rest_none hR.out.uni e1)
                rw [e0] at NON
                have HGC := Lib.hid hgc
                have CA := Lib.hid hca
                have HC := Lib.hid hc
                have E2 := Lib.hid e2
                obtain ⟨q0, q1, q2, q3, q4, q5, q6, q7, q8, q9⟩ := hca
                clear hc e0 e1 e2 q0 q1 q4 q5 q6 q7 q8 q9
                go_wp2_with fail
                go_cut [12, 13] from 132 to 186 (fun p q wx => ∃ k v', p = .pointer (some ⟨k, 0, none⟩) ∧ q = .int .i64 0 ∧ Hid (RelAt wx base rb mi mo v' (L.drop (j + 1) ++ L.take j)) ∧ Hid (K44 base wr wx) ∧ Hid (wr.heap.size ≤ k) ∧ Hid (wx.heap[k]? = some (.cells c.cells.toArray 44 (0, 0))))
                case first =>
                  have K0 := K44.refl base wr
                  go_region_held3 (fun w' => K44 base wr w' ∧ w'.cell? ⟨g, j * 10 + 2, none⟩ = some (.string c.oc) ∧ w'.cell? ⟨g, j * 10 + 3, none⟩ = some (.int .i64 c.oi))
                    ((go_split_ands; with_reducible exact keepK2 (by (first | (with_reducible assumption) | (repeat' (first | (with_reducible exact K44.refl _ _) | (with_reducible assumption) | (with_reducible refine K44.alloc ?_ ?_ _) | (with_reducible refine K44.drew ?_) | (with_reducible refine K44.setCell ?_ ?_ ?_ _) | go_size)))) (by with_reducible assumption) CA.out))
                    ((go_at_call 20; go_split_ands; (with_reducible refine Calls.mono (CLS.out _ _ (hR.out.below (by (first | (with_reducible assumption) | (repeat' (first | (with_reducible exact Below.refl _ _) | (with_reducible assumption) | (with_reducible refine Below.alloc ?_ ?_ _) | (with_reducible refine Below.drew ?_) | (with_reducible refine Below.setCell ?_ ?_ _) | (with_reducible refine below_drewN ?_ _) | (refine Below.trans ?_ (Below.mono (by assumption) ?_)) | go_size)))))) ?_); intro e w6 ht; obtain ⟨rfl, ⟨v6, hr6⟩, hk6⟩ := K44.turn (hR.out.below (by (first | (with_reducible assumption) | (repeat' (first | (with_reducible exact Below.refl _ _) | (with_reducible assumption) | (with_reducible refine Below.alloc ?_ ?_ _) | (with_reducible refine Below.drew ?_) | (with_reducible refine Below.setCell ?_ ?_ _) | (with_reducible refine below_drewN ?_ _) | (refine Below.trans ?_ (Below.mono (by assumption) ?_)) | go_size))))) ht; have KX : K44 base wr w6 := K44.trans (by with_reducible assumption) hk6; have z6 := KX.size; have R6 := Lib.hid hr6; first | (have hx := hk6.rows wr.heap.size _ (by with_reducible exact alloc_drew_at wr _); have HX := Lib.hid hx; obtain ⟨⟨x0, x1, x2, x3, x4, x5, x6, x7, x8, x9⟩, xf⟩ := new_cells hx) | skip))
                  all_goals go_wp2_with fail
                  all_goals go_meet
                  · exact ⟨w6.heap.size, v6, rfl, rfl, R6.out.below (below_new' _ _), K44.alloc hbw KX _, z6, heap_alloc_at w6 _⟩
                  · exact ⟨wr.heap.size, v6, rfl, rfl, set10_rel (c := c) R6.out HX.out, set10_K44 (c := c) hbw KX (Nat.le_refl _), Nat.le_refl _, set10 (c := c) HX.out⟩
                case rest =>
                  obtain ⟨k12, v6, rfl, rfl, R6, KM, hk12, h12⟩ := hcut
                  obtain ⟨wm, rfl⟩ : ∃ wm : World, wm = wc := ⟨_, rfl⟩
                  have CM := Lib.hid (KM.out.circ HGC.out CA.out)
                  have HGM := Lib.hid (KM.out.rows g cur HGC.out)
                  have INN : Hid (∀ W : World, RelAt W base rb mi mo v6 (L.drop (j + 1) ++ L.take j) → Calls Try.prog 15 #[.pointer (some ⟨rb, 0, none⟩), .string c.ic, .int .i64 c.ii] W fun e w' => e = .returned (.tuple #[.agg #[.string ⟨#[]⟩, .int .i64 0, .string ⟨#[]⟩, .int .i64 0, .int .i64 0, .int .i64 0, .int .i64 0, .int .i64 0, .string ⟨#[]⟩, .string ⟨#[]⟩], .bool false]) ∧ Below W.heap.size W w') := fun W h => by
                    have := in_any rb base mi mo v6 _ W h c.ic c.ii
                    rw [NON.out.1] at this
                    exact this
                  have hcm := CM.out
                  obtain ⟨q0, q1, q2, q3, q4, q5, q6, q7, q8, q9⟩ := hcm
                  clear q2 q3 q4 q5 q6 q7 q8 q9
                  go_wp2_with fail
                  go_cut [14, 15] from 132 to 186 (fun p q wx => q = .bool false ∧ Hid (Below wm.heap.size wm wx))
                  case first =>
                    have BW := Below.refl wm.heap.size wm
                    go_region_held3 (fun w' => Below wm.heap.size wm w' ∧ w'.cell? ⟨g, j * 10, none⟩ = some (.string c.ic) ∧ w'.cell? ⟨g, j * 10 + 1, none⟩ = some (.int .i64 c.ii))
                      ((go_split_ands; with_reducible exact keep2 (by (first | (with_reducible assumption) | (repeat' (first | (with_reducible exact Below.refl _ _) | (with_reducible assumption) | (with_reducible refine Below.alloc ?_ ?_ _) | (with_reducible refine Below.drew ?_) | (with_reducible refine Below.setCell ?_ ?_ _) | (with_reducible refine below_drewN ?_ _) | (refine Below.trans ?_ (Below.mono (by assumption) ?_)) | go_size)))) (by with_reducible assumption) (by with_reducible assumption)))
                      ((go_at_call 15; go_split_ands; (with_reducible refine Calls.mono (INN.out _ (R6.out.below (by with_reducible assumption))) ?_); rintro e w7 ⟨rfl, hb7⟩; have BX : Below wm.heap.size wm w7 := lt2 (by with_reducible assumption) hb7; have z7 := BX.size; obtain ⟨hcX, hfX⟩ := bcell hb7))
                    all_goals go_wp2_with fail
                    all_goals go_meet
                    · exact ⟨rfl, BX.alloc z7 _⟩
                    · exact ⟨rfl, set10_below (c := Circ.zero) BX (Nat.le_refl _)⟩
                  case rest =>
                    obtain ⟨rfl, hbn⟩ := hcut
                    obtain ⟨wn, rfl⟩ : ∃ wn : World, wn = wc := ⟨_, rfl⟩
                    have RN := Lib.hid (R6.out.below hbn.out)
                    have CN := Lib.hid (CM.out.below hbn.out)
                    have HGN : Hid (wn.heap[g]? = some (.cells cur 44 (0, 0))) := (hbn.out.block _ (lt_of_heap HGM.out)).trans HGM.out
                    have H12 : Hid (wn.heap[k12]? = some (.cells c.cells.toArray 44 (0, 0))) := (hbn.out.block _ (lt_of_heap h12.out)).trans h12.out
                    have KN : Hid (K44 base wr wn) := KM.out.trans (K44.of (Nat.le_trans hbw KM.out.size) hbn.out)
                    have hbn0 : base ≤ wn.heap.size := Nat.le_trans hbw KN.out.size
                    have OPN : Hid (∀ (W : World), RelAt W base rb mi mo v6 (L.drop (j + 1) ++ L.take j) → Calls Try.prog 22 #[.pointer (some ⟨rb, 0, none⟩), .agg #[.string c.ic, .int .i64 c.ii, .string c.oc, .int .i64 c.oi, .int .i64 c.ia, .int .i64 c.oa, .int .i64 c.ie, .int .i64 c.oe, .string c.hash, .string c.sh]] W (TurnPost W base rb mi mo v6 (L.drop (j + 1) ++ L.take (j + 1)) (.int .i64 0))) := fun W h => by
                      have hcm := AO.out c (List.mem_of_getElem? HC.out)
                      have := open_sum rb base mi mo v6 _ W h c hcm.1
                      unfold openN at this
                      have hlen : ¬ 256 ≤ (L.drop (j + 1) ++ L.take j).length := by
                        have h1 := HN.out
                        rw [List.length_append, List.length_drop, List.length_take]
                        omega
                      simp only [hcm.2.1, hcm.2.2, NON.out.1, NON.out.2, Option.isSome_none, Bool.and_self, Bool.or_self, if_true, Bool.false_eq_true, if_false, hlen] at this
                      rw [E2.out] at this
                      exact this
                    have hneq := fun W => run_neq_circ W c
                    have hcn := keepK20 (K44.refl base wn) H12.out HGN.out CN.out
                    obtain ⟨K0, a0, a1, a2, a3, a4, a5, a6, a7, a8, a9, b0, b1, b2, b3, b4, b5, b6, b7, b8, b9⟩ := hcn
                    clear q0 q1
                    go_wp2_with fail
                    go_region_held3 (fun w' => K44 base wn w' ∧ w'.cell? ⟨k12, 0, none⟩ = some (.string c.ic) ∧ w'.cell? ⟨k12, 1, none⟩ = some (.int .i64 c.ii) ∧ w'.cell? ⟨k12, 2, none⟩ = some (.string c.oc) ∧ w'.cell? ⟨k12, 3, none⟩ = some (.int .i64 c.oi) ∧ w'.cell? ⟨k12, 4, none⟩ = some (.int .i64 c.ia) ∧ w'.cell? ⟨k12, 5, none⟩ = some (.int .i64 c.oa) ∧ w'.cell? ⟨k12, 6, none⟩ = some (.int .i64 c.ie) ∧ w'.cell? ⟨k12, 7, none⟩ = some (.int .i64 c.oe) ∧ w'.cell? ⟨k12, 8, none⟩ = some (.string c.hash) ∧ w'.cell? ⟨k12, 9, none⟩ = some (.string c.sh) ∧ w'.cell? ⟨g, j * 10, none⟩ = some (.string c.ic) ∧ w'.cell? ⟨g, j * 10 + 1, none⟩ = some (.int .i64 c.ii) ∧ w'.cell? ⟨g, j * 10 + 2, none⟩ = some (.string c.oc) ∧ w'.cell? ⟨g, j * 10 + 3, none⟩ = some (.int .i64 c.oi) ∧ w'.cell? ⟨g, j * 10 + 4, none⟩ = some (.int .i64 c.ia) ∧ w'.cell? ⟨g, j * 10 + 5, none⟩ = some (.int .i64 c.oa) ∧ w'.cell? ⟨g, j * 10 + 6, none⟩ = some (.int .i64 c.ie) ∧ w'.cell? ⟨g, j * 10 + 7, none⟩ = some (.int .i64 c.oe) ∧ w'.cell? ⟨g, j * 10 + 8, none⟩ = some (.string c.hash) ∧ w'.cell? ⟨g, j * 10 + 9, none⟩ = some (.string c.sh))
                      ((go_split_ands; with_reducible exact keepK20 (by (first | (with_reducible assumption) | (repeat' (first | (with_reducible exact K44.refl _ _) | (with_reducible assumption) | (with_reducible refine K44.alloc ?_ ?_ _) | (with_reducible refine K44.drew ?_) | (with_reducible refine K44.setCell ?_ ?_ ?_ _) | go_size)))) H12.out HGN.out CN.out))
                      ((go_at_call 22; go_split_ands; (with_reducible refine Calls.mono (OPN.out _ (RN.out.below (by (first | (with_reducible assumption) | (repeat' (first | (with_reducible exact Below.refl _ _) | (with_reducible assumption) | (with_reducible refine Below.alloc ?_ ?_ _) | (with_reducible refine Below.drew ?_) | (with_reducible refine Below.setCell ?_ ?_ _) | (with_reducible refine below_drewN ?_ _) | (refine Below.trans ?_ (Below.mono (by assumption) ?_)) | go_size)))))) ?_); intro e w8 ht; obtain ⟨rfl, ⟨v8, hr8⟩, hk8⟩ := K44.turn (RN.out.below (by (first | (with_reducible assumption) | (repeat' (first | (with_reducible exact Below.refl _ _) | (with_reducible assumption) | (with_reducible refine Below.alloc ?_ ?_ _) | (with_reducible refine Below.drew ?_) | (with_reducible refine Below.setCell ?_ ?_ _) | (with_reducible refine below_drewN ?_ _) | (refine Below.trans ?_ (Below.mono (by assumption) ?_)) | go_size))))) ht; have KX : K44 base wn w8 := K44.trans (by with_reducible assumption) hk8; have R8 := Lib.hid hr8))
                    all_goals go_wp2
                    all_goals go_roundw
                    all_goals first
                      | (case rel => exact ⟨j + 1, v8, by omega, by go_num, R8.out, (KN.out.trans KX).lat hL.out, hB.out.trans ((KN.out.trans KX).low.mono hbase)⟩)
                      | (simp [intOf]; omega)
              · obtain rfl : j = i := by omega
                have hcnt : (L.drop j ++ L.take j).length = j := by have := HN.out; rw [List.length_append, List.length_drop, List.length_take]; omega
                have CNT : Hid (Calls Try.prog 25 #[.pointer (some ⟨rb, 0, none⟩)] wr fun e w' => e = .returned (.int .i64 (j : Int)) ∧ wr = w') := by
                  have := count_any rb base mi mo v _ wr hR.out
                  rw [hcnt] at this
                  exact this
                have hjj : ¬ (j : Int) < (j : Int) := by omega
                clear hcnt
                go_wp2_with (first
                  | (go_at_call 25; (with_reducible refine Calls.mono CNT.out ?_); rintro e w9 ⟨rfl, rfl⟩)
                  | (go_at_call 11; (with_reducible refine Calls.mono (works_any wr) ?_); rintro e w9 ⟨rfl, hb9⟩; have B9 := Lib.hid hb9; clear hb9))
                go_ret
                exact ⟨rfl, hB.out.trans (B9.out.mono hB.out.size)⟩
end Go.Proofs.Ytjdbnaedlljfhaa
