/- RelayPlays, walked. -/
import Derived.Test.YtjdbnaedlljfhaaDocH
import Derived.Deep.CutBlock
namespace Go.Proofs.Ytjdbnaedlljfhaa
open Go.RowKit
set_option maxRecDepth 100000 in
set_option maxHeartbeats 4000000 in
theorem plays_any (a : Option Addr) (cp : Nat) (ops : List Cal) (w : World) (hm : ops.length ≤ maxLen) (ho : OpsAt w a ops) : Calls Try.prog 6 #[.slice a ops.length cp] w fun e w' => e = .returned (.bool true) ∧ Below w.heap.size w w' := by
  have HLG := Lib.hid (large_any a cp ops w hm ho)
  have HO := Lib.hid ho
  clear ho
  unfold maxLen at hm
  go_enter Try.func6, Try.ntmps6
  go_wp2_with fail
  refine Calls.mono HLG.out ?_
  rintro e w1 ⟨b, rfl, hb1⟩
  have B1 := Lib.hid hb1
  clear hb1
  cases b with
  | true =>
    go_wp2_with (go_at_call 11; (with_reducible refine Calls.mono (works_any w1) ?_); rintro e w2 ⟨rfl, hb2⟩; have B2 := Lib.hid hb2; clear hb2)
    go_ret
    exact ⟨rfl, B1.out.trans (B2.out.mono B1.out.size)⟩
  | false =>
    have hbase : w.heap.size ≤ w1.heap.size := B1.out.size
    go_upto_region 6 with (go_at_call 14; (with_reducible refine Calls.mono (new_any w1) ?_); rintro e w2 ⟨rb, mi, mo, rfl, hr2, hb2⟩; have R2 := Lib.hid hr2; have B2 := Lib.hid (B1.out.trans (hb2.mono B1.out.size)); clear hr2 hb2)
    obtain ⟨base, hbs⟩ : ∃ base, w1.heap.size = base := ⟨_, rfl⟩
    rw [hbs] at R2 hbase
    have T3 : Hid (Two (w2.alloc (.cells #[.slice none 0 0] 42)) base rb mi mo w2.heap.size (.slice none 0 0) (.slice none 0 0) [] []) :=
      ⟨R2.out.below (below_new' w2 _), heap_alloc_at w2 _, World.ownsRow_nil _ _ _ _, by have := lt_of_heap R2.out.rbk; have := R2.out.h1; omega⟩
    have B3 := Lib.hid (B2.out.alloc B2.out.size (.cells #[.slice none 0 0] 42))
    generalize w2.alloc (.cells #[.slice none 0 0] 42) = w3 at T3 B3 ⊢
    generalize w2.heap.size = mb at T3 ⊢
    clear hbs R2 B2
    go_wp2_with fail
    go_loopw [5] (fun iv wr => ∃ (i : Nat) (v u : Value) (L : List Circ), i ≤ ops.length ∧ iv = .int .i64 i ∧ Hid (Two wr base rb mi mo mb v u L L) ∧ Hid (Below w.heap.size w wr)) (fun iv _ => ops.length - (intOf iv).toNat)
    case atStart => exact ⟨0, _, _, [], Nat.zero_le _, rfl, T3.out, B3.out⟩
    case round =>
      obtain ⟨i, v, u, L, hi, rfl, hT, hB⟩ := hrel
      have hBs := hB.out.size
      by_cases hlt : i < ops.length
      · obtain ⟨o, hoo⟩ : ∃ o, ops[i]? = some o := ⟨_, List.getElem?_eq_getElem hlt⟩
        have hne : ops ≠ [] := by intro h; rw [h] at hlt; simp at hlt
        obtain ⟨b, off, rfl, hrec0⟩ := HO.out.resolve_left hne
        have hbl : b < w.heap.size := World.block_lt_of_cell? w _ (hrec0 i o hoo).1
        obtain ⟨hk, hc0, hk0, hk1, hfit, _, _⟩ := hrec0 i o hoo
        have hkw := cell_later hB.out hk
        have hblr : b < wr.heap.size := Nat.lt_of_lt_of_le hbl hBs
        have hcw := hc0.below hB.out
        obtain ⟨q0, q1, q2, q3, q4, q5, q6, q7, q8, q9⟩ := hcw
        have hii : (i : Int) < (ops.length : Int) := by omega
        obtain ⟨kd, c⟩ := o
        simp only at hk0 hk1 hfit hkw q0 q1 q2 q3 q4 q5 q6 q7 q8 q9
        have HF := Lib.hid hfit
        clear hoo hrec0 hk hc0 hfit
        go_upto_block 2 with fail
        have T6 := Lib.hid (hT.out.below (below_new' wr (.cells c.cells.toArray 44)))
        have B6 := Lib.hid (hB.out.alloc hBs (.cells c.cells.toArray 44))
        have H6 := Lib.hid (heap_alloc_at wr (.cells c.cells.toArray 44))
        have hgen : wr.alloc (.cells #[.string c.ic, .int .i64 c.ii, .string c.oc, .int .i64 c.oi, .int .i64 c.ia, .int .i64 c.oa, .int .i64 c.ie, .int .i64 c.oe, .string c.hash, .string c.sh] 44) = wr.alloc (.cells c.cells.toArray 44) := rfl
        rw [hgen]
        generalize wr.alloc (.cells c.cells.toArray 44) = wb at T6 B6 H6 ⊢
        clear hgen q0 q1 q2 q3 q4 q5 q6 q7 q8 q9 hkw
        generalize wr.heap.size = k6 at H6 ⊢
        clear hT hB hBs
        have hbb : base ≤ wb.heap.size := Nat.le_trans T6.out.doc.h1 (Nat.le_of_lt (lt_of_heap T6.out.doc.mbk))
        have hk6 : k6 < wb.heap.size := lt_of_heap H6.out
        obtain ⟨q0, q1, q2, q3, q4, q5, q6, q7, q8, q9⟩ := ten_cells _ _ _ _ _ _ _ _ _ _ H6.out
        go_cut [2] from 29 to 180 (fun _ wx => ∃ v' u' M, Hid (Two wx base rb mi mo mb v' u' M M) ∧ Hid (Below w.heap.size w wx))
        case first =>
          by_cases k3 : kd % 6 = 3
          · have kb : (kd % 6 == 3) = true := by simpa using k3
            obtain ⟨d, bf, hTell⟩ := tell_parts (findC (Circ.inIs c.ic c.ii) L 0)
            have INN : Hid (∀ W : World, Two W base rb mi mo mb v u L L → Calls Try.prog 15 #[.pointer (some ⟨rb, 0, none⟩), .string c.ic, .int .i64 c.ii] W fun e w' => e = .returned (.tuple #[.agg #[.string d.ic, .int .i64 d.ii, .string d.oc, .int .i64 d.oi, .int .i64 d.ia, .int .i64 d.oa, .int .i64 d.ie, .int .i64 d.oe, .string d.hash, .string d.sh], .bool bf]) ∧ Below W.heap.size W w') := fun W h => (in_any rb base mi mo v L W h.rel c.ic c.ii).mono fun e w' ht => hTell W e w' ht
            have DIN : Hid (∀ W : World, Two W base rb mi mo mb v u L L → Calls Try.prog 16 #[.pointer (some ⟨mb, 0, none⟩), .string c.ic, .int .i64 c.ii] W fun e w' => e = .returned (.tuple #[.agg #[.string d.ic, .int .i64 d.ii, .string d.oc, .int .i64 d.oi, .int .i64 d.ia, .int .i64 d.oa, .int .i64 d.ie, .int .i64 d.oe, .string d.hash, .string d.sh], .bool bf]) ∧ Below W.heap.size W w') := fun W h => (docin_any mb base u L W h.doc h.rel.few c.ic c.ii).mono fun e w' ht => hTell W e w' ht
            clear hTell
            have hbf : (bf != bf) = false := by cases bf <;> rfl
            go_upto_region 16 with (first
              | (go_at_call 15; (with_reducible refine Calls.mono (INN.out _ T6.out) ?_); rintro e w7 ⟨rfl, hb7⟩; obtain ⟨hc7, hf7⟩ := bcell hb7; have B7 := Lib.hid hb7; have z7 := hb7.size; have hk67 : k6 < w7.heap.size := (by omega); clear hb7)
              | (go_at_call 16; (with_reducible refine Calls.mono (DIN.out _ (T6.out.below (B7.out.alloc z7 _))) ?_); rintro e w9 ⟨rfl, hb9⟩; obtain ⟨hc9, hf9⟩ := bcell hb9; have B9 := Lib.hid (B7.out.trans (((below_new' w7 (.cells #[.string d.ic, .int .i64 d.ii, .string d.oc, .int .i64 d.oi, .int .i64 d.ia, .int .i64 d.oa, .int .i64 d.ie, .int .i64 d.oe, .string d.hash, .string d.sh] 44)).trans (hb9.mono (by simp))).mono z7)); have K9 : Hid (w9.heap[w7.heap.size]? = some (.cells d.cells.toArray 44 (0, 0))) := (hb9.block _ (by simp)).trans (heap_alloc_at w7 _); clear hb9))
            have z9 := B9.out.size
            have BZ := Lib.hid (B9.out.alloc z9 (.cells #[.string d.ic, .int .i64 d.ii, .string d.oc, .int .i64 d.oi, .int .i64 d.ia, .int .i64 d.oa, .int .i64 d.ie, .int .i64 d.oe, .string d.hash, .string d.sh] 49))
            have KZ : Hid ((w9.alloc (.cells #[.string d.ic, .int .i64 d.ii, .string d.oc, .int .i64 d.oi, .int .i64 d.ia, .int .i64 d.oa, .int .i64 d.ie, .int .i64 d.oe, .string d.hash, .string d.sh] 49)).heap[w7.heap.size]? = some (.cells d.cells.toArray 44 (0, 0))) := (alloc_heap _ (lt_of_heap K9.out)).trans K9.out
            have KY : Hid ((w9.alloc (.cells #[.string d.ic, .int .i64 d.ii, .string d.oc, .int .i64 d.oi, .int .i64 d.ia, .int .i64 d.oa, .int .i64 d.ie, .int .i64 d.oe, .string d.hash, .string d.sh] 49)).heap[w9.heap.size]? = some (.cells d.cells.toArray 49 (0, 0))) := heap_alloc_at w9 _
            clear hc7 hf7 hc9 hf9 q0 q1 q2 q3 q4 q5 q6 q7 q8 q9
            generalize w9.alloc (.cells #[.string d.ic, .int .i64 d.ii, .string d.oc, .int .i64 d.oi, .int .i64 d.ia, .int .i64 d.oa, .int .i64 d.ie, .int .i64 d.oe, .string d.hash, .string d.sh] 49) = wz at BZ KZ KY ⊢
            generalize w9.heap.size = k9 at KY ⊢
            generalize w7.heap.size = k7 at KZ ⊢
            obtain ⟨g0, g1, g2, g3, g4, g5, g6, g7, g8, g9⟩ := ten_cells _ _ _ _ _ _ _ _ _ _ KZ.out
            obtain ⟨p0, p1, p2, p3, p4, p5, p6, p7, p8, p9⟩ := ten_t KY.out
            
            replace g0 := Later.cell g0; replace g1 := Later.cell g1; replace g2 := Later.cell g2; replace g3 := Later.cell g3; replace g4 := Later.cell g4; replace g5 := Later.cell g5; replace g6 := Later.cell g6; replace g7 := Later.cell g7; replace g8 := Later.cell g8; replace g9 := Later.cell g9
            replace p0 := Later.cell p0; replace p1 := Later.cell p1; replace p2 := Later.cell p2; replace p3 := Later.cell p3; replace p4 := Later.cell p4; replace p5 := Later.cell p5; replace p6 := Later.cell p6; replace p7 := Later.cell p7; replace p8 := Later.cell p8; replace p9 := Later.cell p9
            have hneq := fun W => run_neq_circ49 W d
            go_wp2_with fail
            refine wp_region_later (by kernel_rfl) (by kernel_rfl) ?_
            repeat (go_big_quiet_step ((go_at_call 17; exact calls_later (refs_any d _))))
            refine wpQuiet_nil ?_
            intro _ hw'
            obtain ⟨nq, rfl⟩ := hw'
            go_wp2
            go_meet
            exact ⟨v, u, L, T6.out.below (BZ.out.trans (nq.below.mono BZ.out.size)), B6.out.trans ((BZ.out.trans (nq.below.mono BZ.out.size)).mono B6.out.size)⟩
          · have kb3 : (kd % 6 == 3) = false := by simpa using k3
            by_cases k4 : kd % 6 = 4
            · have kb : (kd % 6 == 4) = true := by simpa using k4
              obtain ⟨d, bf, hTell⟩ := tell_parts (findC (Circ.outIs c.oc c.oi) L 0)
              have INN : Hid (∀ W : World, Two W base rb mi mo mb v u L L → Calls Try.prog 18 #[.pointer (some ⟨rb, 0, none⟩), .string c.oc, .int .i64 c.oi] W fun e w' => e = .returned (.tuple #[.agg #[.string d.ic, .int .i64 d.ii, .string d.oc, .int .i64 d.oi, .int .i64 d.ia, .int .i64 d.oa, .int .i64 d.ie, .int .i64 d.oe, .string d.hash, .string d.sh], .bool bf]) ∧ Below W.heap.size W w') := fun W h => (out_any rb base mi mo v L W h.rel c.oc c.oi).mono fun e w' ht => hTell W e w' ht
              have DIN : Hid (∀ W : World, Two W base rb mi mo mb v u L L → Calls Try.prog 19 #[.pointer (some ⟨mb, 0, none⟩), .string c.oc, .int .i64 c.oi] W fun e w' => e = .returned (.tuple #[.agg #[.string d.ic, .int .i64 d.ii, .string d.oc, .int .i64 d.oi, .int .i64 d.ia, .int .i64 d.oa, .int .i64 d.ie, .int .i64 d.oe, .string d.hash, .string d.sh], .bool bf]) ∧ Below W.heap.size W w') := fun W h => (docout_any mb base u L W h.doc h.rel.few c.oc c.oi).mono fun e w' ht => hTell W e w' ht
              clear hTell
              have hbf : (bf != bf) = false := by cases bf <;> rfl
              go_upto_region 21 with (first
                | (go_at_call 18; (with_reducible refine Calls.mono (INN.out _ T6.out) ?_); rintro e w7 ⟨rfl, hb7⟩; obtain ⟨hc7, hf7⟩ := bcell hb7; have B7 := Lib.hid hb7; have z7 := hb7.size; have hk67 : k6 < w7.heap.size := (by omega); clear hb7)
                | (go_at_call 19; (with_reducible refine Calls.mono (DIN.out _ (T6.out.below (B7.out.alloc z7 _))) ?_); rintro e w9 ⟨rfl, hb9⟩; obtain ⟨hc9, hf9⟩ := bcell hb9; have B9 := Lib.hid (B7.out.trans (((below_new' w7 (.cells #[.string d.ic, .int .i64 d.ii, .string d.oc, .int .i64 d.oi, .int .i64 d.ia, .int .i64 d.oa, .int .i64 d.ie, .int .i64 d.oe, .string d.hash, .string d.sh] 44)).trans (hb9.mono (by simp))).mono z7)); have K9 : Hid (w9.heap[w7.heap.size]? = some (.cells d.cells.toArray 44 (0, 0))) := (hb9.block _ (by simp)).trans (heap_alloc_at w7 _); clear hb9))
              have z9 := B9.out.size
              have BZ := Lib.hid (B9.out.alloc z9 (.cells #[.string d.ic, .int .i64 d.ii, .string d.oc, .int .i64 d.oi, .int .i64 d.ia, .int .i64 d.oa, .int .i64 d.ie, .int .i64 d.oe, .string d.hash, .string d.sh] 49))
              have KZ : Hid ((w9.alloc (.cells #[.string d.ic, .int .i64 d.ii, .string d.oc, .int .i64 d.oi, .int .i64 d.ia, .int .i64 d.oa, .int .i64 d.ie, .int .i64 d.oe, .string d.hash, .string d.sh] 49)).heap[w7.heap.size]? = some (.cells d.cells.toArray 44 (0, 0))) := (alloc_heap _ (lt_of_heap K9.out)).trans K9.out
              have KY : Hid ((w9.alloc (.cells #[.string d.ic, .int .i64 d.ii, .string d.oc, .int .i64 d.oi, .int .i64 d.ia, .int .i64 d.oa, .int .i64 d.ie, .int .i64 d.oe, .string d.hash, .string d.sh] 49)).heap[w9.heap.size]? = some (.cells d.cells.toArray 49 (0, 0))) := heap_alloc_at w9 _
              clear hc7 hf7 hc9 hf9 q0 q1 q2 q3 q4 q5 q6 q7 q8 q9
              generalize w9.alloc (.cells #[.string d.ic, .int .i64 d.ii, .string d.oc, .int .i64 d.oi, .int .i64 d.ia, .int .i64 d.oa, .int .i64 d.ie, .int .i64 d.oe, .string d.hash, .string d.sh] 49) = wz at BZ KZ KY ⊢
              generalize w9.heap.size = k9 at KY ⊢
              generalize w7.heap.size = k7 at KZ ⊢
              obtain ⟨g0, g1, g2, g3, g4, g5, g6, g7, g8, g9⟩ := ten_cells _ _ _ _ _ _ _ _ _ _ KZ.out
              obtain ⟨p0, p1, p2, p3, p4, p5, p6, p7, p8, p9⟩ := ten_t KY.out
              
              replace g0 := Later.cell g0; replace g1 := Later.cell g1; replace g2 := Later.cell g2; replace g3 := Later.cell g3; replace g4 := Later.cell g4; replace g5 := Later.cell g5; replace g6 := Later.cell g6; replace g7 := Later.cell g7; replace g8 := Later.cell g8; replace g9 := Later.cell g9
              replace p0 := Later.cell p0; replace p1 := Later.cell p1; replace p2 := Later.cell p2; replace p3 := Later.cell p3; replace p4 := Later.cell p4; replace p5 := Later.cell p5; replace p6 := Later.cell p6; replace p7 := Later.cell p7; replace p8 := Later.cell p8; replace p9 := Later.cell p9
              have hneq := fun W => run_neq_circ49 W d
              go_wp2_with fail
              refine wp_region_later (by kernel_rfl) (by kernel_rfl) ?_
              repeat (go_big_quiet_step ((go_at_call 17; exact calls_later (refs_any d _))))
              refine wpQuiet_nil ?_
              intro _ hw'
              obtain ⟨nq, rfl⟩ := hw'
              go_wp2
              go_meet
              exact ⟨v, u, L, T6.out.below (BZ.out.trans (nq.below.mono BZ.out.size)), B6.out.trans ((BZ.out.trans (nq.below.mono BZ.out.size)).mono B6.out.size)⟩
            · have kb4 : (kd % 6 == 4) = false := by simpa using k4
              by_cases k5 : kd % 6 = 5
              · have kb5 : (kd % 6 == 5) = true := by simpa using k5
                obtain ⟨L', d, en, hcl⟩ : ∃ L' d en, closeN L c.oc c.oi = (L', d, en) := ⟨_, _, _, rfl⟩
                have hfew := T6.out.rel.few
                have huni := T6.out.rel.uni
                have CLS : Hid (∀ W : World, Two W base rb mi mo mb v u L L → Calls Try.prog 20 #[.pointer (some ⟨rb, 0, none⟩), .string c.oc, .int .i64 c.oi] W fun e w' => e = .returned (.tuple #[.agg #[.string d.ic, .int .i64 d.ii, .string d.oc, .int .i64 d.oi, .int .i64 d.ia, .int .i64 d.oa, .int .i64 d.ie, .int .i64 d.oe, .string d.hash, .string d.sh], .int .i64 en]) ∧ (∃ v', Two w' base rb mi mo mb v' u L' L) ∧ K44 base W w') := fun W h => by
                  have := close_sum rb base mi mo v L W h.rel c.oc c.oi
                  rw [hcl] at this
                  exact this.mono fun e w' ht => two_turn h ht
                have DCL : Hid (∀ (W : World) (v' : Value), Two W base rb mi mo mb v' u L' L → Calls Try.prog 21 #[.pointer (some ⟨mb, 0, none⟩), .string c.oc, .int .i64 c.oi] W fun e w' => e = .returned (.tuple #[.agg #[.string d.ic, .int .i64 d.ii, .string d.oc, .int .i64 d.oi, .int .i64 d.ia, .int .i64 d.oa, .int .i64 d.ie, .int .i64 d.oe, .string d.hash, .string d.sh], .int .i64 en]) ∧ (∃ u', Two w' base rb mi mo mb v' u' L' L' ∧ ∀ g, u'.ownBlock = some g → u.ownBlock = some g ∨ W.heap.size ≤ g) ∧ K44 base W w' ∧ Fr (DocS mb u) W w') := fun W v' h => by
                  have := docclose_sum mb base u L W h.doc hfew huni c.oc c.oi
                  rw [hcl] at this
                  exact this.mono fun e w' ht => two_doc h ht
                clear hcl hfew huni
                go_upto_region 26 with (first
                  | (go_at_call 20; (with_reducible refine Calls.mono (CLS.out _ T6.out) ?_); rintro e w7 ⟨rfl, ⟨v7, ht7⟩, hk7⟩; have T8 := Lib.hid (ht7.below (below_new' w7 (.cells #[.string d.ic, .int .i64 d.ii, .string d.oc, .int .i64 d.oi, .int .i64 d.ia, .int .i64 d.oa, .int .i64 d.ie, .int .i64 d.oe, .string d.hash, .string d.sh] 44))); have K8 := Lib.hid (K44.alloc hbb hk7 (.cells #[.string d.ic, .int .i64 d.ii, .string d.oc, .int .i64 d.oi, .int .i64 d.ia, .int .i64 d.oa, .int .i64 d.ie, .int .i64 d.oe, .string d.hash, .string d.sh] 44)); have H8 := Lib.hid (heap_alloc_at w7 (.cells #[.string d.ic, .int .i64 d.ii, .string d.oc, .int .i64 d.oi, .int .i64 d.ia, .int .i64 d.oa, .int .i64 d.ie, .int .i64 d.oe, .string d.hash, .string d.sh] 44)); obtain ⟨x0, x1, x2, x3, x4, x5, x6, x7, x8, x9⟩ := ten_cells _ _ _ _ _ _ _ _ _ _ (K8.out.rows k6 _ H6.out); clear ht7)
                  | (go_at_call 21; (with_reducible refine Calls.mono (DCL.out _ _ T8.out) ?_); rintro e w9 ⟨rfl, ⟨u9, ht9, _⟩, hk9, _⟩; have K9 := Lib.hid (hk9.rows _ _ H8.out); have BK9 := Lib.hid (K8.out.trans hk9); have TZ := Lib.hid (ht9.below (below_new' w9 (.cells #[.string d.ic, .int .i64 d.ii, .string d.oc, .int .i64 d.oi, .int .i64 d.ia, .int .i64 d.oa, .int .i64 d.ie, .int .i64 d.oe, .string d.hash, .string d.sh] 49))); clear ht9 hk9))
                have BZ := Lib.hid (K44.alloc hbb BK9.out (.cells #[.string d.ic, .int .i64 d.ii, .string d.oc, .int .i64 d.oi, .int .i64 d.ia, .int .i64 d.oa, .int .i64 d.ie, .int .i64 d.oe, .string d.hash, .string d.sh] 49))
                have KZ : Hid ((w9.alloc (.cells #[.string d.ic, .int .i64 d.ii, .string d.oc, .int .i64 d.oi, .int .i64 d.ia, .int .i64 d.oa, .int .i64 d.ie, .int .i64 d.oe, .string d.hash, .string d.sh] 49)).heap[w7.heap.size]? = some (.cells d.cells.toArray 44 (0, 0))) := (alloc_heap _ (lt_of_heap K9.out)).trans K9.out
                have KY : Hid ((w9.alloc (.cells #[.string d.ic, .int .i64 d.ii, .string d.oc, .int .i64 d.oi, .int .i64 d.ia, .int .i64 d.oa, .int .i64 d.ie, .int .i64 d.oe, .string d.hash, .string d.sh] 49)).heap[w9.heap.size]? = some (.cells d.cells.toArray 49 (0, 0))) := heap_alloc_at w9 _
                clear q0 q1 q2 q3 q4 q5 q6 q7 q8 q9 x0 x1 x2 x3 x4 x5 x6 x7 x8 x9
                generalize w9.alloc (.cells #[.string d.ic, .int .i64 d.ii, .string d.oc, .int .i64 d.oi, .int .i64 d.ia, .int .i64 d.oa, .int .i64 d.ie, .int .i64 d.oe, .string d.hash, .string d.sh] 49) = wz at BZ KZ KY TZ ⊢
                generalize w9.heap.size = k9 at KY ⊢
                generalize w7.heap.size = k7 at KZ ⊢
                obtain ⟨g0, g1, g2, g3, g4, g5, g6, g7, g8, g9⟩ := ten_cells _ _ _ _ _ _ _ _ _ _ KZ.out
                obtain ⟨p0, p1, p2, p3, p4, p5, p6, p7, p8, p9⟩ := ten_t KY.out
                replace g0 := Later.cell g0; replace g1 := Later.cell g1; replace g2 := Later.cell g2; replace g3 := Later.cell g3; replace g4 := Later.cell g4; replace g5 := Later.cell g5; replace g6 := Later.cell g6; replace g7 := Later.cell g7; replace g8 := Later.cell g8; replace g9 := Later.cell g9
                replace p0 := Later.cell p0; replace p1 := Later.cell p1; replace p2 := Later.cell p2; replace p3 := Later.cell p3; replace p4 := Later.cell p4; replace p5 := Later.cell p5; replace p6 := Later.cell p6; replace p7 := Later.cell p7; replace p8 := Later.cell p8; replace p9 := Later.cell p9
                have hneq := fun W => run_neq_circ49 W d
                go_wp2_with fail
                refine wp_region_later (by kernel_rfl) (by kernel_rfl) ?_
                repeat (go_big_quiet_step ((go_at_call 17; exact calls_later (refs_any d _))))
                refine wpQuiet_nil ?_
                intro _ hw'
                obtain ⟨nq, rfl⟩ := hw'
                go_wp2
                go_meet
                exact ⟨v7, u9, L', TZ.out.below nq.below, B6.out.trans ((BZ.out.low.trans (nq.below.mono (Nat.le_trans hbb BZ.out.size))).mono hbase)⟩
              · have kb5 : (kd % 6 == 5) = false := by simpa using k5
                obtain ⟨L', en, hop⟩ : ∃ L' en, openN L c = (L', en) := ⟨_, _, rfl⟩
                have hfew := T6.out.rel.few
                have OPN : Hid (∀ (W : World) (u' : Value) (M : List Circ), Two W base rb mi mo mb v u' L M → Calls Try.prog 22 #[.pointer (some ⟨rb, 0, none⟩), .agg #[.string c.ic, .int .i64 c.ii, .string c.oc, .int .i64 c.oi, .int .i64 c.ia, .int .i64 c.oa, .int .i64 c.ie, .int .i64 c.oe, .string c.hash, .string c.sh]] W fun e w' => e = .returned (.int .i64 en) ∧ (∃ v', Two w' base rb mi mo mb v' u' L' M) ∧ K44 base W w') := fun W u' M h => by
                  have := open_sum rb base mi mo v L W h.rel c HF.out
                  rw [hop] at this
                  exact this.mono fun e w' ht => two_turn h ht
                have DOP : Hid (∀ (W : World) (v' : Value) (M : List Circ), Two W base rb mi mo mb v' u M L → Calls Try.prog 23 #[.pointer (some ⟨mb, 0, none⟩), .agg #[.string c.ic, .int .i64 c.ii, .string c.oc, .int .i64 c.oi, .int .i64 c.ia, .int .i64 c.oa, .int .i64 c.ie, .int .i64 c.oe, .string c.hash, .string c.sh]] W fun e w' => e = .returned (.int .i64 en) ∧ (∃ u', Two w' base rb mi mo mb v' u' M L') ∧ K44 base W w') := fun W v' M h => by
                  have := docopen_sum mb base u L W h.doc hfew c HF.out
                  rw [hop] at this
                  exact this.mono fun e w' ht => by
                    obtain ⟨h1, ⟨u', h2, _⟩, h3, _⟩ := two_doc h ht
                    exact ⟨h1, ⟨u', h2⟩, h3⟩
                clear hop hfew
                have K0 := K44.refl base wb
                go_wp2_with fail
                go_region_held3 (fun w' => K44 base wb w' ∧ w'.cell? ⟨k6, 0, none⟩ = some (.string c.ic) ∧ w'.cell? ⟨k6, 1, none⟩ = some (.int .i64 c.ii) ∧ w'.cell? ⟨k6, 2, none⟩ = some (.string c.oc) ∧ w'.cell? ⟨k6, 3, none⟩ = some (.int .i64 c.oi) ∧ w'.cell? ⟨k6, 4, none⟩ = some (.int .i64 c.ia) ∧ w'.cell? ⟨k6, 5, none⟩ = some (.int .i64 c.oa) ∧ w'.cell? ⟨k6, 6, none⟩ = some (.int .i64 c.ie) ∧ w'.cell? ⟨k6, 7, none⟩ = some (.int .i64 c.oe) ∧ w'.cell? ⟨k6, 8, none⟩ = some (.string c.hash) ∧ w'.cell? ⟨k6, 9, none⟩ = some (.string c.sh))
                  ((go_split_ands; with_reducible exact keepK10 (by (first | (with_reducible assumption) | (repeat' (first | (with_reducible exact K44.refl _ _) | (with_reducible assumption) | (with_reducible refine K44.alloc ?_ ?_ _) | (with_reducible refine K44.drew ?_) | (with_reducible refine K44.setCell ?_ ?_ ?_ _) | go_size)))) H6.out))
                  (first
                    | (go_at_call 23; go_split_ands; (with_reducible refine Calls.mono (DOP.out _ _ _ (by first | (with_reducible exact P3.out) | (exact P3.out.below (by (first | (with_reducible assumption) | (repeat' (first | (with_reducible exact Below.refl _ _) | (with_reducible assumption) | (with_reducible refine Below.alloc ?_ ?_ _) | (with_reducible refine Below.drew ?_) | (with_reducible refine Below.setCell ?_ ?_ _) | (with_reducible refine below_drewN ?_ _) | (refine Below.trans ?_ (Below.mono (by assumption) ?_)) | go_size))))) | (exact T6.out.below (by (first | (with_reducible assumption) | (repeat' (first | (with_reducible exact Below.refl _ _) | (with_reducible assumption) | (with_reducible refine Below.alloc ?_ ?_ _) | (with_reducible refine Below.drew ?_) | (with_reducible refine Below.setCell ?_ ?_ _) | (with_reducible refine below_drewN ?_ _) | (refine Below.trans ?_ (Below.mono (by assumption) ?_)) | go_size))))))) ?_); rintro e w4 ⟨rfl, ⟨u4, h4⟩, hk4⟩; have P4 := Lib.hid h4; have KX : K44 base wb w4 := K44.trans (by (first | (with_reducible assumption) | (repeat' (first | (with_reducible exact K44.refl _ _) | (with_reducible assumption) | (with_reducible refine K44.alloc ?_ ?_ _) | (with_reducible refine K44.drew ?_) | (with_reducible refine K44.setCell ?_ ?_ ?_ _) | go_size)))) hk4; clear h4 hk4)
                    | (go_at_call 22; go_split_ands; (with_reducible refine Calls.mono (OPN.out _ _ _ (by first | (with_reducible exact P4.out) | (exact T6.out.below (by (first | (with_reducible assumption) | (repeat' (first | (with_reducible exact Below.refl _ _) | (with_reducible assumption) | (with_reducible refine Below.alloc ?_ ?_ _) | (with_reducible refine Below.drew ?_) | (with_reducible refine Below.setCell ?_ ?_ _) | (with_reducible refine below_drewN ?_ _) | (refine Below.trans ?_ (Below.mono (by assumption) ?_)) | go_size))))))) ?_); rintro e w3 ⟨rfl, ⟨v3, h3⟩, hk3⟩; have P3 := Lib.hid h3; have KX : K44 base wb w3 := K44.trans (by (first | (with_reducible assumption) | (repeat' (first | (with_reducible exact K44.refl _ _) | (with_reducible assumption) | (with_reducible refine K44.alloc ?_ ?_ _) | (with_reducible refine K44.drew ?_) | (with_reducible refine K44.setCell ?_ ?_ ?_ _) | go_size)))) hk3; clear h3 hk3)
                    | (go_at_call 17; go_split_ands; (with_reducible refine Calls.mono (refs_any c _) ?_); rintro e w5 ⟨rfl, hb5⟩; have KY : K44 base wb w5 := K44.trans KX (K44.of (Nat.le_trans hbb KX.size) hb5)))
                go_wp2
                go_meet
                exact ⟨v3, u4, L', P4.out, B6.out.trans (KX.low.mono hbase)⟩
        case rest =>
          obtain ⟨v, u, M, hT, hB⟩ := hcut
          have hBs := hB.out.size
          have LST := Lib.hid (list_any rb base mi mo v M wc hT.out.rel)
          obtain ⟨ua, uc, rfl⟩ := own_slice hT.out.doc.own
          have hfew := hT.out.rel.few
          obtain ⟨n, hn⟩ : ∃ n, M.length = n := ⟨_, rfl⟩
          have HN := Lib.hid hn
          have cm : wc.cell? ⟨mb, 0, none⟩ = some (.slice ua n uc) := by simp [World.cell?, hT.out.doc.mbk, hn]
          clear hn q0 q1 q2 q3 q4 q5 q6 q7 q8 q9
          go_wp2_with (first
            | (go_at_call 24; (with_reducible refine Calls.mono LST.out ?_); rintro e w5 ⟨lv, rfl, hlo, hb5⟩; obtain ⟨la, lc, rfl⟩ := own_slice hlo; have LA := Lib.hid (LFrom.of hlo rfl); rw [HN.out] at hlo hfew ⊢; have cm5 := cell_later hb5 cm; have B5 := Lib.hid hb5; have CNT : Hid (Calls Try.prog 25 #[.pointer (some ⟨rb, 0, none⟩)] w5 fun e w' => e = .returned (.int .i64 (n : Int)) ∧ w5 = w') := (by have := count_any rb base mi mo v M w5 (hT.out.rel.below hb5); rw [HN.out] at this; exact this); clear hlo hb5 LST)
            | (go_at_call 25; (with_reducible refine Calls.mono CNT.out ?_); rintro e w9 ⟨rfl, rfl⟩))
          go_loopw [20] (fun kv wr => ∃ k : Nat, k ≤ n ∧ kv = .int .i64 k ∧ Hid (Below wc.heap.size wc wr) ∧ Hid (LFrom wr wc.heap.size la M k)) (fun kv _ => n - (intOf kv).toNat)
          case atStart => exact ⟨0, Nat.zero_le _, rfl, B5.out, LA.out⟩
          case round =>
            obtain ⟨k, hk, rfl, hBk, hL⟩ := hrel
            by_cases hlt : k < n
            · obtain ⟨d, hd⟩ : ∃ d, M[k]? = some d := ⟨_, List.getElem?_eq_getElem (by have := HN.out; omega)⟩
              obtain ⟨g, cur, hla, hBg, hgc, hca⟩ := hL.out.row hd
              subst hla
              obtain ⟨gd, cap, hud, hcd⟩ := (hT.out.doc.below hBk.out).row hd
              cases hud
              have hkk : (k : Int) < (n : Int) := by omega
              have cmk := Later.cell (cell_later hBk.out cm)
              obtain ⟨g0, g1, g2, g3, g4, g5, g6, g7, g8, g9⟩ := hca
              obtain ⟨p0, p1, p2, p3, p4, p5, p6, p7, p8, p9⟩ := hcd
              have HGC := Lib.hid hgc
              clear hd hgc cm cm5
              replace g0 := Later.cell g0; replace g1 := Later.cell g1; replace g2 := Later.cell g2; replace g3 := Later.cell g3; replace g4 := Later.cell g4; replace g5 := Later.cell g5; replace g6 := Later.cell g6; replace g7 := Later.cell g7; replace g8 := Later.cell g8; replace g9 := Later.cell g9
              replace p0 := Later.cell p0; replace p1 := Later.cell p1; replace p2 := Later.cell p2; replace p3 := Later.cell p3; replace p4 := Later.cell p4; replace p5 := Later.cell p5; replace p6 := Later.cell p6; replace p7 := Later.cell p7; replace p8 := Later.cell p8; replace p9 := Later.cell p9
              have hneq := fun W => run_neq_circ49 W d
              go_wp2_with fail
              refine wp_region_later (by kernel_rfl) (by kernel_rfl) ?_
              repeat (go_big_quiet_step ((go_at_call 17; exact calls_later (refs_any d _))))
              refine wpQuiet_nil ?_
              intro _ hw'
              obtain ⟨nq, rfl⟩ := hw'
              have hgq := (nq.below.block g (lt_of_heap HGC.out)).trans HGC.out
              have fz := frozen_of_row nq.at_ g (k * 10) _ 44 hgq
              have cz := (g0 nq)
              have LQ := Lib.hid (hL.out.below nq.below)
              have BQ := Lib.hid (hBk.out.trans (nq.below.mono hBk.out.size))
              clear g0 g1 g2 g3 g4 g5 g6 g7 g8 g9 p0 p1 p2 p3 p4 p5 p6 p7 p8 p9 hgq
              go_wp2
              go_roundw
              case rel => exact ⟨k + 1, by omega, by go_num, BQ.out.setCell hBg _, LQ.out.over _⟩
              case measure => simp [intOf]; omega
            · obtain rfl : k = n := by omega
              go_wp2_with fail
              go_roundw
              case rel => exact ⟨i + 1, _, _, M, by omega, by go_num, hT.out.below hBk.out, hB.out.trans (hBk.out.mono hBs)⟩
              case measure => simp [intOf]; omega
      · obtain rfl : i = ops.length := by omega
        have hno : ¬ (ops.length : Int) < (ops.length : Int) := by omega
        go_wp2_with (go_at_call 11; (with_reducible refine Calls.mono (works_any wr) ?_); rintro e w9 ⟨rfl, hb9⟩; have B9 := Lib.hid hb9; clear hb9)
        go_ret
        exact ⟨rfl, hB.out.trans (B9.out.mono hBs)⟩
end Go.Proofs.Ytjdbnaedlljfhaa
