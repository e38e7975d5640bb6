/- The digest's take. -/
import Derived.Test.YtkhbkckcgfddlaaDoorF
import Derived.BigRegion
import Derived.Laws.CopyOwn
namespace Go.Proofs.YtkhbkckcgfddlaaDoor
open Go.RowKit
attribute [local go_sem] run_xor run_and run_or run_add run_not
def TabAt (w : World) : Prop := ∀ (i : Nat) (k : W32), tableK[i]? = some k → w.cell? ⟨0, i, none⟩ = some (U k)
attribute [local go_sem] match_U match_B run_store_U run_store_B conv_b shl_24 shl_16 shl_8 shr_3 shr_10
set_option maxRecDepth 100000 in
set_option maxHeartbeats 4000000 in
theorem take_any (s : Eight) (bb bo cap : Nat) (blk : List Nat) (w : World) (hl : blk.length = 64) (hb : ∀ (j : Nat) (x : Nat), blk[j]? = some x → w.cell? ⟨bb, bo + j, none⟩ = some (B x)) (ht : TabAt w) :
    Calls Tryd.prog 18 #[.agg #[U s.a, U s.b, U s.c, U s.d, U s.e, U s.f, U s.g, U s.h], .slice (some ⟨bb, bo, none⟩) 64 cap] w fun e w' => e = .returned (takeB s blk).val ∧ Below w.heap.size w w' := by
  have HL := Lib.hid hl
  have hbl : bb < w.heap.size := World.block_lt_of_cell? w _ (hb 0 _ (List.getElem?_eq_getElem (by omega)))
  have HB := Lib.hid hb
  have HT := Lib.hid ht
  have INF : Hid ((Tryd.prog.info? 34).map (·.size) = some 1) := by show _ = _; kernel_rfl
  clear hl hb ht
  go_enter Tryd.func18, Tryd.ntmps18
  go_upto_region 2 with fail
  obtain ⟨h2, h4, h5⟩ := alloc3_at w (.cells #[U s.a, U s.b, U s.c, U s.d, U s.e, U s.f, U s.g, U s.h] 41) (.cells (Words (zero8.list)) 41) (.cells (Words (PW [])) 51)
  have h2 : Hid ((((w.alloc (.cells #[U s.a, U s.b, U s.c, U s.d, U s.e, U s.f, U s.g, U s.h] 41)).alloc (.cells (Words (zero8.list)) 41)).alloc (.cells (Words (PW [])) 51)).heap[w.heap.size]? = some (.cells (Words s.list) 41 (0, 0))) := h2
  replace h4 := Lib.hid h4
  replace h5 := Lib.hid h5
  have b0 : Hid (Below w.heap.size w (((w.alloc (.cells #[U s.a, U s.b, U s.c, U s.d, U s.e, U s.f, U s.g, U s.h] 41)).alloc (.cells (Words (zero8.list)) 41)).alloc (.cells (Words (PW [])) 51))) :=
    (((Below.refl _ _).alloc (Nat.le_refl _) _).alloc (by simp) _).alloc (by simp; omega) _
  change Code.wp _ _ _ _ (((w.alloc (.cells #[U s.a, U s.b, U s.c, U s.d, U s.e, U s.f, U s.g, U s.h] 41)).alloc (.cells (Words (zero8.list)) 41)).alloc (.cells (Words (PW [])) 51))
  generalize ((w.alloc (.cells #[U s.a, U s.b, U s.c, U s.d, U s.e, U s.f, U s.g, U s.h] 41)).alloc (.cells (Words (zero8.list)) 41)).alloc (.cells (Words (PW [])) 51) = w0 at h2 h4 h5 b0 ⊢
  obtain ⟨k2, hk2⟩ : ∃ k2, w.heap.size = k2 := ⟨_, rfl⟩
  obtain ⟨k4, hk4⟩ : ∃ k4, w.heap.size + 1 = k4 := ⟨_, rfl⟩
  obtain ⟨k5, hk5⟩ : ∃ k5, w.heap.size + 1 + 1 = k5 := ⟨_, rfl⟩
  have H2 : Hid (k2 < k4 ∧ k4 < k5 ∧ w.heap.size = k2 ∧ k5 < w0.heap.size) := ⟨by omega, by omega, hk2, by have := lt_of_heap h5.out; omega⟩
  rw [hk5] at h5 ⊢
  rw [hk4] at h4 ⊢
  rw [hk2] at h2 ⊢
  have hbl2 : bb < k2 := by omega
  clear hk2 hk4 hk5
  go_wp2_with fail
  go_loopw [19] (fun iv wr => ∃ i : Nat, i ≤ 16 ∧ iv = .int .i64 i ∧ Hid (wr.heap[k5]? = some (.cells (Words (PW ((words16 blk).take i))) 51 (0, 0))) ∧ Hid (Fr (fun k => k = k5) w0 wr)) (fun iv _ => 16 - (intOf iv).toNat)
  case atStart => exact ⟨0, by omega, rfl, h5.out, Fr.refl _ _⟩
  case round =>
    obtain ⟨i, hi, rfl, hW, hF⟩ := hrel
    by_cases hlt : i < 16
    · have hL := HL.out
      obtain ⟨x0, e0⟩ : ∃ x, blk[4 * i]? = some x := ⟨_, List.getElem?_eq_getElem (by omega)⟩
      obtain ⟨x1, e1⟩ : ∃ x, blk[4 * i + 1]? = some x := ⟨_, List.getElem?_eq_getElem (by omega)⟩
      obtain ⟨x2, e2⟩ : ∃ x, blk[4 * i + 2]? = some x := ⟨_, List.getElem?_eq_getElem (by omega)⟩
      obtain ⟨x3, e3⟩ : ∃ x, blk[4 * i + 3]? = some x := ⟨_, List.getElem?_eq_getElem (by omega)⟩
      have cell : ∀ (j x : Nat), blk[j]? = some x → wr.cell? ⟨bb, bo + j, none⟩ = some (B x) := fun j x h => hF.out.cell (by have := H2.out; omega) (cell_later b0.out (HB.out j x h))
      have c0 := cell _ _ e0
      have c1 := cell _ _ e1
      have c2 := cell _ _ e2
      have c3 := cell _ _ e3
      have fz := frozen_of_row wr k5 i _ 51 hW.out
      clear cell
      have HE := Lib.hid (words16_at i blk x0 x1 x2 x3 e0 e1 e2 e3)
      clear e0 e1 e2 e3
      have hii : (i : Int) < 16 := by omega
      go_upto_region 5 with fail
      have hlen : ((words16 blk).take i).length = i := by rw [List.length_take, words16_length 16 blk hL]; omega
      have c5 : wr.cell? ⟨k5, i, none⟩ = some (U 0) := words_cell hW.out (by have := PW_next ((words16 blk).take i) (by omega); rw [hlen] at this; exact this)
      have HLN := Lib.hid hlen
      clear hlen hL
      go_region
      go_wp2_with fail
      go_roundw
      case rel => exact ⟨i + 1, by omega, by go_num, by rw [take_next HE.out]; exact pw_store (w := wr.drew) _ hW.out HLN.out (by omega), (hF.out.drew.set _ _ fun _ => rfl)⟩
      case measure => simp [intOf]; omega
    · obtain rfl : i = 16 := by omega
      have hW' : Hid (wr.heap[k5]? = some (.cells (Words (PW (sched 0 (words16 blk)))) 51 (0, 0))) := by
        have := hW.out
        rw [List.take_of_length_le (by rw [words16_length 16 blk HL.out]; omega)] at this
        exact this
      obtain ⟨w1, rfl⟩ : ∃ w1 : World, w1 = wr := ⟨_, rfl⟩
      have HW16 := Lib.hid (words16_length 16 blk HL.out)
      clear hW
      go_wp2_with fail
      go_loopw [7] (fun iv wr => ∃ m : Nat, m ≤ 48 ∧ iv = .int .i64 ((m : Int) + 16) ∧ Hid (wr.heap[k5]? = some (.cells (Words (PW (sched m (words16 blk)))) 51 (0, 0))) ∧ Hid (Fr (fun k => k = k5) w0 wr)) (fun iv _ => 64 - (intOf iv).toNat)
      case atStart => exact ⟨0, by omega, rfl, hW'.out, hF.out⟩
      case round =>
        obtain ⟨m, hm, rfl, hW, hF⟩ := hrel
        by_cases hlt : m < 48
        · have hlen : (sched m (words16 blk)).length = m + 16 := by rw [sched_length, HW16.out]; omega
          obtain ⟨y0, e0⟩ : ∃ x, (sched m (words16 blk))[m]? = some x := ⟨_, List.getElem?_eq_getElem (by omega)⟩
          obtain ⟨y1, e1⟩ : ∃ x, (sched m (words16 blk))[m + 1]? = some x := ⟨_, List.getElem?_eq_getElem (by omega)⟩
          obtain ⟨y9, e9⟩ : ∃ x, (sched m (words16 blk))[m + 9]? = some x := ⟨_, List.getElem?_eq_getElem (by omega)⟩
          obtain ⟨y14, e14⟩ : ∃ x, (sched m (words16 blk))[m + 14]? = some x := ⟨_, List.getElem?_eq_getElem (by omega)⟩
          have c0 := words_cell hW.out (PW_at e0)
          have c1 := words_cell hW.out (PW_at e1)
          have c9 := words_cell hW.out (PW_at e9)
          have c14 := words_cell hW.out (PW_at e14)
          have c16 : wr.cell? ⟨k5, m + 16, none⟩ = some (U 0) := words_cell hW.out (by have := PW_next (sched m (words16 blk)) (by omega); rw [hlen] at this; exact this)
          have fz := frozen_of_row wr k5 (m + 16) _ 51 hW.out
          have HN : Hid (nextW (sched m (words16 blk)) = y0 + sg0 y1 + y9 + sg1 y14) := by
            show _ = _
            unfold nextW
            rw [hlen, show m + 16 - 16 = m by omega, show m + 16 - 15 = m + 1 by omega, show m + 16 - 7 = m + 9 by omega, show m + 16 - 2 = m + 14 by omega]
            simp only [List.getD_eq_getElem?_getD, e0, e1, e9, e14, Option.getD_some]
          have HLN := Lib.hid hlen
          have hmm : (m : Int) + 16 < 64 := by omega
          clear e0 e1 e9 e14 hlen
          go_upto_region 10 with fail
          go_region
          go_upto_region 13 with (first
            | (go_at_call 22; (with_reducible refine Calls.mono (rot_7 y1 _) ?_); rintro e w8 ⟨rfl, rfl⟩)
            | (go_at_call 22; (with_reducible refine Calls.mono (rot_18 y1 _) ?_); rintro e w8 ⟨rfl, rfl⟩)
            | (go_at_call 22; (with_reducible refine Calls.mono (rot_17 y14 _) ?_); rintro e w8 ⟨rfl, rfl⟩)
            | (go_at_call 22; (with_reducible refine Calls.mono (rot_19 y14 _) ?_); rintro e w8 ⟨rfl, rfl⟩))
          go_region
          go_wp2_with fail
          go_roundw
          case rel =>
            (repeat apply Exists.intro)
            exact ⟨⟨m + 1, by omega, by go_num, by rw [sched_succ, HN.out]; exact pw_store (w := wr) _ hW.out HLN.out (by omega), (hF.out.set _ _ fun _ => rfl).drew.drew⟩, rfl⟩
          case measure => simp [intOf]; omega
        · obtain rfl : m = 48 := by omega
          have hW' : Hid (wr.heap[k5]? = some (.cells (Words (blockW blk)) 51 (0, 0))) := by
            have := hW.out
            rw [PW_full _ (by rw [sched_length, HW16.out])] at this
            exact this
          obtain ⟨w2, rfl⟩ : ∃ w2 : World, w2 = wr := ⟨_, rfl⟩
          clear hW
          have z2 : w2.heap[k2]? = some (.cells (Words s.list) 41 (0, 0)) := hF.out.at_ (by have := H2.out; omega) h2.out
          have a0 : w2.cell? ⟨k2, 0, none⟩ = some (U s.a) := words_cell z2 rfl
          have a1 : w2.cell? ⟨k2, 1, none⟩ = some (U s.b) := words_cell z2 rfl
          have a2 : w2.cell? ⟨k2, 2, none⟩ = some (U s.c) := words_cell z2 rfl
          have a3 : w2.cell? ⟨k2, 3, none⟩ = some (U s.d) := words_cell z2 rfl
          have a4 : w2.cell? ⟨k2, 4, none⟩ = some (U s.e) := words_cell z2 rfl
          have a5 : w2.cell? ⟨k2, 5, none⟩ = some (U s.f) := words_cell z2 rfl
          have a6 : w2.cell? ⟨k2, 6, none⟩ = some (U s.g) := words_cell z2 rfl
          have a7 : w2.cell? ⟨k2, 7, none⟩ = some (U s.h) := words_cell z2 rfl
          clear z2
          have BW2 : Hid (Below w.heap.size w w2) := b0.out.trans (hF.out.toBelow (fun k _ hk => by have := H2.out; omega) b0.out.size)
          have hz2 : k5 < w2.heap.size := lt_of_heap hW'.out
          have h4' : Hid (w2.heap[k4]? = some (.cells (Words (zero8.list)) 41 (0, 0))) := hF.out.at_ (by have := H2.out; omega) h4.out
          have h2' : Hid (w2.heap[k2]? = some (.cells (Words s.list) 41 (0, 0))) := hF.out.at_ (by have := H2.out; omega) h2.out
          go_upto_region 15 with fail
          have g5 : Hid ((w2.alloc (.cells #[U s.a, U s.b, U s.c, U s.d, U s.e, U s.f, U s.g, U s.h] 41)).heap[k5]? = some (.cells (Words (blockW blk)) 51 (0, 0))) := (alloc_heap _ hz2).trans hW'.out
          have g4 : Hid ((w2.alloc (.cells #[U s.a, U s.b, U s.c, U s.d, U s.e, U s.f, U s.g, U s.h] 41)).heap[k4]? = some (.cells (Words (zero8.list)) 41 (0, 0))) := (alloc_heap _ (lt_of_heap h4'.out)).trans h4'.out
          have g2 : Hid ((w2.alloc (.cells #[U s.a, U s.b, U s.c, U s.d, U s.e, U s.f, U s.g, U s.h] 41)).heap[k2]? = some (.cells (Words s.list) 41 (0, 0))) := (alloc_heap _ (lt_of_heap h2'.out)).trans h2'.out
          have gu : Hid ((w2.alloc (.cells #[U s.a, U s.b, U s.c, U s.d, U s.e, U s.f, U s.g, U s.h] 41)).heap[w2.heap.size]? = some (.cells (Words s.list) 41 (0, 0))) := heap_alloc_at w2 _
          have BW3 : Hid (Below w.heap.size w (w2.alloc (.cells #[U s.a, U s.b, U s.c, U s.d, U s.e, U s.f, U s.g, U s.h] 41))) := BW2.out.alloc BW2.out.size _
          clear a0 a1 a2 a3 a4 a5 a6 a7 h4' h2' hF hW' BW2
          generalize w2.alloc (.cells #[U s.a, U s.b, U s.c, U s.d, U s.e, U s.f, U s.g, U s.h] 41) = w3 at g5 g4 g2 gu BW3 ⊢
          generalize w2.heap.size = ku at hz2 gu ⊢
          go_wp2_with fail
          go_loopw [102] (fun iv wr => ∃ (i : Nat) (t : Eight), i ≤ 64 ∧ iv = .int .i64 i ∧ Hid (t = roundsN ((tableK.zip (blockW blk)).take i) s) ∧ Hid (wr.heap[ku]? = some (.cells (Words t.list) 41 (0, 0))) ∧ Hid (Below ku w3 wr)) (fun iv _ => 64 - (intOf iv).toNat)
          case atStart => exact ⟨0, s, by omega, rfl, rfl, gu.out, Below.refl _ _⟩
          case round =>
            obtain ⟨i, t, hi, rfl, hT, hU, hBu⟩ := hrel
            by_cases hlt : i < 64
            · have hbw : (blockW blk).length = 64 := by unfold blockW; rw [sched_length, HW16.out]
              obtain ⟨kk, ek⟩ : ∃ x, tableK[i]? = some x := ⟨_, List.getElem?_eq_getElem (by show i < 64; omega)⟩
              obtain ⟨wi, ew⟩ : ∃ x, (blockW blk)[i]? = some x := ⟨_, List.getElem?_eq_getElem (by omega)⟩
              have ct : wr.cell? ⟨0, i, none⟩ = some (U kk) := (hBu.out.cell (p := ⟨0, i, none⟩) (show 0 < ku by omega)).trans (cell_later BW3.out (HT.out i kk ek))
              have cw : wr.cell? ⟨k5, i, none⟩ = some (U wi) := (hBu.out.cell (p := ⟨k5, i, none⟩) hz2).trans (words_cell g5.out ew)
              have HN : Hid (roundsN ((tableK.zip (blockW blk)).take (i + 1)) s = round1 t kk wi) := by
                show _ = _
                rw [hT.out]
                refine roundsN_step s ?_
                rw [List.getElem?_zip_eq_some]
                exact ⟨ek, ew⟩
              have a0 : wr.cell? ⟨ku, 0, none⟩ = some (U t.a) := words_cell hU.out rfl
              have a1 : wr.cell? ⟨ku, 1, none⟩ = some (U t.b) := words_cell hU.out rfl
              have a2 : wr.cell? ⟨ku, 2, none⟩ = some (U t.c) := words_cell hU.out rfl
              have a3 : wr.cell? ⟨ku, 3, none⟩ = some (U t.d) := words_cell hU.out rfl
              have a4 : wr.cell? ⟨ku, 4, none⟩ = some (U t.e) := words_cell hU.out rfl
              have a5 : wr.cell? ⟨ku, 5, none⟩ = some (U t.f) := words_cell hU.out rfl
              have a6 : wr.cell? ⟨ku, 6, none⟩ = some (U t.g) := words_cell hU.out rfl
              have a7 : wr.cell? ⟨ku, 7, none⟩ = some (U t.h) := words_cell hU.out rfl
              have hii : (i : Int) < 64 := by omega
              clear ek ew hbw
              go_upto_region 18 with fail
              go_quiet (fail)
              go_upto_region 19 with fail
              go_quiet (first
                | (go_at_call 22; with_reducible refine quiet_add (rot_6 t.e _))
                | (go_at_call 22; with_reducible refine quiet_add (rot_11 t.e _))
                | (go_at_call 22; with_reducible refine quiet_add (rot_25 t.e _)))
              go_upto_region 20 with fail
              go_quiet (first
                | (go_at_call 22; with_reducible refine quiet_add (rot_2 t.a _))
                | (go_at_call 22; with_reducible refine quiet_add (rot_13 t.a _))
                | (go_at_call 22; with_reducible refine quiet_add (rot_22 t.a _)))
              go_upto_region 21 with fail
              go_upto_region 21 with fail
              have HR := Lib.hid hU.out
              have HBu := Lib.hid hBu.out
              clear a0 a1 a2 a3 a4 a5 a6 a7
              have HSRC : Hid (∀ (W : World), W.heap = wr.heap → ∀ (j : Nat) (v : Value), [U t.a, U t.b, U t.c, U t.d, U t.e, U t.f, U t.g][j]? = some v → W.cell? ((⟨ku, 0, none⟩ : Addr).add j) = some v) := row_read hU.out (fun j v h => by
                rw [Nat.zero_add]
                match j, h with
                | 0, h => exact h
                | 1, h => exact h
                | 2, h => exact h
                | 3, h => exact h
                | 4, h => exact h
                | 5, h => exact h
                | 6, h => exact h
                | j + 7, h => simp at h)
              have ONE : Hid (∀ v ∈ [U t.a, U t.b, U t.c, U t.d, U t.e, U t.f, U t.g], v.oneCell' = true) := by
                show ∀ v ∈ [U t.a, U t.b, U t.c, U t.d, U t.e, U t.f, U t.g], v.oneCell' = true
                intro v hv
                simp only [List.mem_cons, List.not_mem_nil, or_false] at hv
                rcases hv with rfl | rfl | rfl | rfl | rfl | rfl | rfl <;> rfl
              go_region_law ((refine step_copy_splice rfl (.tmp 163) (.tmp 164) 35 35 rfl 34 Tryd.underlying35 INF.out (some ⟨ku, 1, none⟩) (some ⟨ku, 0, none⟩) 7 7 7 8 rfl rfl ku 1 (t.list.map U) 41 HR.out [U t.a, U t.b, U t.c, U t.d, U t.e, U t.f, U t.g] rfl (fun _ => ⟨rfl, _, rfl, HSRC.out _ rfl⟩) (Nat.le_refl 8) ONE.out ku w3 (by repeat (first | (with_reducible exact HBu.out) | (with_reducible refine below_drewN ?_ _) | (with_reducible refine Below.drew ?_))) (Nat.le_refl _) ?_; intro w4 hg4 hb4; have HG4 : Hid (w4.heap[ku]? = some (.cells (Words [t.a, t.a, t.b, t.c, t.d, t.e, t.f, t.g]) 41 (0, 0))) := hg4.out; have HB4 := Lib.hid hb4; clear hg4 hb4))
              all_goals
                have a0 : w4.cell? ⟨ku, 0, none⟩ = some (U t.a) := words_cell HG4.out rfl
                have a4 : w4.cell? ⟨ku, 4, none⟩ = some (U t.d) := words_cell HG4.out rfl
                have f0 := frozen_of_row w4 ku 0 _ 41 HG4.out
                have f4 := frozen_of_row w4 ku 4 _ 41 HG4.out
                go_wp2_with fail
              go_roundw
              case rel =>
                (repeat apply Exists.intro)
                exact ⟨⟨i + 1, round1 t kk wi, by omega, by go_num, HN.out.symm, set2_words HG4.out, (HB4.out.setCell (p := ⟨ku, 0, none⟩) (Nat.le_refl _) _).setCell (p := ⟨ku, 4, none⟩) (Nat.le_refl _) _⟩, rfl⟩
              case measure => simp [intOf]; omega
            · obtain rfl : i = 64 := by omega
              have HT2 : Hid (takeB s blk = plus8 s t) := by
                show _ = _
                rw [hT.out, List.take_of_length_le (by rw [List.length_zip]; show min 64 _ ≤ 64; omega)]
                rfl
              have q4 : Hid (wr.heap[k4]? = some (.cells (Words (zero8.list)) 41 (0, 0))) := (hBu.out.block k4 (by have := H2.out; omega)).trans g4.out
              have q2 : Hid (wr.heap[k2]? = some (.cells (Words s.list) 41 (0, 0))) := (hBu.out.block k2 (by have := H2.out; omega)).trans g2.out
              have BW4 : Hid (Below w.heap.size w wr) := BW3.out.trans (hBu.out.mono (by have := H2.out; omega))
              obtain ⟨wv, rfl⟩ : ∃ wv : World, wv = wr := ⟨_, rfl⟩
              clear hT hBu g5 g4 g2 gu BW3
              go_wp2_with fail
              go_loopw [176] (fun iv wr => ∃ i : Nat, i ≤ 8 ∧ iv = .int .i64 i ∧ Hid (wr.heap[k2]? = some (.cells (Words (addU s t i)) 41 (0, 0))) ∧ Hid (Fr (fun k => k = k2) wv wr)) (fun iv _ => 8 - (intOf iv).toNat)
              case atStart => exact ⟨0, by omega, rfl, q2.out, Fr.refl _ _⟩
              case round =>
                obtain ⟨i, hi, rfl, hA, hF⟩ := hrel
                by_cases hlt : i < 8
                · obtain ⟨x, y, ey, ex, es⟩ := addU_step s t i hlt
                  have cx := words_cell hA.out ex
                  have cy : wr.cell? ⟨ku, i, none⟩ = some (U y) := hF.out.cell (by have := H2.out; omega) (words_cell hU.out ey)
                  have fz := frozen_of_row wr k2 i _ 41 hA.out
                  have ES := Lib.hid es
                  have hii : (i : Int) < 8 := by omega
                  clear ex ey es
                  go_upto_region 28 with fail
                  go_region
                  go_wp2_with fail
                  go_roundw
                  case rel => exact ⟨i + 1, by omega, by go_num, by rw [← ES.out, ← Words_set]; exact heap_setCell_same _ _ _ _ _ _ hA.out, (hF.out.set _ _ fun _ => rfl).drew⟩
                  case measure => simp [intOf]; omega
                · obtain rfl : i = 8 := by omega
                  have q2' : Hid (wr.heap[k2]? = some (.cells (Words (plus8 s t).list) 41 (0, 0))) := hA.out
                  have q4' : Hid (wr.heap[k4]? = some (.cells (Words zero8.list) 41 (0, 0))) := hF.out.at_ (by have := H2.out; omega) q4.out
                  have BW5 : Hid (Below w.heap.size w wr) := BW4.out.trans (hF.out.toBelow (fun k _ hk => by have := H2.out; omega) BW4.out.size)
                  obtain ⟨wz, rfl⟩ : ∃ wz : World, wz = wr := ⟨_, rfl⟩
                  have HN : Hid (plus8 s t = takeB s blk) := HT2.out.symm
                  obtain ⟨p, hp⟩ : ∃ p, plus8 s t = p := ⟨_, rfl⟩
                  rw [hp] at q2' HN
                  clear hp hA hF q2 q4 BW4 hU HT2
                  obtain ⟨a0, a1, a2, a3, a4, a5, a6, a7⟩ := cells8 q2'.out
                  obtain ⟨z0, z1, z2, z3, z4, z5, z6, z7⟩ := cells8 q4'.out
                  have fz := fun j => frozen_of_row wz k4 j _ 41 q4'.out
                  go_upto_region 30 with fail
                  go_wp2_with fail
                  have hfr := set8_fr wz k4 (U p.a) (U p.b) (U p.c) (U p.d) (U p.e) (U p.f) (U p.g) (U p.h)
                  have hblk : ((((((((wz.setCell ⟨k4, 0, none⟩ (U p.a)).setCell ⟨k4, 1, none⟩ (U p.b)).setCell ⟨k4, 2, none⟩ (U p.c)).setCell ⟨k4, 3, none⟩ (U p.d)).setCell ⟨k4, 4, none⟩ (U p.e)).setCell ⟨k4, 5, none⟩ (U p.f)).setCell ⟨k4, 6, none⟩ (U p.g)).setCell ⟨k4, 7, none⟩ (U p.h)).heap[k4]? = some (.cells (Words p.list) 41 (0, 0)) := set8_words q4'.out rfl
                  generalize ((((((((wz.setCell ⟨k4, 0, none⟩ (U p.a)).setCell ⟨k4, 1, none⟩ (U p.b)).setCell ⟨k4, 2, none⟩ (U p.c)).setCell ⟨k4, 3, none⟩ (U p.d)).setCell ⟨k4, 4, none⟩ (U p.e)).setCell ⟨k4, 5, none⟩ (U p.f)).setCell ⟨k4, 6, none⟩ (U p.g)).setCell ⟨k4, 7, none⟩ (U p.h)) = wf at hfr hblk ⊢
                  clear a0 a1 a2 a3 a4 a5 a6 a7 z0 z1 z2 z3 z4 z5 z6 z7 fz
                  obtain ⟨a0, a1, a2, a3, a4, a5, a6, a7⟩ := cells8 hblk
                  refine bodyPost_ret (v := .agg #[U p.a, U p.b, U p.c, U p.d, U p.e, U p.f, U p.g, U p.h]) (by simp [results, Tryd.results18, go_sem, *]) rfl ⟨?_, ?_⟩
                  · rw [← HN.out]; rfl
                  · exact BW5.out.trans (hfr.toBelow (fun k _ hk => by have := H2.out; omega) BW5.out.size)
end Go.Proofs.YtkhbkckcgfddlaaDoor
