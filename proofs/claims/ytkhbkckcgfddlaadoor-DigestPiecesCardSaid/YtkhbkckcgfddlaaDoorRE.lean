/- The document's digest: Sum. -/
import Derived.Test.YtkhbkckcgfddlaaDoorRD
namespace Go.Proofs.YtkhbkckcgfddlaaDoor
open Go.RowKit
attribute [local go_sem] match_U match_B run_store_U run_store_B conv_u ishr_0 ishr_8 ishr_16 ishr_24
theorem first8_val : #[.int .u32 1779033703, .int .u32 3144134277, .int .u32 1013904242, .int .u32 2773480762, .int .u32 1359893119, .int .u32 2600822924, .int .u32 528734635, .int .u32 1541459225] = Words first8.list := by kernel_rfl
theorem own_bytes {w : World} {base n : Nat} {a : Option Addr} {c : Nat} {l : List Nat} (h : w.ownsRow base 5 1 (.slice a n c) n (l.map B)) (hl : 0 < l.length) : ∃ g, a = some ⟨g, 0, none⟩ ∧ base ≤ g ∧ n ≤ c ∧ ∀ i x, l[i]? = some x → w.cell? ⟨g, i, none⟩ = some (B x) := by
  obtain ⟨g, ha, hg, _⟩ := own_cell (i := 0) (x := B (l[0])) h (by rw [List.getElem?_map, List.getElem?_eq_getElem hl]; rfl)
  have hlen := h.1
  rw [List.length_map] at hlen
  have hc : n ≤ c := by
    rcases h.2 with ⟨_, h0⟩ | ⟨g', cap, cur, hv, _, _, hc, _⟩
    · omega
    · cases hv; exact hc
  refine ⟨g, ha, hg, hc, fun i x hx => ?_⟩
  obtain ⟨g', ha', _, hc⟩ := own_cell (i := i) (x := B x) h (by rw [List.getElem?_map, hx]; rfl)
  rw [ha] at ha'; cases ha'
  exact hc
theorem takeN_next (k : Nat) (s : Eight) (b : List Nat) : takeN (k + 1) s b = takeB (takeN k s b) ((b.drop (64 * k)).take 64) := by
  rw [takeN_add]; rfl
set_option maxRecDepth 100000 in
set_option maxHeartbeats 4000000 in
theorem rsum_any (pa : Option Addr) (p : List Nat) (cap : Nat) (w : World) (hp : BytesAt w pa p) (hl : p.length ≤ 100000) :
    Calls Tryd.prog 8 #[.slice pa p.length cap] w fun e w' => e = .returned (.agg (Bytes (sha p))) ∧ Below w.heap.size w w' := by
  have HP := Lib.hid hp
  have HL := Lib.hid hl
  clear hp hl
  go_enter Tryd.func8, Tryd.ntmps8
  go_upto_region 1 with fail
  have R0 := Lib.hid (heap_alloc_at w (.cells (Bytes (List.replicate 32 0)) 23))
  have B0 := Lib.hid (below_new' w (.cells (Bytes (List.replicate 32 0)) 23))
  have P0 := Lib.hid (HP.out.below B0.out)
  have e0 : w.alloc (.cells #[.int .u8 0, .int .u8 0, .int .u8 0, .int .u8 0, .int .u8 0, .int .u8 0, .int .u8 0, .int .u8 0, .int .u8 0, .int .u8 0, .int .u8 0, .int .u8 0, .int .u8 0, .int .u8 0, .int .u8 0, .int .u8 0, .int .u8 0, .int .u8 0, .int .u8 0, .int .u8 0, .int .u8 0, .int .u8 0, .int .u8 0, .int .u8 0, .int .u8 0, .int .u8 0, .int .u8 0, .int .u8 0, .int .u8 0, .int .u8 0, .int .u8 0, .int .u8 0] 23) = w.alloc (.cells (Bytes (List.replicate 32 0)) 23) := rfl
  rw [e0]
  clear e0
  generalize w.alloc (.cells (Bytes (List.replicate 32 0)) 23) = w0 at R0 B0 P0 ⊢
  obtain ⟨r0, hr0⟩ : ∃ r0, w.heap.size = r0 := ⟨_, rfl⟩
  have HR0 := Lib.hid hr0
  rw [hr0] at R0 ⊢
  clear hr0
  go_upto_region 2 with fail
  rw [first8_val]
  have G1 := Lib.hid (heap_alloc_at w0 (.cells (Words first8.list) 34))
  have B1 := Lib.hid (below_new' w0 (.cells (Words first8.list) 34))
  have P1 := Lib.hid (P0.out.below B1.out)
  have R1 : Hid ((w0.alloc (.cells (Words first8.list) 34)).heap[r0]? = some (.cells (Bytes (List.replicate 32 0)) 23 (0, 0))) := (B1.out.block _ (lt_of_heap R0.out)).trans R0.out
  have hr1 : r0 < w0.heap.size := lt_of_heap R0.out
  generalize w0.alloc (.cells (Words first8.list) 34) = w1 at G1 B1 P1 R1 ⊢
  obtain ⟨g0, hg0⟩ : ∃ g0, w0.heap.size = g0 := ⟨_, rfl⟩
  have HG0 := Lib.hid hg0
  rw [hg0] at G1 hr1 ⊢
  clear hg0
  go_wp2_with (go_at_call 15; (with_reducible refine Calls.mono (filled_any pa p cap w1 P1.out HL.out) ?_); rintro e w2 ⟨a2, c2, rfl, ho2, hb2⟩; have O2 := Lib.hid ho2; have B2 := Lib.hid hb2; clear ho2 hb2)
  obtain ⟨F, hF⟩ : ∃ F, filled p = F := ⟨_, rfl⟩
  obtain ⟨Q, hQ⟩ : ∃ Q, (p.length + 72) / 64 = Q := ⟨_, rfl⟩
  have hFl := filled_length p
  rw [hF, hQ] at hFl
  have HFL := Lib.hid hFl
  have hQb : Q ≤ 2000 := by have := HL.out; omega
  have hQ1 : 1 ≤ Q := by omega
  have HSHA : Hid (sha p = sumOf (takeN Q first8 F)) := by show _ = _; unfold sha; rw [hF, hQ]
  rw [hF] at O2 ⊢
  have O2' : Hid (w2.ownsRow w1.heap.size 5 1 (.slice a2 (64 * Q) c2) (64 * Q) (F.map B)) := by have := O2.out; unfold Own at this; rw [hFl] at this; exact this
  rw [hFl]
  obtain ⟨gf, ha2, hgf, hc2, hcf⟩ := own_bytes O2'.out (by omega)
  subst ha2
  have HCF := Lib.hid hcf
  have hc2i : 64 * (Q : Int) ≤ (c2 : Int) := by omega
  clear hF hQ hFl hcf
  have G2 : Hid (w2.heap[g0]? = some (.cells (Words first8.list) 34 (0, 0))) := (B2.out.block _ (lt_of_heap G1.out)).trans G1.out
  have R2 : Hid (w2.heap[r0]? = some (.cells (Bytes (List.replicate 32 0)) 23 (0, 0))) := (B2.out.block _ (lt_of_heap R1.out)).trans R1.out
  have hr2 : r0 < w2.heap.size := lt_of_heap R2.out
  have BW2 : Hid (Below w.heap.size w w2) := (B0.out.trans (B1.out.mono B0.out.size)).trans (B2.out.mono (Nat.le_trans B0.out.size B1.out.size))
  have hcast : ((64 * Q : Nat) : Int) = 64 * (Q : Int) := by omega
  go_loopw [3, 5] (fun lv iv wr => ∃ (k gl : Nat), k ≤ Q ∧ lv = .slice (some ⟨gl, 0, none⟩) 8 8 ∧ iv = .int .i64 (64 * (k : Int)) ∧ Hid (wr.heap[gl]? = some (.cells (Words (takeN k first8 F).list) 34 (0, 0))) ∧ Hid (Below w2.heap.size w2 wr)) (fun _ iv _ => 64 * Q - (intOf iv).toNat)
  case atStart => exact ⟨0, g0, by omega, rfl, rfl, G2.out, Below.refl _ _⟩
  case round =>
    obtain ⟨k, gl, hk, rfl, rfl, hG, hB⟩ := hrel
    have hBs := hB.out.size
    by_cases hlt : k < Q
    · have hblk : ((F.drop (64 * k)).take 64).length = 64 := by rw [List.length_take, List.length_drop, HFL.out]; omega
      have TK := Lib.hid (taken_any (takeN k first8 F) gl gf (64 * k) (c2 - 64 * k) ((F.drop (64 * k)).take 64) wr hblk hG.out (fun j x hj => by
        have hj64 : j < 64 := by have := (List.getElem?_eq_some_iff.1 hj).1; omega
        rw [List.getElem?_take, if_pos hj64, List.getElem?_drop] at hj
        exact cell_later hB.out (HCF.out _ _ hj)))
      rw [← takeN_next] at TK
      have hki : (k : Int) < (Q : Int) := by omega
      have h1 : 64 * (k : Int) < 64 * (Q : Int) := by omega
      have h2 : 64 * (k : Int) + 64 ≤ (c2 : Int) := by omega
      have h3 : (64 * (k : Int)).toNat = 64 * k := by omega
      have h4 : (64 * (k : Int) + 64).toNat = 64 * k + 64 := by omega
      have h5 : ¬ (c2 = 64 * k) := by omega
      have h6 : 64 * k + 64 - 64 * k = 64 := by omega
      clear hblk
      go_wp2_with (go_at_call 16; ((with_reducible refine Calls.mono TK.out ?_); rintro e w3 ⟨g3, rfl, hg3, hle3, hb3⟩; have G3 := Lib.hid hg3; have B3 := Lib.hid hb3; clear hg3 hb3))
      go_roundw
      case rel => exact ⟨k + 1, g3, by omega, rfl, by congr 1 <;> omega, G3.out, hB.out.trans (B3.out.mono hBs)⟩
      case measure => simp [intOf]; omega
    · obtain rfl : k = Q := by omega
      obtain ⟨w6, rfl⟩ : ∃ w6 : World, w6 = wr := ⟨_, rfl⟩
      have R6 : Hid (w6.heap[r0]? = some (.cells (Bytes (List.replicate 32 0)) 23 (0, 0))) := (hB.out.block _ hr2).trans R2.out
      have BW6 : Hid (Below w.heap.size w w6) := BW2.out.trans (hB.out.mono BW2.out.size)
      have hr6 : r0 < w6.heap.size := lt_of_heap R6.out
      obtain ⟨V, hV⟩ : ∃ V, takeN k first8 F = V := ⟨_, rfl⟩
      rw [hV] at HSHA hG
      clear hV hB
      have hki : ¬ (k : Int) < (k : Int) := by omega
      go_upto_region 8 with fail
      have G7 := Lib.hid (heap_alloc_at w6 (.cells (Bytes (PB [] 32)) 23))
      have B7 := Lib.hid (below_new' w6 (.cells (Bytes (PB [] 32)) 23))
      have e0 : w6.alloc (.cells #[.int .u8 0, .int .u8 0, .int .u8 0, .int .u8 0, .int .u8 0, .int .u8 0, .int .u8 0, .int .u8 0, .int .u8 0, .int .u8 0, .int .u8 0, .int .u8 0, .int .u8 0, .int .u8 0, .int .u8 0, .int .u8 0, .int .u8 0, .int .u8 0, .int .u8 0, .int .u8 0, .int .u8 0, .int .u8 0, .int .u8 0, .int .u8 0, .int .u8 0, .int .u8 0, .int .u8 0, .int .u8 0, .int .u8 0, .int .u8 0, .int .u8 0, .int .u8 0] 23) = w6.alloc (.cells (Bytes (PB [] 32)) 23) := rfl
      rw [e0]
      clear e0
      have ho7 : gl < w6.heap.size := lt_of_heap hG.out
      have R7 : Hid ((w6.alloc (.cells (Bytes (PB [] 32)) 23)).heap[r0]? = some (.cells (Bytes (List.replicate 32 0)) 23 (0, 0))) := (B7.out.block _ hr6).trans R6.out
      have GL7 : Hid ((w6.alloc (.cells (Bytes (PB [] 32)) 23)).heap[gl]? = some (.cells (Words V.list) 34 (0, 0))) := (B7.out.block _ ho7).trans hG.out
      have BW7 : Hid (Below w.heap.size w (w6.alloc (.cells (Bytes (PB [] 32)) 23))) := BW6.out.trans (B7.out.mono BW6.out.size)
      clear hG
      generalize w6.alloc (.cells (Bytes (PB [] 32)) 23) = w7 at G7 R7 GL7 BW7 ⊢
      have hwz : Hid (w.heap.size ≤ w6.heap.size) := BW6.out.size
      clear B7 BW6 R6
      generalize w6.heap.size = o7 at G7 ho7 hr6 hwz ⊢
      go_wp2_with fail
      go_loopw [7] (fun iv wr => ∃ i : Nat, i ≤ 32 ∧ iv = .int .i64 i ∧ Hid (wr.heap[o7]? = some (.cells (Bytes (PB ((sumOf V).take i) 32)) 23 (0, 0))) ∧ Hid (Below o7 w7 wr)) (fun iv _ => 32 - (intOf iv).toNat)
      case atStart => exact ⟨0, by omega, rfl, G7.out, Below.refl _ _⟩
      case round =>
        obtain ⟨i, hi, rfl, hW, hBB⟩ := hrel
        by_cases hlt : i < 32
        · obtain ⟨q, hqi⟩ : ∃ q, i / 4 = q := ⟨_, rfl⟩
          obtain ⟨x, hq⟩ : ∃ x, V.list[q]? = some x := ⟨_, List.getElem?_eq_getElem (show q < 8 by omega)⟩
          have hqI : (i : Int) / 4 = (q : Int) := by omega
          have hq8 : (q : Int) < 8 := by omega
          have cx : wr.cell? ⟨gl, q, none⟩ = some (U x) := by
            refine (hBB.out.cell (p := ⟨gl, q, none⟩) ho7).trans ?_
            exact words_cell GL7.out hq
          have htl : ((sumOf V).take i).length = i := by rw [List.length_take, sumOf_length]; omega
          have c0 := pb_next hW.out htl hlt
          have HTL := Lib.hid htl
          have fz := frozen_of_row wr o7 i _ 23 hW.out
          have hii : (i : Int) < 32 := by omega
          clear htl
          have hc4 : i % 4 = 0 ∨ i % 4 = 1 ∨ i % 4 = 2 ∨ i % 4 = 3 := by omega
          rcases hc4 with hc4 | hc4 | hc4 | hc4
          · have hx := (flat4_at V.list q x 0 hq (by omega))
            have hxx : Hid ((sumOf V)[i]? = some ((x >>> 24).toNat % 256)) := by show (V.list.flatMap bytes4)[i]? = _; rw [show i = 4 * q + 0 by omega, hx]; rfl
            have hr : (i : Int) % 4 = 0 := by omega
            clear hx
            go_wp2_with fail
            go_roundw
            case rel => exact ⟨i + 1, by omega, by go_num, by rw [take_nextB hxx.out]; exact pb_store _ hW.out HTL.out hlt, hBB.out.setCell (p := ⟨o7, i, none⟩) (Nat.le_refl _) _⟩
            case measure => simp [intOf]; omega
          · have hx := (flat4_at V.list q x 1 hq (by omega))
            have hxx : Hid ((sumOf V)[i]? = some ((x >>> 16).toNat % 256)) := by show (V.list.flatMap bytes4)[i]? = _; rw [show i = 4 * q + 1 by omega, hx]; rfl
            have hr : (i : Int) % 4 = 1 := by omega
            clear hx
            go_wp2_with fail
            go_roundw
            case rel => exact ⟨i + 1, by omega, by go_num, by rw [take_nextB hxx.out]; exact pb_store _ hW.out HTL.out hlt, hBB.out.setCell (p := ⟨o7, i, none⟩) (Nat.le_refl _) _⟩
            case measure => simp [intOf]; omega
          · have hx := (flat4_at V.list q x 2 hq (by omega))
            have hxx : Hid ((sumOf V)[i]? = some ((x >>> 8).toNat % 256)) := by show (V.list.flatMap bytes4)[i]? = _; rw [show i = 4 * q + 2 by omega, hx]; rfl
            have hr : (i : Int) % 4 = 2 := by omega
            clear hx
            go_wp2_with fail
            go_roundw
            case rel => exact ⟨i + 1, by omega, by go_num, by rw [take_nextB hxx.out]; exact pb_store _ hW.out HTL.out hlt, hBB.out.setCell (p := ⟨o7, i, none⟩) (Nat.le_refl _) _⟩
            case measure => simp [intOf]; omega
          · have hx := (flat4_at V.list q x 3 hq (by omega))
            have hxx : Hid ((sumOf V)[i]? = some ((x >>> 0).toNat % 256)) := by show (V.list.flatMap bytes4)[i]? = _; rw [show i = 4 * q + 3 by omega, hx]; simp [bytes4]
            have hr : (i : Int) % 4 = 3 := by omega
            clear hx
            go_wp2_with fail
            go_roundw
            case rel => exact ⟨i + 1, by omega, by go_num, by rw [take_nextB hxx.out]; exact pb_store _ hW.out HTL.out hlt, hBB.out.setCell (p := ⟨o7, i, none⟩) (Nat.le_refl _) _⟩
            case measure => simp [intOf]; omega
        · obtain rfl : i = 32 := by omega
          have hW' : Hid (wr.heap[o7]? = some (.cells (Bytes (sha p)) 23 (0, 0))) := by
            have := hW.out
            rw [List.take_of_length_le (by rw [sumOf_length]; omega)] at this
            rw [show PB (sumOf V) 32 = sumOf V by unfold PB; rw [sumOf_length]; simp, ← HSHA.out] at this
            exact this
          have hl32 : (sha p).length = 32 := by rw [HSHA.out]; exact sumOf_length V
          have I23 : Hid ((Tryd.prog.info? 23).map (·.size) = some (Bytes (sha p)).size) := by show _ = _; rw [Bytes_size, hl32]; kernel_rfl
          have HOLD : Hid ((Bytes (List.replicate 32 0)).size = (Bytes (sha p)).size) := by show _ = _; rw [Bytes_size, Bytes_size, hl32]; rfl
          have RR : Hid (wr.heap[r0]? = some (.cells (Bytes (List.replicate 32 0)) 23 (0, 0))) := (hBB.out.block r0 hr6).trans R7.out
          have BF : Hid (Below w.heap.size w (wr.setRow r0 (Bytes (sha p)))) := by
            have h2 : Below w.heap.size w wr := BW7.out.trans (hBB.out.mono hwz.out)
            exact below_setRow h2 (by have := HR0.out; omega) _
          have HG : Hid ((wr.setRow r0 (Bytes (sha p))).heap[r0]? = some (.cells (Bytes (sha p)) 23 (0, 0))) := setRow_heap wr r0 _ _ 23 _ RR.out
          have HON := Lib.hid (Bytes_one (sha p))
          clear hl32 hW hBB
          go_wp2_with (first
            | (with_reducible refine wpList_load_row rfl 23 (.tmp 6) rfl o7 (Bytes (sha p)) 23 (0, 0) _ rfl hW'.out Tryd.underlying23 rfl I23.out ?_)
            | (with_reducible refine wpList_store_row rfl 23 (.tmp 2) (.tmp 41) rfl r0 (Bytes (sha p)) rfl rfl 23 (Bytes (List.replicate 32 0)) RR.out I23.out HOLD.out HON.out ?_))
          have hload := run_loadVar_row (P := Tryd.prog) _ r0 23 23 (Bytes (sha p)) (0, 0) _ HG.out Tryd.underlying23 rfl I23.out
          exact bodyPost_ret (results_cell1 Tryd.results8 _ _ _ rfl hload) rfl ⟨rfl, BF.out⟩
end Go.Proofs.YtkhbkckcgfddlaaDoor
