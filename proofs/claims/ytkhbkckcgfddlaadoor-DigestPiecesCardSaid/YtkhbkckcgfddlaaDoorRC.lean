/- The document's digest: what the eight words are behind a block. -/
import Derived.Test.YtkhbkckcgfddlaaDoorRB
import Derived.StillTailTactics
namespace Go.Proofs.YtkhbkckcgfddlaaDoor
open Go.RowKit
attribute [local go_sem] run_xor run_and run_or run_add run_not
attribute [local go_sem] match_U match_B run_store_U run_store_B conv_b shl_24 shl_16 shl_8 shr_3 shr_10
theorem quiet_n {P : Program} {f : FuncId} {args : Array Value} {w : World} {n : Nat} {v : Value} (h : Calls P f args (w.drewN n) fun e w' => e = .returned v ∧ ∃ m, w' = (w.drewN n).drewN m) : Calls P f args (w.drewN n) fun e w'' => e = .returned v ∧ ∃ k, w'' = w.drewN k :=
  h.mono fun _ _ ⟨he, m, hm⟩ => ⟨he, n + m, by rw [hm, World.drewN_drewN]⟩
theorem own_cells {w : World} {base E n : Nat} {a : Option Addr} {c : Nat} {l : List W32} (h : w.ownsRow base E 1 (.slice a n c) n (l.map U)) (hl : 0 < l.length) : ∃ g, a = some ⟨g, 0, none⟩ ∧ base ≤ g ∧ ∀ i x, l[i]? = some x → w.cell? ⟨g, i, none⟩ = some (U x) := by
  obtain ⟨g, ha, hg, _⟩ := own_cell (i := 0) (x := U (l[0])) h (by rw [List.getElem?_map, List.getElem?_eq_getElem hl]; rfl)
  refine ⟨g, ha, hg, fun i x hx => ?_⟩
  obtain ⟨g', ha', _, hc⟩ := own_cell (i := i) (x := U x) h (by rw [List.getElem?_map, hx]; rfl)
  rw [ha] at ha'; cases ha'
  exact hc
theorem blockW_length {blk : List Nat} (h : blk.length = 64) : (blockW blk).length = 64 := by unfold blockW; rw [sched_length, words16_length 16 blk h]
def TakenPost (v : Eight) (w : World) (e : Ending) (w' : World) : Prop := ∃ g, e = .returned (.slice (some ⟨g, 0, none⟩) 8 8) ∧ w'.heap[g]? = some (.cells (Words v.list) 34 (0, 0)) ∧ w.heap.size ≤ g ∧ Below w.heap.size w w'
set_option maxRecDepth 100000 in
set_option maxHeartbeats 4000000 in
theorem taken_any (s : Eight) (gl bb bo cap : Nat) (blk : List Nat) (w : World) (hl : blk.length = 64) (hs : w.heap[gl]? = some (.cells (Words s.list) 34 (0, 0))) (hb : ∀ (j : Nat) (x : Nat), blk[j]? = some x → w.cell? ⟨bb, bo + j, none⟩ = some (B x)) :
    Calls Tryd.prog 16 #[.slice (some ⟨gl, 0, none⟩) 8 8, .slice (some ⟨bb, bo, none⟩) 64 cap] w (TakenPost (takeB s blk) w) := by
  have HL := Lib.hid hl
  have HB := Lib.hid hb
  have HS := Lib.hid hs
  clear hl hb hs
  go_enter Tryd.func16, Tryd.ntmps16
  have hsl : gl < w.heap.size := lt_of_heap HS.out
  go_upto_region 2 with (first
    | (go_at_call 19; (with_reducible refine Calls.mono (constants_any w) ?_); rintro e w1 ⟨rfl, hw1⟩; have HK : Hid (∀ (i : Nat) (k : W32), tableK[i]? = some k → w1.cell? ⟨w.heap.size, i, none⟩ = some (U k)) := (fun i k hk => (by rw [hw1]; exact words_cell (heap_alloc_at w _) hk)); have B1 : Hid (Below w.heap.size w w1) := (by rw [hw1]; exact below_new' w _); have Z1 : w.heap.size < w1.heap.size := (by rw [hw1]; simp); clear hw1)
    | (go_at_call 20; ((with_reducible refine Calls.mono (words_any bb bo cap blk w1 HL.out (fun j x hj => cell_later B1.out (HB.out j x hj))) ?_); rintro e w2 ⟨v, rfl, hown, hb2⟩; obtain ⟨av, cv, rfl⟩ := own_slice hown; have hlen : 0 < (blockW blk).length := (by rw [blockW_length HL.out]; omega); obtain ⟨gw, rfl, hgw, hcw⟩ := own_cells hown hlen; have HW := Lib.hid hcw; have B2 := Lib.hid hb2; have OWN := Lib.hid hown; clear hcw hb2 hown hlen)))
  have HS2 : Hid (w2.heap[gl]? = some (.cells (Words s.list) 34 (0, 0))) := (B2.out.block gl (by omega)).trans ((B1.out.block gl hsl).trans HS.out)
  have BW2 : Hid (Below w.heap.size w w2) := B1.out.trans (B2.out.mono B1.out.size)
  have HK2 : Hid (∀ (i : Nat) (k : W32), tableK[i]? = some k → w2.cell? ⟨w.heap.size, i, none⟩ = some (U k)) := fun i k hk => cell_later B2.out (HK.out i k hk)
  have hbw := blockW_length HL.out
  have HBW := Lib.hid hbw
  obtain ⟨a0, a1, a2, a3, a4, a5, a6, a7⟩ := cells8 HS2.out
  clear hbw
  go_quiet (fail)
  clear a0 a1 a2 a3 a4 a5 a6 a7
  go_wp2_with fail
  go_loopw [7, 8, 9, 10, 11, 12, 13, 14, 15] (fun va vb vc vd ve vf vg vh iv wr => ∃ (i : Nat) (t : Eight), i ≤ 64 ∧ va = U t.a ∧ vb = U t.b ∧ vc = U t.c ∧ vd = U t.d ∧ ve = U t.e ∧ vf = U t.f ∧ vg = U t.g ∧ vh = U t.h ∧ iv = .int .i64 i ∧ Hid (t = roundsN ((tableK.zip (blockW blk)).take i) s) ∧ Hid (Below w2.heap.size w2 wr)) (fun _ _ _ _ _ _ _ _ iv _ => 64 - (intOf iv).toNat)
  case atStart => exact ⟨0, s, by omega, rfl, rfl, rfl, rfl, rfl, rfl, rfl, rfl, rfl, rfl, below_drewN (Below.refl _ _) _⟩
  case round =>
    obtain ⟨i, t, hi, rfl, rfl, rfl, rfl, rfl, rfl, rfl, rfl, rfl, hT, hBr⟩ := hrel
    by_cases hlt : i < 64
    · obtain ⟨kk, ek⟩ : ∃ x, tableK[i]? = some x := ⟨_, List.getElem?_eq_getElem (by show i < 64; omega)⟩
      obtain ⟨wi, ew⟩ : ∃ x, (blockW blk)[i]? = some x := ⟨_, List.getElem?_eq_getElem (by rw [HBW.out]; omega)⟩
      have ct : wr.cell? ⟨w.heap.size, i, none⟩ = some (U kk) := cell_later hBr.out (HK2.out i kk ek)
      have cw : wr.cell? ⟨gw, i, none⟩ = some (U wi) := cell_later hBr.out (HW.out i wi ew)
      have HN : Hid (roundsN ((tableK.zip (blockW blk)).take (i + 1)) s = round1 t kk wi) := by
        show _ = _
        rw [hT.out]
        refine roundsN_step s ?_
        rw [List.getElem?_zip_eq_some]
        exact ⟨ek, ew⟩
      have hii : (i : Int) < 64 := by omega
      clear ek ew
      go_upto_region 6 with fail
      go_quiet (first
        | (go_at_call 21; with_reducible refine quiet_n (turn_6 t.e _))
        | (go_at_call 21; with_reducible refine quiet_n (turn_11 t.e _))
        | (go_at_call 21; with_reducible refine quiet_n (turn_25 t.e _)))
      go_wp2_with (first
        | (go_at_call 21; (with_reducible refine Calls.mono (turn_2 t.a _) ?_); rintro e w8 ⟨rfl, m1, rfl⟩)
        | (go_at_call 21; (with_reducible refine Calls.mono (turn_13 t.a _) ?_); rintro e w8 ⟨rfl, m2, rfl⟩)
        | (go_at_call 21; (with_reducible refine Calls.mono (turn_22 t.a _) ?_); rintro e w8 ⟨rfl, m3, rfl⟩))
      go_roundw
      case rel => exact ⟨i + 1, round1 t kk wi, by omega, rfl, rfl, rfl, rfl, rfl, rfl, rfl, rfl, by go_num, HN.out.symm, below_drewN hBr.out _⟩
      case measure => simp [intOf]; omega
    · obtain rfl : i = 64 := by omega
      have HT2 : Hid (plus8 s t = takeB s blk) := by
        show _ = _
        rw [hT.out, List.take_of_length_le (by rw [List.length_zip]; show min 64 _ ≤ 64; omega)]
        rfl
      obtain ⟨a0, a1, a2, a3, a4, a5, a6, a7⟩ := cells8 ((hBr.out.block gl (lt_of_heap HS2.out)).trans HS2.out)
      have BW4 : Hid (Below w.heap.size w wr) := BW2.out.trans (hBr.out.mono BW2.out.size)
      clear hT hBr
      go_upto_region 9 with fail
      go_still_tail 40, (by kernel_rfl)
      change wpList _ _ _ _ _ wr.drew
      have BD := Lib.hid BW4.out.drew
      have HD : Hid (wr.drew.heap.size = wr.heap.size) := rfl
      generalize wr.drew = w5 at BD HD ⊢
      go_wp2_with fail
      go_ret
      refine ⟨w5.heap.size, rfl, ?_, BD.out.size, ?_⟩
      · rw [← HT2.out]; exact heap_alloc_at w5 _
      · exact BD.out.alloc BD.out.size _
end Go.Proofs.YtkhbkckcgfddlaaDoor
