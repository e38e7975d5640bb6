/- The digest: Sum of bytes; states that are not there. -/
import Derived.Test.YtkhbkckcgfddlaaDoorS
namespace Go.Proofs.YtkhbkckcgfddlaaDoor
open Go.RowKit
theorem sha_length (b : List Nat) : (sha b).length = 32 := rfl
theorem BytesAt.below {w w' : World} {pa : Option Addr} {p : List Nat} (h : BytesAt w pa p) (hb : Below w.heap.size w w') : BytesAt w' pa p := by
  rcases h with h | ⟨g, o, ha, hc⟩
  · exact .inl h
  · exact .inr ⟨g, o, ha, fun j x hj => cell_later hb (hc j x hj)⟩
theorem BytesAt.lt {w : World} {pa : Option Addr} {p : List Nat} (h : BytesAt w pa p) (hp : p ≠ []) : ∀ g o, pa = some ⟨g, o, none⟩ → g < w.heap.size := fun g o e => by
  obtain ⟨g', o', ha, hc⟩ := h.resolve_left hp
  rw [ha] at e; cases e
  match p, hp with
  | x :: l, _ => exact World.block_lt_of_cell? w _ (hc 0 x rfl)
theorem info23 (b : List Nat) : (Tryd.prog.info? 23).map (·.size) = some (Bytes (sha b)).size := by rw [Bytes_size, sha_length]; kernel_rfl
theorem size23 (b : List Nat) : (Bytes (List.replicate 32 0)).size = (Bytes (sha b)).size := by rw [Bytes_size, Bytes_size, sha_length]; rfl
set_option maxRecDepth 100000 in
set_option maxHeartbeats 2000000 in
theorem dsum_any (pa : Option Addr) (p : List Nat) (cap : Nat) (w : World) (hp : BytesAt w pa p) (hc : p.length ≤ cap) (ht : TabAt w) (hl : p.length ≤ 100000) :
    Calls Tryd.prog 7 #[.slice pa p.length cap] w fun e w' => e = .returned (.agg (Bytes (sha p))) ∧ Below w.heap.size w w' := by
  have HP := Lib.hid hp
  have HT := Lib.hid ht
  have HL := Lib.hid hl
  clear hp ht hl
  go_enter Tryd.func7, Tryd.ntmps7
  go_upto_region 1 with fail
  have R0 := Lib.hid (heap_alloc_at w (.cells (Bytes (List.replicate 32 0)) 23))
  have B0 := Lib.hid (below_new' w (.cells (Bytes (List.replicate 32 0)) 23))
  have T0 := Lib.hid (HT.out.below B0.out)
  have P0 := Lib.hid (HP.out.below B0.out)
  have e0 : w.alloc (.cells #[.int .u8 0, .int .u8 0, .int .u8 0, .int .u8 0, .int .u8 0, .int .u8 0, .int .u8 0, .int .u8 0, .int .u8 0, .int .u8 0, .int .u8 0, .int .u8 0, .int .u8 0, .int .u8 0, .int .u8 0, .int .u8 0, .int .u8 0, .int .u8 0, .int .u8 0, .int .u8 0, .int .u8 0, .int .u8 0, .int .u8 0, .int .u8 0, .int .u8 0, .int .u8 0, .int .u8 0, .int .u8 0, .int .u8 0, .int .u8 0, .int .u8 0, .int .u8 0] 23) = w.alloc (.cells (Bytes (List.replicate 32 0)) 23) := rfl
  rw [e0]
  clear e0
  generalize w.alloc (.cells (Bytes (List.replicate 32 0)) 23) = w0 at R0 B0 T0 P0 ⊢
  obtain ⟨r0, hr0⟩ : ∃ r0, w.heap.size = r0 := ⟨_, rfl⟩
  have HR0 := Lib.hid hr0
  rw [hr0] at R0 ⊢
  clear hr0
  go_upto_region 3 with (first
    | (go_at_call 12; (with_reducible refine Calls.mono (new_any w0 T0.out.pos) ?_); rintro e w1 ⟨sb, rfl, hs1, hb1, hsb⟩; have S1 := Lib.hid hs1; have B1 := Lib.hid hb1; have HSB := Lib.hid hsb; have R1 := Lib.hid ((hb1.block _ (lt_of_heap R0.out)).trans R0.out); clear hs1 hb1 hsb)
    | (go_at_call 14; (with_reducible refine Calls.mono (write_any sb [] p pa cap w1 S1.out (P0.out.below B1.out) (fun hne g o e => by have := P0.out.lt hne g o e; have := HSB.out; omega) hc (T0.out.below B1.out) (by have := HL.out; simp; omega)) ?_); rintro e w2 ⟨rfl, hs2, hf2⟩; have S2 := Lib.hid hs2; have F2 := Lib.hid hf2; clear hs2 hf2))
  have hne : r0 < sb := by have := lt_of_heap R0.out; have := HSB.out; omega
  have R2 : Hid (w2.heap[r0]? = some (.cells (Bytes (List.replicate 32 0)) 23 (0, 0))) := F2.out.at_ (by omega) R1.out
  have T2 : Hid (TabAt w2) := (T0.out.below B1.out).fr F2.out (by omega)
  have B2 : Hid (Below w.heap.size w w2) := ((B0.out.trans (B1.out.mono B0.out.size))).trans (F2.out.toBelow (fun k _ hk => by have := HSB.out; have := B0.out.size; omega) (Nat.le_trans B0.out.size B1.out.size))
  have SUM : Hid (Calls Tryd.prog 13 #[.pointer (some ⟨sb, 0, none⟩)] w2 fun e w' => e = .returned (.agg (Bytes (sha p))) ∧ Below w2.heap.size w2 w') := sum_any sb p w2 (by simpa using S2.out) T2.out HL.out
  go_wp2_with (first
    | (go_at_call 13; (with_reducible refine Calls.mono SUM.out ?_); rintro e w3 ⟨rfl, hb3⟩; have R3 : Hid (w3.heap[r0]? = some (.cells (Bytes (List.replicate 32 0)) 23 (0, 0))) := (hb3.block _ (lt_of_heap R2.out)).trans R2.out; have B3 := Lib.hid hb3; clear hb3)
    | (with_reducible refine wpList_store_row rfl 23 (.tmp 2) (.tmp 9) rfl r0 (Bytes (sha p)) rfl rfl 23 (Bytes (List.replicate 32 0)) R3.out (info23 p) (size23 p) (Bytes_one _) ?_))
  have hload := run_loadVar_row (P := Tryd.prog) _ r0 23 23 (Bytes (sha p)) (0, 0) _ (setRow_heap w3 r0 _ (Bytes (sha p)) 23 _ R3.out) Tryd.underlying23 rfl (info23 p)
  exact bodyPost_ret (results_cell1 Tryd.results7 _ _ _ rfl hload) rfl ⟨rfl, below_setRow (B2.out.trans (B3.out.mono B2.out.size)) (by have := HR0.out; omega) _⟩

set_option maxRecDepth 100000 in
set_option maxHeartbeats 2000000 in
theorem sum_nil (w : World) (ht : TabAt w) : Calls Tryd.prog 13 #[.pointer none] w fun e w' => e = .returned (.agg (Bytes (sha []))) ∧ Below w.heap.size w w' := by
  have HT := Lib.hid ht
  clear ht
  go_enter Tryd.func13, Tryd.ntmps13
  go_upto_region 1 with fail
  have R0 := Lib.hid (heap_alloc_at w (.cells (Bytes (List.replicate 32 0)) 23))
  have B0 := Lib.hid (below_new' w (.cells (Bytes (List.replicate 32 0)) 23))
  have T0 := Lib.hid (HT.out.below B0.out)
  have e0 : w.alloc (.cells #[.int .u8 0, .int .u8 0, .int .u8 0, .int .u8 0, .int .u8 0, .int .u8 0, .int .u8 0, .int .u8 0, .int .u8 0, .int .u8 0, .int .u8 0, .int .u8 0, .int .u8 0, .int .u8 0, .int .u8 0, .int .u8 0, .int .u8 0, .int .u8 0, .int .u8 0, .int .u8 0, .int .u8 0, .int .u8 0, .int .u8 0, .int .u8 0, .int .u8 0, .int .u8 0, .int .u8 0, .int .u8 0, .int .u8 0, .int .u8 0, .int .u8 0, .int .u8 0] 23) = w.alloc (.cells (Bytes (List.replicate 32 0)) 23) := rfl
  rw [e0]
  clear e0
  generalize w.alloc (.cells (Bytes (List.replicate 32 0)) 23) = w0 at R0 B0 T0 ⊢
  obtain ⟨r0, hr0⟩ : ∃ r0, w.heap.size = r0 := ⟨_, rfl⟩
  have HR0 := Lib.hid hr0
  rw [hr0] at R0 ⊢
  clear hr0
  go_wp2_with (first
    | (go_at_call 12; (with_reducible refine Calls.mono (new_any w0 T0.out.pos) ?_); rintro e w1 ⟨sb, rfl, hs1, hb1, hsb⟩; have S1 := Lib.hid hs1; have B1 := Lib.hid hb1; have R1 := Lib.hid ((hb1.block _ (lt_of_heap R0.out)).trans R0.out); clear hs1 hb1 hsb)
    | (go_at_call 13; (with_reducible refine Calls.mono (sum_any sb [] w1 S1.out (T0.out.below B1.out) (Nat.zero_le _)) ?_); rintro e w3 ⟨rfl, hb3⟩; have R3 : Hid (w3.heap[r0]? = some (.cells (Bytes (List.replicate 32 0)) 23 (0, 0))) := (hb3.block _ (lt_of_heap R1.out)).trans R1.out; have B3 := Lib.hid hb3; clear hb3)
    | (with_reducible refine wpList_store_row rfl 23 (.tmp 2) (.tmp 12) rfl r0 (Bytes (sha [])) rfl rfl 23 (Bytes (List.replicate 32 0)) R3.out (info23 []) (size23 []) (Bytes_one _) ?_))
  have hload := run_loadVar_row (P := Tryd.prog) _ r0 23 23 (Bytes (sha [])) (0, 0) _ (setRow_heap w3 r0 _ (Bytes (sha [])) 23 _ R3.out) Tryd.underlying23 rfl (info23 [])
  exact bodyPost_ret (results_cell1 Tryd.results13 _ _ _ rfl hload) rfl ⟨rfl, below_setRow ((B0.out.trans (B1.out.mono B0.out.size)).trans (B3.out.mono (Nat.le_trans B0.out.size B1.out.size))) (by have := HR0.out; omega) _⟩
theorem write_nil (pa : Option Addr) (n cap : Nat) (w : World) : Calls Tryd.prog 14 #[.pointer none, .slice pa n cap] w fun e w' => e = .returned (.tuple #[]) ∧ w' = w := by
  go_enter Tryd.func14, Tryd.ntmps14
  go_wp2
  exact bodyPost_ret (v := .tuple #[]) (by simp [results, Tryd.results14]) rfl ⟨rfl, rfl⟩
end Go.Proofs.YtkhbkckcgfddlaaDoor
