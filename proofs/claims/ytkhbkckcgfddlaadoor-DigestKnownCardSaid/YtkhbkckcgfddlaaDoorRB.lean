/- The document's digest: words. -/
import Derived.Test.YtkhbkckcgfddlaaDoorRA
namespace Go.Proofs.YtkhbkckcgfddlaaDoor
open Go.RowKit
attribute [local go_sem] run_xor run_and run_or run_add run_not
attribute [local go_sem] match_U match_B run_store_U run_store_B conv_b shl_24 shl_16 shl_8 shr_3 shr_10
theorem ownsRow_blocks {w w' : World} {base E size n : Nat} {v : Value} {xs : List Value} (h : w.ownsRow base E size v n xs) (hk : ∀ g, v.ownBlock = some g → w'.heap[g]? = w.heap[g]?) (_hz : w.heap.size ≤ w'.heap.size) : w'.ownsRow base E size v n xs := by
  refine ⟨h.1, ?_⟩
  rcases h.2 with h0 | ⟨g, cap, cur, hv, hg, hh, hrest⟩
  · exact .inl h0
  · exact .inr ⟨g, cap, cur, hv, hg, by rw [hk g (by rw [hv]; rfl)]; exact hh, hrest⟩
theorem own_below {w w' : World} {base E size n : Nat} {v : Value} {xs : List Value} (h : w.ownsRow base E size v n xs) (hb : Below w.heap.size w w') : w'.ownsRow base E size v n xs := ownsRow_blocks h (fun g hg => hb.block g (h.lt g hg).2) hb.size
theorem own_slice {w : World} {base E size n : Nat} {v : Value} {xs : List Value} (h : w.ownsRow base E size v n xs) : ∃ a c, v = .slice a n c := by
  rcases h.2 with ⟨h, h'⟩ | ⟨g, cap, cur, h, _⟩
  · exact ⟨none, 0, by rw [h, h']⟩
  · exact ⟨_, _, h⟩
/-- a cell of an own row -/
theorem own_cell {w : World} {base E n : Nat} {a : Option Addr} {c : Nat} {xs : List Value} {i : Nat} {x : Value} (h : w.ownsRow base E 1 (.slice a n c) n xs) (hx : xs[i]? = some x) : ∃ g, a = some ⟨g, 0, none⟩ ∧ base ≤ g ∧ w.cell? ⟨g, i, none⟩ = some x := by
  have hi := (List.getElem?_eq_some_iff.1 hx).1
  have hl := h.1
  rcases h.2 with ⟨_, h0⟩ | ⟨g, cap, cur, hv, hg, hh, _, _, _, ht⟩
  · omega
  · cases hv
    refine ⟨g, rfl, hg, ?_⟩
    rw [cell_of_row _ _ _ _ _ _ hh]
    have : (cur.toList.take (n * 1))[i]? = some x := by rw [ht]; exact hx
    rw [List.getElem?_take, if_pos (by omega), Array.getElem?_toList] at this
    exact this
theorem own_heap {w w' : World} {base E size n : Nat} {v : Value} {xs : List Value} (h : w.ownsRow base E size v n xs) (hw : w'.heap = w.heap) : w'.ownsRow base E size v n xs := ownsRow_blocks h (fun g _ => by rw [hw]) (by rw [hw]; exact Nat.le_refl _)
theorem map_next {l : List W32} {i : Nat} {x : W32} (h : l[i]? = some x) : (l.take (i + 1)).map U = (l.take i).map U ++ [U x] := by rw [take_next h, List.map_append]; rfl
theorem U_one (l : List W32) : ∀ u ∈ l.map U, u.oneCell' = true := fun u hu => by obtain ⟨x, _, rfl⟩ := List.mem_map.1 hu; rfl
theorem B_one (l : List Nat) : ∀ u ∈ l.map B, u.oneCell' = true := fun u hu => by obtain ⟨x, _, rfl⟩ := List.mem_map.1 hu; rfl
theorem keep4 {w W : World} {p0 p1 p2 p3 : Nat} {g : Nat} {v0 v1 v2 v3 : Value} (hb : Below w.heap.size w W) (h0 : w.cell? ⟨g, p0, none⟩ = some v0) (h1 : w.cell? ⟨g, p1, none⟩ = some v1) (h2 : w.cell? ⟨g, p2, none⟩ = some v2) (h3 : w.cell? ⟨g, p3, none⟩ = some v3) : Below w.heap.size w W ∧ W.cell? ⟨g, p0, none⟩ = some v0 ∧ W.cell? ⟨g, p1, none⟩ = some v1 ∧ W.cell? ⟨g, p2, none⟩ = some v2 ∧ W.cell? ⟨g, p3, none⟩ = some v3 :=
  ⟨hb, cell_later hb h0, cell_later hb h1, cell_later hb h2, cell_later hb h3⟩
def WordsPost (blk : List Nat) (w : World) (e : Ending) (w' : World) : Prop := ∃ v, e = .returned v ∧ w'.ownsRow w.heap.size 34 1 v 64 ((blockW blk).map U) ∧ Below w.heap.size w w'
set_option maxRecDepth 100000 in
set_option maxHeartbeats 4000000 in
theorem words_any (bb bo cap : Nat) (blk : List Nat) (w : World) (hl : blk.length = 64) (hb : ∀ (j : Nat) (x : Nat), blk[j]? = some x → w.cell? ⟨bb, bo + j, none⟩ = some (B x)) :
    Calls Tryd.prog 20 #[.slice (some ⟨bb, bo, none⟩) 64 cap] w (WordsPost blk w) := by
  have HL := Lib.hid hl
  have hbl : bb < w.heap.size := World.block_lt_of_cell? w _ (hb 0 _ (List.getElem?_eq_getElem (by omega)))
  have HB := Lib.hid hb
  have HW16 := Lib.hid (words16_length 16 blk hl)
  clear hl hb
  obtain ⟨i0, hi0, hz0, hz1, hz2⟩ := info_parts info34
  go_enter Tryd.func20, Tryd.ntmps20
  go_wp2_with fail
  go_loopw [3, 4] (fun ov iv wr => ∃ (q : Nat) (a0 : Option Addr) (c0 : Nat), q ≤ 16 ∧ iv = .int .i64 (4 * (q : Int)) ∧ ov = .slice a0 q c0 ∧ Hid (wr.ownsRow w.heap.size 34 1 (.slice a0 q c0) q (((words16 blk).take q).map U)) ∧ Hid (Below w.heap.size w wr)) (fun _ iv _ => 64 - (intOf iv).toNat)
  case atStart => exact ⟨0, none, 0, by omega, rfl, rfl, World.ownsRow_nil _ _ _ _, Below.refl _ _⟩
  case round =>
    obtain ⟨q, a0, c0, hq, rfl, rfl, hown, hB⟩ := hrel
    by_cases hlt : q < 16
    · have hL := HL.out
      obtain ⟨x0, e0⟩ : ∃ x, blk[4 * q]? = some x := ⟨_, List.getElem?_eq_getElem (by omega)⟩
      obtain ⟨x1, e1⟩ : ∃ x, blk[4 * q + 1]? = some x := ⟨_, List.getElem?_eq_getElem (by omega)⟩
      obtain ⟨x2, e2⟩ : ∃ x, blk[4 * q + 2]? = some x := ⟨_, List.getElem?_eq_getElem (by omega)⟩
      obtain ⟨x3, e3⟩ : ∃ x, blk[4 * q + 3]? = some x := ⟨_, List.getElem?_eq_getElem (by omega)⟩
      have C0 := Lib.hid (HB.out _ _ e0)
      have C1 := Lib.hid (HB.out _ _ e1)
      have C2 := Lib.hid (HB.out _ _ e2)
      have C3 := Lib.hid (HB.out _ _ e3)
      have HE := Lib.hid (words16_at q blk x0 x1 x2 x3 e0 e1 e2 e3)
      clear e0 e1 e2 e3 hL
      have hii : (q : Int) < 16 := by omega
      have hBs := hB.out.size
      have hBw := Lib.hid hB.out
      have hq60 : 4 * (q : Int) + 3 < 64 := by omega
      go_upto_region 5 with fail
      have hB' := hB.out
      have HOWN : Hid ((wr.drew.alloc (.cells #[U (wordOf x0 x1 x2 x3)] 34)).ownsRow w.heap.size 34 1 (.slice a0 q c0) q (((words16 blk).take q).map U)) := (hown.out.drew).alloc _
      have n1 : 0 ≤ 4 * (q : Int) + 1 := by omega
      have m1 : 4 * (q : Int) + 1 < 64 := by omega
      have v1 : IntKind.i64.wrap (4 * (q : Int) + 1) = 4 * (q : Int) + 1 := by simp [IntKind.wrap, IntKind.bits, IntKind.signed]; omega
      have t1 : (4 * (q : Int) + 1).toNat = 4 * q + 1 := by omega
      have n2 : 0 ≤ 4 * (q : Int) + 2 := by omega
      have m2 : 4 * (q : Int) + 2 < 64 := by omega
      have v2 : IntKind.i64.wrap (4 * (q : Int) + 2) = 4 * (q : Int) + 2 := by simp [IntKind.wrap, IntKind.bits, IntKind.signed]; omega
      have t2 : (4 * (q : Int) + 2).toNat = 4 * q + 2 := by omega
      have n3 : 0 ≤ 4 * (q : Int) + 3 := by omega
      have m3 : 4 * (q : Int) + 3 < 64 := by omega
      have v3 : IntKind.i64.wrap (4 * (q : Int) + 3) = 4 * (q : Int) + 3 := by simp [IntKind.wrap, IntKind.bits, IntKind.signed]; omega
      have t3 : (4 * (q : Int) + 3).toNat = 4 * q + 3 := by omega
      have n0 : 0 ≤ 4 * (q : Int) := by omega
      have m0 : 4 * (q : Int) < 64 := by omega
      have t0 : (4 * (q : Int)).toNat = 4 * q := by omega
      go_region_held_law (fun w' => Below w.heap.size w w' ∧ w'.cell? ⟨bb, bo + 4 * q, none⟩ = some (B x0) ∧ w'.cell? ⟨bb, bo + (4 * q + 1), none⟩ = some (B x1) ∧ w'.cell? ⟨bb, bo + (4 * q + 2), none⟩ = some (B x2) ∧ w'.cell? ⟨bb, bo + (4 * q + 3), none⟩ = some (B x3))
        ((go_split_ands; with_reducible exact keep4 (by (first | (with_reducible assumption) | (repeat' (first | (with_reducible exact Below.refl _ _) | (with_reducible assumption) | (with_reducible refine Below.alloc ?_ ?_ _) | (with_reducible refine Below.drew ?_) | (with_reducible refine Below.setCell ?_ ?_ _) | (with_reducible refine below_drewN ?_ _) | (refine Below.trans ?_ (Below.mono (by assumption) ?_)) | go_size)))) C0.out C1.out C2.out C3.out))
        ((refine step_append_lies _ (by rfl) _ _ _ (by rfl) w.heap.size 34 i0 _ 1 4 Tryd.underlying35 hi0 hz0 hz1 hz2 rfl (by omega) (.slice a0 q c0) q (((words16 blk).take q).map U) (by rfl) HOWN.out ⟨wr.heap.size, 0, none⟩ 1 1 [U (wordOf x0 x1 x2 x3)] (by rfl) (by rfl) (World.news_of_block (cs := #[U (wordOf x0 x1 x2 x3)]) (t := 34) (fr := (0, 0)) (heap_alloc_at wr.drew _)) (by simp [U, Value.oneCell']) (by omega) (by unfold maxLen; omega) (by omega) (by simp; omega) (wr.heap.size + 1) (by simp) ?_; intro g cap2 w7 hown7 hgrow7 hat7 hlt7; have hbA : Below w.heap.size w w7 := ((hBw.out.drew).alloc hBs (.cells #[U (wordOf x0 x1 x2 x3)] 34)).grown hgrow7 (by simp; omega) (fun g hg => (hown.out.lt g hg).1); have HO7 := Lib.hid hown7; clear hown7 hgrow7 hat7 hlt7))
      all_goals
        go_wp2_with fail
        go_roundw
      case rel => exact ⟨q + 1, some ⟨g, 0, none⟩, cap2, by omega, by congr 1 <;> omega, rfl, by rw [map_next HE.out]; exact HO7.out, hbA⟩
      case measure => simp [intOf]; omega
    · obtain rfl : q = 16 := by omega
      have hown' : Hid (wr.ownsRow w.heap.size 34 1 (.slice a0 16 c0) 16 ((sched 0 (words16 blk)).map U)) := by
        have := hown.out
        rw [List.take_of_length_le (by rw [HW16.out]; omega)] at this
        exact this
      obtain ⟨w1, rfl⟩ : ∃ w1 : World, w1 = wr := ⟨_, rfl⟩
      clear hown
      go_wp2_with fail
      go_loopw [3, 5] (fun ov iv wr => ∃ (m : Nat) (a0 : Option Addr) (c0 : Nat), m ≤ 48 ∧ iv = .int .i64 ((m : Int) + 16) ∧ ov = .slice a0 (m + 16) c0 ∧ Hid (wr.ownsRow w.heap.size 34 1 (.slice a0 (m + 16) c0) (m + 16) ((sched m (words16 blk)).map U)) ∧ Hid (Below w.heap.size w wr)) (fun _ iv _ => 64 - (intOf iv).toNat)
      case atStart => exact ⟨0, a0, c0, by omega, rfl, rfl, hown'.out, hB.out⟩
      case round =>
        obtain ⟨m, a0, c0, hm, rfl, rfl, hown, hB⟩ := hrel
        by_cases hlt : m < 48
        · have hlen : (sched m (words16 blk)).length = m + 16 := by rw [sched_length, HW16.out]; omega
          obtain ⟨y0, e0⟩ : ∃ x, (sched m (words16 blk))[m]? = some x := ⟨_, List.getElem?_eq_getElem (by omega)⟩
          obtain ⟨y1, e1⟩ : ∃ x, (sched m (words16 blk))[m + 1]? = some x := ⟨_, List.getElem?_eq_getElem (by omega)⟩
          obtain ⟨y9, e9⟩ : ∃ x, (sched m (words16 blk))[m + 9]? = some x := ⟨_, List.getElem?_eq_getElem (by omega)⟩
          obtain ⟨y14, e14⟩ : ∃ x, (sched m (words16 blk))[m + 14]? = some x := ⟨_, List.getElem?_eq_getElem (by omega)⟩
          obtain ⟨g, ha0, hgb, d0⟩ := own_cell (x := U y0) hown.out (by rw [List.getElem?_map, e0]; rfl)
          subst ha0
          obtain ⟨_, hg1, _, d1⟩ := own_cell (x := U y1) hown.out (by rw [List.getElem?_map, e1]; rfl)
          cases hg1
          obtain ⟨_, hg9, _, d9⟩ := own_cell (x := U y9) hown.out (by rw [List.getElem?_map, e9]; rfl)
          cases hg9
          obtain ⟨_, hg14, _, d14⟩ := own_cell (x := U y14) hown.out (by rw [List.getElem?_map, e14]; rfl)
          cases hg14
          have HN : Hid (nextW (sched m (words16 blk)) = y0 + sg0 y1 + y9 + sg1 y14) := by
            show _ = _
            unfold nextW
            rw [hlen, show m + 16 - 16 = m by omega, show m + 16 - 15 = m + 1 by omega, show m + 16 - 7 = m + 9 by omega, show m + 16 - 2 = m + 14 by omega]
            simp only [List.getD_eq_getElem?_getD, e0, e1, e9, e14, Option.getD_some]
          have hmm : (m : Int) + 16 < 64 := by omega
          have hBs := hB.out.size
          have HOWN : Hid (∀ (W : World) (o : Obj), W.heap = wr.heap → (W.alloc o).ownsRow w.heap.size 34 1 (.slice (some ⟨g, 0, none⟩) (m + 16) c0) (m + 16) ((sched m (words16 blk)).map U)) := fun W o hW => (own_heap hown.out hW).alloc o
          have HBW : Hid (∀ (W : World) (o : Obj), Below w.heap.size wr W → W.heap = wr.heap → Below w.heap.size w (W.alloc o)) := fun W o h hW => (hB.out.trans h).alloc (by rw [hW]; exact hBs) o
          have HLT : Hid (∀ g', (Value.slice (some ⟨g, 0, none⟩) (m + 16) c0).ownBlock = some g' → w.heap.size ≤ g') := fun g' hg => (hown.out.lt g' hg).1
          clear e0 e1 e9 e14 hlen
          go_upto_region 9 with fail
          go_quiet (fail)
          go_upto_region 12 with (first
            | (go_at_call 21; (with_reducible refine Calls.mono (turn_7 y1 _) ?_); rintro e w8 ⟨rfl, m1, rfl⟩)
            | (go_at_call 21; (with_reducible refine Calls.mono (turn_18 y1 _) ?_); rintro e w8 ⟨rfl, m2, rfl⟩)
            | (go_at_call 21; (with_reducible refine Calls.mono (turn_17 y14 _) ?_); rintro e w8 ⟨rfl, m3, rfl⟩)
            | (go_at_call 21; (with_reducible refine Calls.mono (turn_19 y14 _) ?_); rintro e w8 ⟨rfl, m4, rfl⟩))
          have wr0 : IntKind.i64.wrap (m : Int) = (m : Int) := by simp [IntKind.wrap, IntKind.bits, IntKind.signed]; omega
          have wr16 : IntKind.i64.wrap ((m : Int) + 16 - 16) = (m : Int) := by simp [IntKind.wrap, IntKind.bits, IntKind.signed]; omega
          have wr7 : IntKind.i64.wrap ((m : Int) + 16 - 7) = (m : Int) + 9 := by simp [IntKind.wrap, IntKind.bits, IntKind.signed]; omega
          have wr9 : IntKind.i64.wrap ((m : Int) + 9) = (m : Int) + 9 := by simp [IntKind.wrap, IntKind.bits, IntKind.signed]; omega
          have ws7 : (m : Int) + 16 - 7 = (m : Int) + 9 := by omega
          have ws16 : (m : Int) + 16 - 16 = (m : Int) := by omega
          have hn9 : 0 ≤ (m : Int) + 9 := by omega
          have hm9 : (m : Int) + 9 < (m : Int) + 16 := by omega
          have hm0 : (m : Int) < (m : Int) + 16 := by omega
          have ht9 : ((m : Int) + 9).toNat = m + 9 := by omega
          have hct : ((m + 16 : Nat) : Int) = (m : Int) + 16 := by omega
          go_region_law ((refine step_append_lies _ (by rfl) _ _ _ (by rfl) w.heap.size 34 i0 _ 1 4 Tryd.underlying35 hi0 hz0 hz1 hz2 rfl (by omega) (.slice (some ⟨g, 0, none⟩) (m + 16) c0) (m + 16) ((sched m (words16 blk)).map U) (by rfl) (HOWN.out _ _ (by rfl)) ⟨wr.heap.size, 0, none⟩ 1 1 [U (y0 + sg0 y1 + y9 + sg1 y14)] (by rfl) (by rfl) (World.news_of_block (cs := #[U (y0 + sg0 y1 + y9 + sg1 y14)]) (t := 34) (fr := (0, 0)) (heap_alloc_at _ _)) (by simp [U, Value.oneCell']) (by omega) (by unfold maxLen; omega) (by omega) (by simp; omega) (wr.heap.size + 1) (by simp) ?_; intro g2 cap2 w7 hown7 hgrow7 hat7 hlt7; have hbA : Below w.heap.size w w7 := (HBW.out _ _ (by (repeat (first | (with_reducible exact Below.refl _ _) | (with_reducible refine below_drewN ?_ _) | (with_reducible refine Below.drew ?_)))) (by rfl)).grown hgrow7 (by simp; omega) HLT.out; have HO7 := Lib.hid hown7; clear hown7 hgrow7 hat7 hlt7))
          all_goals go_wp2_with fail
          all_goals go_roundw
          all_goals first
            | (simp [intOf]; omega)
            | exact ⟨m + 1, some ⟨g2, 0, none⟩, cap2, by omega, by go_num, by rw [show m + 1 + 16 = m + 16 + 1 by omega], by rw [show m + 1 + 16 = m + 16 + 1 by omega, sched_succ, HN.out, List.map_append]; exact HO7.out, hbA⟩
            | ((repeat apply Exists.intro); exact ⟨⟨m + 1, some ⟨g2, 0, none⟩, cap2, by omega, by go_num, by rw [show m + 1 + 16 = m + 16 + 1 by omega], by rw [show m + 1 + 16 = m + 16 + 1 by omega, sched_succ, HN.out, List.map_append]; exact HO7.out, hbA⟩, rfl⟩)
        · obtain rfl : m = 48 := by omega
          go_wp2_with fail
          go_ret
          exact ⟨_, rfl, hown.out, hB.out⟩
end Go.Proofs.YtkhbkckcgfddlaaDoor
