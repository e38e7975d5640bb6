/- The digest: the law DigestKnown walked. -/
import Derived.Test.YtkhbkckcgfddlaaDoorP
import Derived.Deep.RegionHeld3
namespace Go.Proofs.YtkhbkckcgfddlaaDoor
open Go.RowKit
attribute [local go_sem] match_B run_store_B
set_option maxRecDepth 100000 in
theorem nil_sum : sha [] = [227, 176, 196, 66, 152, 252, 28, 20, 154, 251, 244, 200, 153, 111, 185, 36, 39, 174, 65, 228, 100, 155, 147, 76, 164, 149, 153, 27, 120, 82, 184, 85] := by decide +kernel
theorem nil_hex : (⟨(hexOf (sha [])).toArray⟩ : ByteArray) = ⟨#[101, 51, 98, 48, 99, 52, 52, 50, 57, 56, 102, 99, 49, 99, 49, 52, 57, 97, 102, 98, 102, 52, 99, 56, 57, 57, 54, 102, 98, 57, 50, 52, 50, 55, 97, 101, 52, 49, 101, 52, 54, 52, 57, 98, 57, 51, 52, 99, 97, 52, 57, 53, 57, 57, 49, 98, 55, 56, 53, 50, 98, 56, 53, 53]⟩ := by rw [nil_sum]; rfl
set_option maxRecDepth 100000 in
theorem as_sum : sha (List.replicate 56 97) = [179, 84, 57, 164, 172, 111, 9, 72, 182, 214, 249, 227, 198, 175, 15, 95, 89, 12, 226, 15, 27, 222, 112, 144, 239, 121, 112, 104, 110, 198, 115, 138] := by decide +kernel
theorem as_hex : (⟨(hexOf (sha (List.replicate 56 97))).toArray⟩ : ByteArray) = ⟨#[98, 51, 53, 52, 51, 57, 97, 52, 97, 99, 54, 102, 48, 57, 52, 56, 98, 54, 100, 54, 102, 57, 101, 51, 99, 54, 97, 102, 48, 102, 53, 102, 53, 57, 48, 99, 101, 50, 48, 102, 49, 98, 100, 101, 55, 48, 57, 48, 101, 102, 55, 57, 55, 48, 54, 56, 54, 101, 99, 54, 55, 51, 56, 97]⟩ := by rw [as_sum]; rfl
def LU : List UInt8 := (List.range 200).map UInt8.ofNat
theorem LU_nat : LU.map (·.toNat) = List.range 200 := by decide +kernel
theorem digestSums_any (pa : Option Addr) (l : List UInt8) (n cap : Nat) (w : World) (hn : l.length = n) (hm : n ≤ maxLen) (hp : BytesAt w pa (l.map (·.toNat))) (hc : n ≤ cap) (ht : TabAt w) : Calls Tryd.prog 3 #[.slice pa n cap] w fun e w' => e = .returned (.bool true) ∧ Below w.heap.size w w' := by
  by_cases h5 : n ≤ 5000
  · exact digestSums_short pa l n cap w hn h5 hp hc ht
  · exact digestSums_long pa n cap w (by omega) (by omega)
/-- the block of the 200 bytes, in a world behind -/
def LongAt (lb : Nat) (w : World) : Prop := w.heap[lb]? = some (.cells (Bytes (List.range 200)) 5 (0, 0))
theorem long_bytes {lb : Nat} {w : World} (h : LongAt lb w) (o k : Nat) : BytesAt w (some ⟨lb, o, none⟩) (((List.range 200).drop o).take k) := by
  refine .inr ⟨lb, o, rfl, fun j x hj => ?_⟩
  rw [List.getElem?_take] at hj
  split at hj
  · rw [List.getElem?_drop] at hj
    exact bytes_cell h hj
  · cases hj
theorem long_sums {lb : Nat} {w : World} (h : LongAt lb w) (ht : TabAt w) (k : Nat) (hk : k ≤ 200) : Calls Tryd.prog 3 #[.slice (some ⟨lb, 0, none⟩) k 200] w fun e w' => e = .returned (.bool true) ∧ Below w.heap.size w w' := by
  refine digestSums_any (some ⟨lb, 0, none⟩) (LU.take k) k 200 w ?_ (by unfold maxLen; omega) ?_ hk ht
  · rw [List.length_take, show LU.length = 200 from by simp [LU]]; omega
  · rw [List.map_take, LU_nat]
    exact long_bytes h 0 k
theorem long_pieces {lb : Nat} {w : World} (h : LongAt lb w) (ht : TabAt w) (g n t o : Nat) (hn : n ≤ 200) (htn : t ≤ n) (ho : o = n ∨ n = 200)
    (c0 : w.cell? ⟨g, 0, none⟩ = some (.slice (some ⟨lb, 0, none⟩) t 200)) (c1 : w.cell? ⟨g, 1, none⟩ = some (.slice (some ⟨lb, t, none⟩) (n - t) (200 - t)))
    (c2 : w.cell? ⟨g, 2, none⟩ = some (.slice none 0 0)) (c3 : w.cell? ⟨g, 3, none⟩ = some (.slice (some ⟨lb, o, none⟩) (200 - n) (200 - n))) :
    Calls Tryd.prog 4 #[.slice (some ⟨g, 0, none⟩) 4 4] w fun e w' => e = .returned (.bool true) ∧ Below w.heap.size w w' := by
  have l0 : (((List.range 200).drop 0).take t).length = t := by simp; omega
  have l1 : (((List.range 200).drop t).take (n - t)).length = n - t := by simp; omega
  have l3 : (((List.range 200).drop n).take (200 - n)).length = 200 - n := by simp
  refine digestPieces_any (some ⟨g, 0, none⟩) [((List.range 200).drop 0).take t, ((List.range 200).drop t).take (n - t), [], ((List.range 200).drop n).take (200 - n)] 4 4 w rfl (by unfold maxLen; omega) ?_ ?_ ht
  · intro p hp
    simp only [List.mem_cons, List.not_mem_nil, or_false] at hp
    rcases hp with rfl | rfl | rfl | rfl <;> simp <;> omega
  · refine .inr ⟨g, 0, rfl, fun k p hk => ?_⟩
    rw [Nat.zero_add]
    match k, hk with
    | 0, hk => cases hk; exact ⟨_, _, by rw [l0]; exact c0, long_bytes h 0 t, by rw [l0]; omega⟩
    | 1, hk => cases hk; exact ⟨_, _, by rw [l1]; exact c1, long_bytes h t (n - t), by rw [l1]; omega⟩
    | 2, hk => cases hk; exact ⟨_, _, c2, .inl rfl, Nat.le_refl _⟩
    | 3, hk =>
      cases hk
      refine ⟨_, _, by rw [l3]; exact c3, ?_, by rw [l3]; exact Nat.le_refl _⟩
      rcases ho with rfl | rfl
      · exact long_bytes h o (200 - o)
      · exact .inl rfl
    | k + 4, hk => simp at hk
theorem below_alloc' {w W : World} (h : Below w.heap.size w W) (o : Obj) : Below w.heap.size w (W.alloc o) := h.alloc h.size o
theorem range_next (i : Nat) : List.range (i + 1) = List.range i ++ [i] := List.range_succ
theorem replicate_next (i : Nat) : List.replicate (i + 1) 97 = List.replicate i 97 ++ [97] := List.replicate_succ'
set_option maxRecDepth 100000 in
theorem make_200 (w : World) : (Instr.makeSlice 22 (.int .i64 200) (.int .i64 200)).run Tryd.prog w = .ok (.slice (some ⟨w.heap.size, 0, none⟩) 200 200) (w.alloc (.cells (Bytes (PB [] 200)) 5)) := by kernel_rfl
set_option maxRecDepth 100000 in
theorem make_56 (w : World) : (Instr.makeSlice 22 (.int .i64 56) (.int .i64 56)).run Tryd.prog w = .ok (.slice (some ⟨w.heap.size, 0, none⟩) 56 56) (w.alloc (.cells (Bytes (PB [] 56)) 5)) := by kernel_rfl
set_option maxRecDepth 100000 in
set_option maxHeartbeats 8000000 in
theorem digestKnown_any (w : World) (ht : TabAt w) : Calls Tryd.prog 6 #[] w fun e w' => e = .returned (.bool true) ∧ Below w.heap.size w w' := by
  have HT := Lib.hid ht
  clear ht
  have hmk := make_200
  have hmk' := make_56
  go_enter Tryd.func6, Tryd.ntmps6
  go_upto_region 2 with fail
  have B0 := Lib.hid (below_new' w (.cells (Bytes (PB [] 200)) 5))
  have G0 := Lib.hid (heap_alloc_at w (.cells (Bytes (PB [] 200)) 5))
  generalize w.alloc (.cells (Bytes (PB [] 200)) 5) = w0 at B0 G0 ⊢
  obtain ⟨lb, hlb⟩ : ∃ lb, w.heap.size = lb := ⟨_, rfl⟩
  have HLB := Lib.hid hlb
  rw [hlb] at G0 ⊢
  clear hlb
  go_wp2_with fail
  go_loopw [2] (fun iv wr => ∃ i : Nat, i ≤ 200 ∧ iv = .int .i64 i ∧ Hid (wr.heap[lb]? = some (.cells (Bytes (PB (List.range i) 200)) 5 (0, 0))) ∧ Hid (Below lb w0 wr)) (fun iv _ => 200 - (intOf iv).toNat)
  case atStart => exact ⟨0, by omega, rfl, G0.out, Below.refl _ _⟩
  case round =>
    obtain ⟨i, hi, rfl, hG, hB⟩ := hrel
    by_cases hlt : i < 200
    · have hii : (i : Int) < 200 := by omega
      have htl : (List.range i).length = i := List.length_range
      have c0 := pb_next hG.out htl hlt
      have fz := frozen_of_row wr lb i _ 5 hG.out
      have hcv : IntKind.u8.wrap (i : Int) = (i : Int) := by rw [IntKind.wrap_u8]; omega
      clear htl
      go_wp2_with fail
      go_roundw
      case rel => exact ⟨i + 1, by omega, by go_num, by rw [range_next]; exact pb_store i hG.out List.length_range hlt, hB.out.setCell (p := ⟨lb, i, none⟩) (Nat.le_refl _) _⟩
      case measure => simp [intOf]; omega
    · obtain rfl : i = 200 := by omega
      have hii : ¬ ((200 : Nat) : Int) < 200 := by omega
      have LA : Hid (LongAt lb wr) := by
        have := hG.out
        rw [show PB (List.range 200) 200 = List.range 200 by unfold PB; simp] at this
        exact this
      have BW : Hid (Below w.heap.size w wr) := by
        have h := hB.out
        rw [← HLB.out] at h
        exact B0.out.trans h
      have TA : Hid (TabAt wr) := HT.out.below BW.out
      obtain ⟨w1, rfl⟩ : ∃ w1 : World, w1 = wr := ⟨_, rfl⟩
      have LAX : Hid (∀ X, Below w1.heap.size w1 X → LongAt lb X) := fun X hb => (hb.block lb (lt_of_heap LA.out)).trans LA.out
      clear hG hB
      go_wp2_with fail
      go_loopw [3] (fun iv wr => ∃ n : Nat, n ≤ 201 ∧ iv = .int .i64 n ∧ Hid (Below w1.heap.size w1 wr)) (fun iv _ => 201 - (intOf iv).toNat)
      case atStart => exact ⟨0, by omega, rfl, Below.refl _ _⟩
      case round =>
        obtain ⟨n, hn, rfl, hB⟩ := hrel
        by_cases hlt : n ≤ 200
        · have hni : (n : Int) ≤ 200 := by omega
          have SUMS : Hid (∀ X, Below w1.heap.size w1 X → Calls Tryd.prog 3 #[.slice (some ⟨lb, 0, none⟩) n 200] X fun e w' => e = .returned (.bool true) ∧ Below w1.heap.size w1 w') := fun X hb => (long_sums (LAX.out X hb) (TA.out.below hb) n hlt).mono fun _ _ ⟨h1, h2⟩ => ⟨h1, lt2 hb h2⟩
          have hc : n ≤ 10 ∨ (10 < n ∧ n < 50) ∨ (50 ≤ n ∧ n ≤ 130) ∨ (130 < n ∧ n < 180) ∨ (180 ≤ n ∧ n ≤ 199) ∨ n = 200 := by omega
          rcases hc with hc | hc | hc | hc | hc | hc
          · obtain ⟨t, htt⟩ : ∃ t, n / 3 = t := ⟨_, rfl⟩
            have hq1 : (n : Int) / 3 = (t : Int) := by omega
            have hq2 : (n : Int).tdiv 3 = (t : Int) := by rw [Int.tdiv_eq_ediv_of_nonneg (by omega)]; exact hq1
            have htn : t ≤ n := by omega
            have hti : (t : Int) ≤ (n : Int) := by omega
            have hw1 : IntKind.i64.wrap (t : Int) = (t : Int) := by simp [IntKind.wrap, IntKind.bits, IntKind.signed]; omega
            have ht2 : (t : Int) ≤ 200 := by omega
            have hne1 : ¬ (200 = t) := by omega
            have hne2 : ¬ (200 = n) := by omega
            have PIECES : Hid (∀ X g, Below w1.heap.size w1 X → X.cell? ⟨g, 0, none⟩ = some (.slice (some ⟨lb, 0, none⟩) t 200) → X.cell? ⟨g, 1, none⟩ = some (.slice (some ⟨lb, t, none⟩) (n - t) (200 - t)) → X.cell? ⟨g, 2, none⟩ = some (.slice none 0 0) → X.cell? ⟨g, 3, none⟩ = some (.slice (some ⟨lb, n, none⟩) (200 - n) (200 - n)) → Calls Tryd.prog 4 #[.slice (some ⟨g, 0, none⟩) 4 4] X fun e w' => e = .returned (.bool true) ∧ Below w1.heap.size w1 w') := fun X g hb c0 c1 c2 c3 => (long_pieces (LAX.out X hb) (TA.out.below hb) g n t n hlt htn (.inl rfl) c0 c1 c2 c3).mono fun _ _ ⟨h1, h2⟩ => ⟨h1, lt2 hb h2⟩
            have hbr := hB.out
            clear htt
            go_upto_region 10 with fail
            go_region_held3 (fun w' => Below w1.heap.size w1 w') ((first | (with_reducible assumption) | (with_reducible exact hbr.drew) | (with_reducible exact below_alloc' (by with_reducible assumption) _)))
              (first
                | (go_at_call 3; (with_reducible refine Calls.mono (SUMS.out _ (by with_reducible assumption)) ?_); rintro e w3 ⟨rfl, hbC⟩)
                | (go_at_call 4; (with_reducible refine Calls.mono (PIECES.out _ _ (by first | (with_reducible assumption) | (with_reducible exact below_alloc' (by with_reducible assumption) _)) (by go_cell) (by go_cell) (by go_cell) (by go_cell)) ?_); rintro e w4 ⟨rfl, hbD⟩))
            go_wp2_with fail
            go_roundw
            case rel => exact ⟨n + 1, by omega, by go_num, hbD⟩
            case measure => simp [intOf]; omega
          · go_wp2_with fail
            go_roundw
            case rel => exact ⟨n + 1, by omega, by go_num, hB.out⟩
            case measure => simp [intOf]; omega
          · obtain ⟨t, htt⟩ : ∃ t, n / 3 = t := ⟨_, rfl⟩
            have hq1 : (n : Int) / 3 = (t : Int) := by omega
            have hq2 : (n : Int).tdiv 3 = (t : Int) := by rw [Int.tdiv_eq_ediv_of_nonneg (by omega)]; exact hq1
            have htn : t ≤ n := by omega
            have hti : (t : Int) ≤ (n : Int) := by omega
            have hw1 : IntKind.i64.wrap (t : Int) = (t : Int) := by simp [IntKind.wrap, IntKind.bits, IntKind.signed]; omega
            have ht2 : (t : Int) ≤ 200 := by omega
            have hne1 : ¬ (200 = t) := by omega
            have hne2 : ¬ (200 = n) := by omega
            have PIECES : Hid (∀ X g, Below w1.heap.size w1 X → X.cell? ⟨g, 0, none⟩ = some (.slice (some ⟨lb, 0, none⟩) t 200) → X.cell? ⟨g, 1, none⟩ = some (.slice (some ⟨lb, t, none⟩) (n - t) (200 - t)) → X.cell? ⟨g, 2, none⟩ = some (.slice none 0 0) → X.cell? ⟨g, 3, none⟩ = some (.slice (some ⟨lb, n, none⟩) (200 - n) (200 - n)) → Calls Tryd.prog 4 #[.slice (some ⟨g, 0, none⟩) 4 4] X fun e w' => e = .returned (.bool true) ∧ Below w1.heap.size w1 w') := fun X g hb c0 c1 c2 c3 => (long_pieces (LAX.out X hb) (TA.out.below hb) g n t n hlt htn (.inl rfl) c0 c1 c2 c3).mono fun _ _ ⟨h1, h2⟩ => ⟨h1, lt2 hb h2⟩
            have hbr := hB.out
            clear htt
            go_upto_region 10 with fail
            go_region_held3 (fun w' => Below w1.heap.size w1 w') ((first | (with_reducible assumption) | (with_reducible exact hbr.drew) | (with_reducible exact below_alloc' (by with_reducible assumption) _)))
              (first
                | (go_at_call 3; (with_reducible refine Calls.mono (SUMS.out _ (by with_reducible assumption)) ?_); rintro e w3 ⟨rfl, hbC⟩)
                | (go_at_call 4; (with_reducible refine Calls.mono (PIECES.out _ _ (by first | (with_reducible assumption) | (with_reducible exact below_alloc' (by with_reducible assumption) _)) (by go_cell) (by go_cell) (by go_cell) (by go_cell)) ?_); rintro e w4 ⟨rfl, hbD⟩))
            go_wp2_with fail
            go_roundw
            case rel => exact ⟨n + 1, by omega, by go_num, hbD⟩
            case measure => simp [intOf]; omega
          · go_wp2_with fail
            go_roundw
            case rel => exact ⟨n + 1, by omega, by go_num, hB.out⟩
            case measure => simp [intOf]; omega
          · obtain ⟨t, htt⟩ : ∃ t, n / 3 = t := ⟨_, rfl⟩
            have hq1 : (n : Int) / 3 = (t : Int) := by omega
            have hq2 : (n : Int).tdiv 3 = (t : Int) := by rw [Int.tdiv_eq_ediv_of_nonneg (by omega)]; exact hq1
            have htn : t ≤ n := by omega
            have hti : (t : Int) ≤ (n : Int) := by omega
            have hw1 : IntKind.i64.wrap (t : Int) = (t : Int) := by simp [IntKind.wrap, IntKind.bits, IntKind.signed]; omega
            have ht2 : (t : Int) ≤ 200 := by omega
            have hne1 : ¬ (200 = t) := by omega
            have hne2 : ¬ (200 = n) := by omega
            have PIECES : Hid (∀ X g, Below w1.heap.size w1 X → X.cell? ⟨g, 0, none⟩ = some (.slice (some ⟨lb, 0, none⟩) t 200) → X.cell? ⟨g, 1, none⟩ = some (.slice (some ⟨lb, t, none⟩) (n - t) (200 - t)) → X.cell? ⟨g, 2, none⟩ = some (.slice none 0 0) → X.cell? ⟨g, 3, none⟩ = some (.slice (some ⟨lb, n, none⟩) (200 - n) (200 - n)) → Calls Tryd.prog 4 #[.slice (some ⟨g, 0, none⟩) 4 4] X fun e w' => e = .returned (.bool true) ∧ Below w1.heap.size w1 w') := fun X g hb c0 c1 c2 c3 => (long_pieces (LAX.out X hb) (TA.out.below hb) g n t n hlt htn (.inl rfl) c0 c1 c2 c3).mono fun _ _ ⟨h1, h2⟩ => ⟨h1, lt2 hb h2⟩
            have hbr := hB.out
            clear htt
            go_upto_region 10 with fail
            go_region_held3 (fun w' => Below w1.heap.size w1 w') ((first | (with_reducible assumption) | (with_reducible exact hbr.drew) | (with_reducible exact below_alloc' (by with_reducible assumption) _)))
              (first
                | (go_at_call 3; (with_reducible refine Calls.mono (SUMS.out _ (by with_reducible assumption)) ?_); rintro e w3 ⟨rfl, hbC⟩)
                | (go_at_call 4; (with_reducible refine Calls.mono (PIECES.out _ _ (by first | (with_reducible assumption) | (with_reducible exact below_alloc' (by with_reducible assumption) _)) (by go_cell) (by go_cell) (by go_cell) (by go_cell)) ?_); rintro e w4 ⟨rfl, hbD⟩))
            go_wp2_with fail
            go_roundw
            case rel => exact ⟨n + 1, by omega, by go_num, hbD⟩
            case measure => simp [intOf]; omega
          · obtain rfl : n = 200 := by omega
            have hq1 : (200 : Int).tdiv 3 = 66 := by decide
            have hw1 : IntKind.i64.wrap 66 = 66 := by decide
            have hq2 : IntKind.i64.wrap ((200 : Int).tdiv 3) = 66 := by decide
            have PIECES : Hid (∀ X g, Below w1.heap.size w1 X → X.cell? ⟨g, 0, none⟩ = some (.slice (some ⟨lb, 0, none⟩) 66 200) → X.cell? ⟨g, 1, none⟩ = some (.slice (some ⟨lb, 66, none⟩) 134 134) → X.cell? ⟨g, 2, none⟩ = some (.slice none 0 0) → X.cell? ⟨g, 3, none⟩ = some (.slice (some ⟨lb, 0, none⟩) 0 0) → Calls Tryd.prog 4 #[.slice (some ⟨g, 0, none⟩) 4 4] X fun e w' => e = .returned (.bool true) ∧ Below w1.heap.size w1 w') := fun X g hb c0 c1 c2 c3 => (long_pieces (LAX.out X hb) (TA.out.below hb) g 200 66 0 hlt (by omega) (.inr rfl) c0 c1 c2 c3).mono fun _ _ ⟨h1, h2⟩ => ⟨h1, lt2 hb h2⟩
            have hbr := hB.out
            have SUMS : Hid (∀ X, Below w1.heap.size w1 X → Calls Tryd.prog 3 #[.slice (some ⟨lb, 0, none⟩) 200 200] X fun e w' => e = .returned (.bool true) ∧ Below w1.heap.size w1 w') := SUMS
            go_upto_region 10 with fail
            go_region_held3 (fun w' => Below w1.heap.size w1 w') ((first | (with_reducible assumption) | (with_reducible exact hbr.drew) | (with_reducible exact below_alloc' (by with_reducible assumption) _)))
              (first
                | (go_at_call 3; (with_reducible refine Calls.mono (SUMS.out _ (by with_reducible assumption)) ?_); rintro e w3 ⟨rfl, hbC⟩)
                | (go_at_call 4; (with_reducible refine Calls.mono (PIECES.out _ _ (by first | (with_reducible assumption) | (with_reducible exact below_alloc' (by with_reducible assumption) _)) (by go_cell) (by go_cell) (by go_cell) (by go_cell)) ?_); rintro e w4 ⟨rfl, hbD⟩))
            go_wp2_with fail
            go_roundw
            case rel => exact ⟨201, by omega, rfl, hbD⟩
            case measure => first | (simp [intOf]; done) | (simp [intOf]; omega)
        · obtain rfl : n = 201 := by omega
          have BX : Hid (Below w.heap.size w wr) := BW.out.trans (hB.out.mono BW.out.size)
          obtain ⟨w2, rfl⟩ : ∃ w2 : World, w2 = wr := ⟨_, rfl⟩
          clear hB
          go_upto_region 13 with fail
          have B5 := Lib.hid (BX.out.alloc BX.out.size (.cells (Bytes (PB [] 56)) 5))
          have G5 := Lib.hid (heap_alloc_at w2 (.cells (Bytes (PB [] 56)) 5))
          have hz5 := BX.out.size
          generalize w2.alloc (.cells (Bytes (PB [] 56)) 5) = w5 at B5 G5 ⊢
          generalize w2.heap.size = sb at G5 hz5 ⊢
          go_wp2_with fail
          go_loopw [5] (fun iv wr => ∃ i : Nat, i ≤ 56 ∧ iv = .int .i64 i ∧ Hid (wr.heap[sb]? = some (.cells (Bytes (PB (List.replicate i 97) 56)) 5 (0, 0))) ∧ Hid (Below w.heap.size w wr)) (fun iv _ => 56 - (intOf iv).toNat)
          case atStart => exact ⟨0, by omega, rfl, G5.out, B5.out⟩
          case round =>
            obtain ⟨i, hi, rfl, hG, hB⟩ := hrel
            by_cases hlt : i < 56
            · have hii : (i : Int) < 56 := by omega
              have htl : (List.replicate i 97).length = i := List.length_replicate
              have c0 := pb_next hG.out htl hlt
              have fz := frozen_of_row wr sb i _ 5 hG.out
              clear htl
              go_wp2_with fail
              go_roundw
              case rel => exact ⟨i + 1, by omega, by go_num, by rw [replicate_next]; exact pb_store 97 hG.out List.length_replicate hlt, hB.out.setCell (p := ⟨sb, i, none⟩) hz5 _⟩
              case measure => simp [intOf]; omega
            · obtain rfl : i = 56 := by omega
              have hii : ¬ ((56 : Nat) : Int) < 56 := by omega
              have AS : Hid (BytesAt wr (some ⟨sb, 0, none⟩) (List.replicate 56 97)) := by
                have := hG.out
                rw [show PB (List.replicate 56 97) 56 = List.replicate 56 97 by unfold PB; simp] at this
                exact .inr ⟨sb, 0, rfl, fun j x hj => by rw [Nat.zero_add]; exact bytes_cell this hj⟩
              have TR : Hid (TabAt wr) := HT.out.below hB.out
              have kc := fun (w : World) (C : Array Value) (n c : Nat) => Lib.run_convert_bytes_const (P := Tryd.prog) w 22 5 C n c Tryd.underlying22 Tryd.underlying5
              have C1 : Hid (∀ X, Below wr.heap.size wr X → Calls Tryd.prog 9 #[.slice none 0 0] X fun e w' => e = .returned (.string ⟨#[101, 51, 98, 48, 99, 52, 52, 50, 57, 56, 102, 99, 49, 99, 49, 52, 57, 97, 102, 98, 102, 52, 99, 56, 57, 57, 54, 102, 98, 57, 50, 52, 50, 55, 97, 101, 52, 49, 101, 52, 54, 52, 57, 98, 57, 51, 52, 99, 97, 52, 57, 53, 57, 57, 49, 98, 55, 56, 53, 50, 98, 56, 53, 53]⟩) ∧ Below wr.heap.size wr w') := fun X hb => by
                rw [← nil_hex]
                exact (hex_any none [] 0 X (.inl rfl) (Nat.le_refl _) (TR.out.below hb) (by simp)).mono fun _ _ ⟨h1, h2⟩ => ⟨h1, lt2 hb h2⟩
              have C2 : Hid (∀ X, Below wr.heap.size wr X → Calls Tryd.prog 9 #[.slice (some ⟨X.heap.size, 0, none⟩) 3 3] (X.alloc (.cells #[.int .u8 97, .int .u8 98, .int .u8 99] 5 (3, 4))) fun e w' => e = .returned (.string ⟨#[98, 97, 55, 56, 49, 54, 98, 102, 56, 102, 48, 49, 99, 102, 101, 97, 52, 49, 52, 49, 52, 48, 100, 101, 53, 100, 97, 101, 50, 50, 50, 51, 98, 48, 48, 51, 54, 49, 97, 51, 57, 54, 49, 55, 55, 97, 57, 99, 98, 52, 49, 48, 102, 102, 54, 49, 102, 50, 48, 48, 49, 53, 97, 100]⟩) ∧ Below wr.heap.size wr w') := fun X hb => by
                rw [← abc_hex]
                exact ((hex_any (some ⟨X.heap.size, 0, none⟩) [97, 98, 99] 3 (X.alloc (.cells #[.int .u8 97, .int .u8 98, .int .u8 99] 5 (3, 4))) (new_bytes X [97, 98, 99] (3, 4)) (by simp) ((TR.out.below hb).below (below_new' _ _)) (by simp)).mono fun _ _ ⟨h1, h2⟩ => ⟨h1, lt2 hb (lt2 (below_new' _ _) h2)⟩)
              have C3 : Hid (∀ X, Below wr.heap.size wr X → Calls Tryd.prog 9 #[.slice (some ⟨sb, 0, none⟩) 56 56] X fun e w' => e = .returned (.string ⟨#[98, 51, 53, 52, 51, 57, 97, 52, 97, 99, 54, 102, 48, 57, 52, 56, 98, 54, 100, 54, 102, 57, 101, 51, 99, 54, 97, 102, 48, 102, 53, 102, 53, 57, 48, 99, 101, 50, 48, 102, 49, 98, 100, 101, 55, 48, 57, 48, 101, 102, 55, 57, 55, 48, 54, 56, 54, 101, 99, 54, 55, 51, 56, 97]⟩) ∧ Below wr.heap.size wr w') := fun X hb => by
                rw [← as_hex]
                exact (hex_any (some ⟨sb, 0, none⟩) (List.replicate 56 97) 56 X (AS.out.below hb) (by simp) (TR.out.below hb) (by simp)).mono fun _ _ ⟨h1, h2⟩ => ⟨h1, lt2 hb h2⟩
              have C4 : Hid (∀ X, Below wr.heap.size wr X → Calls Tryd.prog 5 #[.slice (some ⟨sb, 0, none⟩) 56 56] X fun e w' => e = .returned (.bool true) ∧ Below wr.heap.size wr w') := fun X hb =>
                (digestNone_any (some ⟨sb, 0, none⟩) 56 56 X (TR.out.below hb)).mono fun _ _ ⟨h1, h2⟩ => ⟨h1, lt2 hb h2⟩
              have C5 : Hid (∀ X, Below wr.heap.size wr X → Calls Tryd.prog 11 #[] X fun e w' => e = .returned (.bool true) ∧ Below wr.heap.size wr w') := fun X hb =>
                (works_any X (TR.out.below hb)).mono fun _ _ ⟨h1, h2⟩ => ⟨h1, lt2 hb h2⟩
              have BR := Lib.hid hB.out
              clear hG hB
              go_wp2_with (first
                | (go_at_call 11; (with_reducible refine Calls.mono (C5.out _ (by with_reducible assumption)) ?_); rintro e w10 ⟨rfl, hb10⟩)
                | (go_at_call 5; (with_reducible refine Calls.mono (C4.out _ (by with_reducible assumption)) ?_); rintro e w9 ⟨rfl, hb9⟩)
                | (go_at_call 9; have hb7' := hb7; (with_reducible refine Calls.mono (C3.out _ (by with_reducible assumption)) ?_); rintro e w8 ⟨rfl, hb8⟩)
                | (go_at_call 9; have hb6' := hb6; (with_reducible refine Calls.mono (C2.out w6 hb6) ?_); rintro e w7 ⟨rfl, hb7⟩)
                | (go_at_call 9; (with_reducible refine Calls.mono (C1.out wr (Below.refl _ _)) ?_); rintro e w6 ⟨rfl, hb6⟩))
              go_ret
              exact ⟨rfl, BR.out.trans (hb10.mono BR.out.size)⟩
end Go.Proofs.YtkhbkckcgfddlaaDoor
