/- seed: Get, Kept, Copy, walked. -/
import Derived.Test.YtnaodgljdbkmnaaDoorSeedE
import Derived.Deep.MidRow
import Derived.Deep.WholeRow
namespace Go.Proofs.YtnaodgljdbkmnaaDoor
set_option linter.unusedVariables false
open Go.RowKit
theorem isAgg82 (W : World) : (isAgg 82).run Tryd.prog W = .ok true W := by kernel_rfl
theorem sizeOf82 (W : World) : (sizeOf 82).run Tryd.prog W = .ok 3 W := by kernel_rfl
theorem spot_extract (g : Nat → Spot) {b : Nat} (hb : b < 21) {a0 a1 a2 : Value} (hx : spotL (g b) = [a0, a1, a2]) : (spotsL g 21).toArray.extract (b * 3) (b * 3 + 3) = #[a0, a1, a2] := by
  apply Array.ext_getElem?
  intro j
  rw [Array.getElem?_extract]
  by_cases hj : j < 3
  · have := spotsL_at g 21 b hb j hj
    rw [hx] at this
    rw [if_pos (by simp [spotsL_len]; omega), List.getElem?_toArray, this]
    simp
  · rw [if_neg (by simp [spotsL_len]; omega), Array.getElem?_eq_none (by simp; omega)]
theorem run_spot (g : Nat → Spot) {b : Nat} (hb : b < 21) {a0 a1 a2 : Value} (hx : spotL (g b) = [a0, a1, a2]) (W : World) : (Instr.index 83 (.agg (spotsL g 21).toArray) (.int .i64 b)).run Tryd.prog W = .ok (.agg #[a0, a1, a2]) W := by
  have h0 : (0 : Int) ≤ (b : Int) ∧ (b : Int) < (21 : Nat) := by omega
  unfold Instr.index
  simp only [asIntOf, Sem.run_bind, Sem.run_pure, Result.andThen_ok, run_underlying Tryd.underlying83, h0, and_self, if_true, sizeOf82, part, isAgg82, Int.toNat_natCast]
  rw [spot_extract g hb hx]
theorem spots_range {w : World} {sb : Nat} {g : Nat → Spot} {n : Nat} (h : StAt w sb g n) : w.rangeAt sb 0 (spotsL g 21) := fun j v hv => by
  rw [Nat.zero_add, cell_of_row _ _ _ _ _ _ h, List.getElem?_toArray]
  unfold stL
  rw [List.getElem?_append_left (List.getElem?_eq_some_iff.1 hv).1]
  exact hv
theorem load_spots {w : World} {sb : Nat} {g : Nat → Spot} {n : Nat} (h : StAt w sb g n) : (Instr.loadAt 83 (.pointer (some ⟨sb, 0, none⟩))).run Tryd.prog w = .ok (.agg (spotsL g 21).toArray) w :=
  run_loadAt_mid w sb 0 83 (spotsL g 21) _ (spots_range h) Tryd.underlying83 rfl (by rw [spotsL_len]; kernel_rfl)
theorem load_store {w : World} {sb : Nat} {g : Nat → Spot} {n : Nat} (h : StAt w sb g n) : (Instr.loadAt 85 (.pointer (some ⟨sb, 0, none⟩))).run Tryd.prog w = .ok (.agg (stL g n).toArray) w := by
  refine run_loadAt_mid w sb 0 85 (stL g n) _ (fun j v hv => ?_) Tryd.underlying85 rfl (by rw [stL_len]; kernel_rfl)
  rw [Nat.zero_add, cell_of_row _ _ _ _ _ _ h, List.getElem?_toArray]
  exact hv
theorem spotL_one (x : Spot) : ∀ v ∈ spotL x, v.oneCell' = true := by
  rcases x with _ | ⟨p, t⟩ <;> (intro v hv; simp only [spotL, List.mem_cons, List.not_mem_nil, or_false] at hv; rcases hv with rfl | rfl | rfl <;> rfl)
theorem stL_one (g : Nat → Spot) (n : Nat) : ∀ v ∈ stL g n, v.oneCell' = true := by
  have : ∀ k, ∀ v ∈ spotsL g k, v.oneCell' = true := by
    intro k
    induction k with
    | zero => intro v hv; cases hv
    | succ k ih =>
      intro v hv
      rcases List.mem_append.1 hv with h | h
      · exact ih v h
      · exact spotL_one _ v h
  intro v hv
  rcases List.mem_append.1 hv with h | h
  · exact this 21 v h
  · rw [List.mem_singleton] at h; rw [h]; rfl
def keptG (g : Nat → Spot) (k : Nat) : Nat := ((List.range k).filter fun b => (g b).isSome).length
theorem keptG_succ (g : Nat → Spot) (k : Nat) : keptG g (k + 1) = keptG g k + if (g k).isSome then 1 else 0 := by
  unfold keptG
  rw [List.range_succ, List.filter_append, List.length_append]
  congr 1
  by_cases h : (g k).isSome = true
  · simp [h]
  · simp [h]
theorem keptG_le (g : Nat → Spot) (k : Nat) : keptG g k ≤ k := by
  have := List.length_filter_le (fun b => (g b).isSome) (List.range k)
  rwa [List.length_range] at this
set_option maxRecDepth 100000 in
set_option maxHeartbeats 4000000 in
theorem kept_any (sb : Nat) (g : Nat → Spot) (n : Nat) (w : World) (h : StAt w sb g n) : Calls Tryd.prog 19 #[.pointer (some ⟨sb, 0, none⟩)] w fun e w' => e = .returned (.int .i64 (keptG g 21)) ∧ Below w.heap.size w w' := by
  have HRG := Lib.hid (spots_range h)
  have HSZ : Hid ((Tryd.prog.info? 83).map (·.size) = some (spotsL g 21).length) := by rw [spotsL_len]; exact Lib.hid (by kernel_rfl)
  have HX : Hid (∀ b, b < 21 → ∀ a0 a1 a2, spotL (g b) = [a0, a1, a2] → ∀ W : World, (Instr.index 83 (.agg (spotsL g 21).toArray) (.int .i64 b)).run Tryd.prog W = .ok (.agg #[a0, a1, a2]) W) := fun b hb a0 a1 a2 hx W => run_spot g hb hx W
  generalize spotsL g 21 = A at HRG HSZ HX
  clear h
  go_enter Tryd.func19, Tryd.ntmps19
  go_wp2_with (with_reducible refine wpList_load_mid rfl 83 (.tmp 10) rfl sb 0 rfl A _ HRG.out Tryd.underlying83 rfl HSZ.out ?_)
  go_loopw [3, 12] (fun nv bv wr => ∃ b : Nat, b ≤ 21 ∧ bv = .int .i64 b ∧ nv = .int .i64 (keptG g b) ∧ Hid (Below w.heap.size w wr)) (fun _ bv _ => 21 - (intOf bv).toNat)
  case atStart => exact ⟨0, by omega, rfl, rfl, Below.refl _ _⟩
  case round =>
    obtain ⟨b, hb, rfl, rfl, hB⟩ := hrel
    have hBs := hB.out.size
    by_cases hlt : b < 21
    · have hbi : (b : Int) < 21 := by omega
      have hkl := keptG_le g b
      have HK := Lib.hid (keptG_succ g b)
      generalize keptG g b = m at hkl HK ⊢
      cases hgb : g b with
      | none =>
        have hix := HX.out b hlt _ _ _ (spot_none hgb)
        rw [hgb] at HK
        go_wp2_with fail
        go_roundw
        case rel => exact ⟨b + 1, by omega, by go_num, by rw [HK.out]; rfl, hB.out.alloc hBs _⟩
        case measure => (simp [intOf] <;> omega)
      | some pv =>
        obtain ⟨p, v⟩ := pv
        have hix := HX.out b hlt _ _ _ (spot_some hgb)
        rw [hgb] at HK
        go_wp2_with fail
        go_roundw
        case rel => exact ⟨b + 1, by omega, by go_num, by rw [HK.out]; go_num, hB.out.alloc hBs _⟩
        case measure => (simp [intOf] <;> omega)
    · obtain rfl : b = 21 := by omega
      try rw [show ((21 : Nat) : Int) = 21 from rfl]
      go_wp2_with fail
      go_ret
      exact ⟨rfl, hB.out⟩
set_option maxRecDepth 100000 in
set_option maxHeartbeats 4000000 in
theorem copy_any (sb : Nat) (g : Nat → Spot) (n : Nat) (w : World) (h : StAt w sb g n) : Calls Tryd.prog 23 #[.pointer (some ⟨sb, 0, none⟩)] w fun e w' => e = .returned (.pointer (some ⟨w.heap.size, 0, none⟩)) ∧ StAt w' w.heap.size g n ∧ Below w.heap.size w w' := by
  have HRG : Hid (w.rangeAt sb 0 (stL g n)) := fun j v hv => by
    rw [Nat.zero_add, cell_of_row _ _ _ _ _ _ h, List.getElem?_toArray]
    exact hv
  have HSZ : Hid ((Tryd.prog.info? 85).map (·.size) = some (stL g n).length) := by rw [stL_len]; exact Lib.hid (by kernel_rfl)
  have HONE := Lib.hid (all_oneCell_toArray (stL_one g n))
  have HLE : Hid ((stL g n).toArray.size = 64) := by rw [List.size_toArray]; exact Lib.hid (stL_len g n)
  have hA : StAt (w.alloc (.cells (stL g n).toArray 85)) w.heap.size g n := heap_alloc_at _ _
  have HA := Lib.hid hA
  generalize stL g n = A at HRG HSZ HONE HLE HA
  clear hA h
  go_enter Tryd.func23, Tryd.ntmps23
  go_wp2_with (first
    | (with_reducible refine wpList_load_mid rfl 85 (.tmp 7) rfl sb 0 rfl A _ HRG.out Tryd.underlying85 rfl HSZ.out ?_)
    | (refine wpList_store_row rfl 85 (.tmp 3) (.tmp 8) rfl w.heap.size A.toArray rfl rfl 85 _ (heap_alloc_at _ _) (by rw [List.size_toArray]; exact HSZ.out) (by rw [HLE.out]; rfl) HONE.out ?_))
  go_ret
  exact ⟨rfl, (by rw [World.setRow_alloc_new]; exact HA.out), (by rw [World.setRow_alloc_new]; exact (Below.refl w.heap.size w).alloc (Nat.le_refl _) _)⟩
set_option maxRecDepth 100000 in
set_option maxHeartbeats 4000000 in
theorem get_out (sb : Nat) (g : Nat → Spot) (n : Nat) (w : World) (h : StAt w sb g n) (hn : n ≤ 1048576) (i : Int) (hi : 1048575 < i ∨ i ≤ 1048575 - n) : Calls Tryd.prog 20 #[.pointer (some ⟨sb, 0, none⟩), .int .i64 i] w fun e w' => e = .returned (.tuple #[.string ⟨#[]⟩, .int .i64 5]) ∧ Below w.heap.size w w' := by
  have hc := h.cellN
  clear h
  by_cases h0 : 1048575 < i
  · go_enter Tryd.func20, Tryd.ntmps20
    go_wp2_with fail
    go_ret2
    exact ⟨rfl, Below.refl _ _⟩
  · have h1 : i ≤ 1048575 - n := hi.resolve_left h0
    have h0' : i ≤ 1048575 := by omega
    clear hi
    go_enter Tryd.func20, Tryd.ntmps20
    go_wp2_with fail
    go_ret2
    exact ⟨rfl, Below.refl _ _⟩
def GetPost (g : Nat → Spot) (i : Nat) (w : World) (e : Ending) (w' : World) : Prop :=
  ((∃ b p v, b < 21 ∧ g b = some (p, v) ∧ p / 2 ^ b = i / 2 ^ b ∧ e = .returned (onV v i b)) ∨
    ((∀ b, b < 21 → ∀ p v, g b = some (p, v) → p / 2 ^ b ≠ i / 2 ^ b) ∧ e = .returned (.tuple #[.string ⟨#[]⟩, .int .i64 5]))) ∧ Below w.heap.size w w'
set_option maxRecDepth 100000 in
set_option maxHeartbeats 4000000 in
theorem get_walk (sb : Nat) (g : Nat → Spot) (n : Nat) (w : World) (h : StAt w sb g n) (hn : n ≤ 1048576) (i : Nat) (hi : i ≤ 1048575) (hin : 1048575 - (n : Int) < i) (hg : ∀ b p v, g b = some (p, v) → rightB v = true) (hL : LibOk w) (hT : Tab w) : Calls Tryd.prog 20 #[.pointer (some ⟨sb, 0, none⟩), .int .i64 i] w (GetPost g i w) := by
  have hc := h.cellN
  have HRG := Lib.hid (spots_range h)
  have HSZ : Hid ((Tryd.prog.info? 83).map (·.size) = some (spotsL g 21).length) := by rw [spotsL_len]; exact Lib.hid (by kernel_rfl)
  have HX : Hid (∀ b, b < 21 → ∀ a0 a1 a2, spotL (g b) = [a0, a1, a2] → ∀ W : World, (Instr.index 83 (.agg (spotsL g 21).toArray) (.int .i64 b)).run Tryd.prog W = .ok (.agg #[a0, a1, a2]) W) := fun b hb a0 a1 a2 hx W => run_spot g hb hx W
  generalize spotsL g 21 = A at HRG HSZ HX
  have HL := Lib.hid hL
  have HT := Lib.hid hT
  have HG := Lib.hid hg
  clear h hL hT hg
  have hi2 : (i : Int) ≤ 1048575 := by omega
  go_enter Tryd.func20, Tryd.ntmps20
  go_wp2_with (with_reducible refine wpList_load_mid rfl 83 (.tmp 23) rfl sb 0 rfl A _ HRG.out Tryd.underlying83 rfl HSZ.out ?_)
  go_loopw [25] (fun bv wr => ∃ b : Nat, b ≤ 21 ∧ bv = .int .i64 b ∧ Hid (∀ c, c < b → ∀ p v, g c = some (p, v) → p / 2 ^ c ≠ i / 2 ^ c) ∧ Hid (Below w.heap.size w wr)) (fun bv _ => 21 - (intOf bv).toNat)
  case atStart => exact ⟨0, by omega, rfl, fun c hc => by omega, Below.refl _ _⟩
  case round =>
    obtain ⟨b, hb, rfl, hO, hB⟩ := hrel
    have hBs := hB.out.size
    by_cases hlt : b < 21
    · have hbi : (b : Int) < 21 := by omega
      cases hgb : g b with
      | none =>
        have hix := HX.out b hlt _ _ _ (spot_none hgb)
        go_upto_region 8 with fail
        have B2 := Lib.hid (hB.out.alloc hBs (.cells #[.int .i64 0, .string ⟨#[]⟩, .bool false] 82))
        have HH := heap_alloc_at wr (.cells #[.int .i64 0, .string ⟨#[]⟩, .bool false] 82)
        generalize wr.alloc (.cells #[.int .i64 0, .string ⟨#[]⟩, .bool false] 82) = wa at B2 HH ⊢
        generalize wr.heap.size = kb at HH ⊢
        have g0 : wa.cell? ⟨kb, 0, none⟩ = some (.int .i64 0) := by rw [cell_of_row _ _ _ _ _ _ HH]; rfl
        have g1 : wa.cell? ⟨kb, 1, none⟩ = some (.string ⟨#[]⟩) := by rw [cell_of_row _ _ _ _ _ _ HH]; rfl
        have g2 : wa.cell? ⟨kb, 2, none⟩ = some (.bool false) := by rw [cell_of_row _ _ _ _ _ _ HH]; rfl
        replace g0 := Later.cell g0; replace g1 := Later.cell g1; replace g2 := Later.cell g2
        clear HH
        refine wp_region_later (by kernel_rfl) (by kernel_rfl) ?_
        repeat (go_big_quiet_step (fail))
        refine wpQuiet_nil ?_
        intro _ hw'
        obtain ⟨nq, rfl⟩ := hw'
        go_wp2_with fail
        go_roundw
        case rel => exact ⟨b + 1, by omega, by go_num, (fun c hc p v hp => by
          rcases Nat.lt_or_ge c b with h | h
          · exact hO.out c h p v hp
          · obtain rfl : c = b := by omega
            rw [hgb] at hp; cases hp), B2.out.trans (nq.below.mono B2.out.size)⟩
        case measure => (simp [intOf] <;> omega)
      | some pv =>
        obtain ⟨p, v⟩ := pv
        have hix := HX.out b hlt _ _ _ (spot_some hgb)
        go_upto_region 8 with fail
        have B2 := Lib.hid (hB.out.alloc hBs (.cells #[.int .i64 p, .string ⟨v.toArray⟩, .bool true] 82))
        have HH := heap_alloc_at wr (.cells #[.int .i64 p, .string ⟨v.toArray⟩, .bool true] 82)
        generalize wr.alloc (.cells #[.int .i64 p, .string ⟨v.toArray⟩, .bool true] 82) = wa at B2 HH ⊢
        generalize wr.heap.size = kb at HH ⊢
        have g0 : wa.cell? ⟨kb, 0, none⟩ = some (.int .i64 p) := by rw [cell_of_row _ _ _ _ _ _ HH]; rfl
        have g1 : wa.cell? ⟨kb, 1, none⟩ = some (.string ⟨v.toArray⟩) := by rw [cell_of_row _ _ _ _ _ _ HH]; rfl
        have g2 : wa.cell? ⟨kb, 2, none⟩ = some (.bool true) := by rw [cell_of_row _ _ _ _ _ _ HH]; rfl
        have c1 := g1
        replace g0 := Later.cell g0; replace g1 := Later.cell g1; replace g2 := Later.cell g2
        clear HH
        have e1 : ((p : Int) / 2 ^ b) = ((p / 2 ^ b : Nat) : Int) := by simp
        have e2 : ((i : Int) / 2 ^ b) = ((i / 2 ^ b : Nat) : Int) := by simp
        have HE1 := Lib.hid e1
        have HE2 := Lib.hid e2
        clear e1 e2
        have hb63 : (b : Int) ≤ 64 := by omega
        by_cases hq : p / 2 ^ b = i / 2 ^ b
        · have hqb : (((p : Int) / 2 ^ b) == ((i : Int) / 2 ^ b)) = true := by rw [HE1.out, HE2.out, hq]; simp
          have HQ := Lib.hid hq
          clear hq
          have ON : Hid (∀ W, LibOk W → Tab W → Calls Tryd.prog 43 #[.string ⟨v.toArray⟩, .int .i64 i, .int .i64 b] W fun e w' => e = .returned (onV v i b) ∧ Below W.heap.size W w') := fun W hL hT => by
            have := on_any ⟨v.toArray⟩ i b W (by unfold rt; rw [ba_list]; exact HG.out b p v hgb) (by omega) (by omega) hL hT
            rw [ba_list] at this
            exact this
          obtain ⟨u, m, hv⟩ := onV_form v i b
          have HV := Lib.hid hv
          rw [hv] at ON
          clear hv
          refine wp_region_later (by kernel_rfl) (by kernel_rfl) ?_
          repeat (go_big_quiet_step (fail))
          refine wpQuiet_nil ?_
          intro _ hw'
          obtain ⟨nq, rfl⟩ := hw'
          have B3 := Lib.hid (B2.out.trans (nq.below.mono B2.out.size))
          have c2 := g1 nq
          go_wp2_with (go_at_call 43; (with_reducible refine Calls.mono (ON.out _ (HL.out.below B3.out) (HT.out.below B3.out)) ?_); rintro e w4 ⟨rfl, hb4⟩; have B4 := Lib.hid (B3.out.trans (hb4.mono B3.out.size)); clear hb4)
          go_ret2
          exact ⟨.inl ⟨b, p, v, hlt, hgb, HQ.out, by rw [HV.out]; rfl⟩, B4.out⟩
        · have hqb : (((p : Int) / 2 ^ b) == ((i : Int) / 2 ^ b)) = false := by rw [HE1.out, HE2.out, beq_eq_false_iff_ne]; omega
          have HQ := Lib.hid hq
          clear hq
          refine wp_region_later (by kernel_rfl) (by kernel_rfl) ?_
          repeat (go_big_quiet_step (fail))
          refine wpQuiet_nil ?_
          intro _ hw'
          obtain ⟨nq, rfl⟩ := hw'
          go_wp2_with fail
          go_roundw
          case rel => exact ⟨b + 1, by omega, by go_num, (fun c hc p' v' hp => by
            rcases Nat.lt_or_ge c b with h | h
            · exact hO.out c h p' v' hp
            · obtain rfl : c = b := by omega
              rw [hgb] at hp; cases hp; exact HQ.out), B2.out.trans (nq.below.mono B2.out.size)⟩
          case measure => (simp [intOf] <;> omega)
    · obtain rfl : b = 21 := by omega
      try rw [show ((21 : Nat) : Int) = 21 from rfl]
      have HO := Lib.hid hO.out
      clear hO
      go_wp2_with fail
      go_ret2
      exact ⟨.inr ⟨HO.out, rfl⟩, hB.out⟩
end Go.Proofs.YtnaodgljdbkmnaaDoor
