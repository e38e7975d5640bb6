import Derived.Test.YtlheoipengndnabGreatDoorOpens
import Derived.Test.YtlheoipengndnabGreatDoorAsks
import Derived.Test.YtlheoipengndnabGreatDoorSigns
import Derived.Test.YtlheoipengndnabGreatDoorMakes
import Derived.Test.YtlheoipengndnabGreatDoorBack
import Derived.Test.YtlheoipengndnabGreatDoorAgrees
import Derived.Test.YtlheoipengndnabGreatDoorKeys
import Derived.Test.YtlheoipengndnabGreatDoorBuilds
/- term: what TermKnown calls: row, asked. -/
import Derived.Laws.MakeOwn
import Derived.IntWalk
namespace Go.Proofs.YtlheoipengndnabGreatDoor
set_option linter.unusedVariables false
open Go.RowKit
theorem Tryz.info5' : (Tryz.prog.info? 5).map (fun i => (i.zero, i.size, i.bytes)) = some (some (.int .u8 0), 1, 1) := by kernel_rfl
theorem make_bytes (n : Nat) (hn : n ≤ 10000) (w : World) : (Instr.makeSlice 51 (.int .i64 (n : Int)) (.int .i64 (n : Int))).run Tryz.prog w = .ok (.slice (some ⟨w.heap.size, 0, none⟩) n n) (w.alloc (.cells (madeCells (Value.int .u8 0).cells n) 5)) := by
  obtain ⟨i0, hi0, hz0, hz1, hz2⟩ := info_parts Tryz.info5'
  have h := run_make (P := Tryz.prog) w 51 5 i0 (.int .u8 0) Tryz.underlying51 hi0 hz0 .i64 .i64 (n : Int) (n : Int) (by omega) (by omega) (by rw [hz2]; omega) (by omega)
  rw [hz1, Nat.mul_one] at h
  simpa using h
set_option maxRecDepth 100000 in
set_option maxHeartbeats 4000000 in
theorem row_any (c : UInt8) (n : Nat) (hn : n ≤ 10000) (w : World) : Calls Tryz.prog 10 #[.int .u8 c.toNat, .int .i64 n] w fun e w' => e = .returned (.string ⟨(List.replicate n c).toArray⟩) ∧ Below w.heap.size w w' := by
  obtain ⟨z, hz⟩ : ∃ z : Int, (c.toNat : Int) = z := ⟨_, rfl⟩
  have HZ := Lib.hid hz
  rw [hz]
  have hmk := make_bytes n hn
  obtain ⟨C, hC⟩ : ∃ C, madeCells (Value.int .u8 0).cells n = C := ⟨_, rfl⟩
  have HC : Hid (C.size = n) := by show _ = _; rw [← hC]; exact size_madeCells _ _
  rw [hC] at hmk
  have hn2 : (n : Int) ≤ 10000 := by omega
  clear hz hC
  go_enter Tryz.func10, Tryz.ntmps10
  go_wp2
  have B1 : Hid (Below w.heap.size w (w.alloc (.cells C 5))) := below_new' w _
  have H1 : Hid ((w.alloc (.cells C 5)).heap[w.heap.size]? = some (.cells C 5 (0, 0))) := heap_alloc_at w _
  generalize w.alloc (.cells C 5) = w1 at B1 H1 ⊢
  obtain ⟨g, hg⟩ : ∃ g, w.heap.size = g := ⟨_, rfl⟩
  have HG := Lib.hid hg
  rw [hg] at H1 ⊢
  clear hg
  go_loopw [6] (fun iv wr => ∃ (j : Nat), j ≤ n ∧ iv = .int .i64 (j : Int) ∧ Hid (Below w.heap.size w wr) ∧ Hid (∃ D : Array Value, wr.heap[g]? = some (.cells D 5 (0, 0)) ∧ D.size = n ∧ ∀ i, i < j → D[i]? = some (.int .u8 z))) (fun iv _ => n - (intOf iv).toNat)
  case atStart => exact ⟨0, by omega, rfl, B1.out, ⟨C, H1.out, HC.out, fun i hi => by omega⟩⟩
  case round =>
    obtain ⟨j, hj, rfl, hB, hD⟩ := hrel
    obtain ⟨D, d1, d2, d3⟩ := hD.out
    have HD1 := Lib.hid d1
    have HD2 := Lib.hid d2
    have HD3 := Lib.hid d3
    clear d1 d2 d3
    by_cases hlt : j < n
    · obtain ⟨v, hv⟩ : ∃ v, D[j]? = some v := ⟨_, Array.getElem?_eq_getElem (by have := HD2.out; omega)⟩
      have hc : wr.cell? ⟨g, j, none⟩ = some v := by rw [cell_of_row _ _ _ _ _ _ HD1.out]; exact hv
      have hf := frozen_of_row wr g j _ 5 HD1.out
      have hji : (j : Int) < (n : Int) := by omega
      clear hv
      go_wp2
      go_roundw
      case rel =>
        refine ⟨j + 1, by omega, by go_num, hB.out.setCell (p := ⟨g, j, none⟩) (by have := HG.out; show w.heap.size ≤ g; omega) _, ⟨D.setIfInBounds j (.int .u8 z), heap_setCell_same wr g j _ 5 _ HD1.out, by simpa using HD2.out, fun i hi => ?_⟩⟩
        rw [Array.getElem?_setIfInBounds]
        by_cases h : j = i
        · subst h; rw [if_pos rfl, if_pos (by have := HD2.out; omega)]
        · rw [if_neg h]; exact HD3.out i (by omega)
      case measure => simp [intOf]; omega
    · obtain rfl : j = n := by omega
      have hcv := run_convert_bytes_back (P := Tryz.prog) wr 51 22 5 ⟨g, 0, none⟩ j (List.replicate j c) Tryz.underlying51 Tryz.underlying5 Tryz.underlying22 (fun i hi => by
        rw [Addr.add_lit, Nat.zero_add, cell_of_row _ _ _ _ _ _ HD1.out, HD3.out i (by simpa using hi), List.getElem_replicate, HZ.out])
      rw [List.length_replicate] at hcv
      go_wp2
      go_ret
      exact ⟨rfl, hB.out⟩
/-- the list that asked goes through -/
def LAt (g : Nat) (L : List ByteArray) (w : World) : Prop := ∀ i, i < L.length → w.cell? ⟨g, i, none⟩ = some (.string (L.getD i ⟨#[]⟩))
theorem LAt.below {g : Nat} {L : List ByteArray} {w w' : World} (h : LAt g L w) (hb : Below w.heap.size w w') : LAt g L w' := fun i hi => cell_later' hb (h i hi)
theorem LAt.strs {g : Nat} {L : List ByteArray} {w : World} (h : LAt g L w) (k : Nat) : StrsAt (some ⟨g, 0, none⟩) (L.take k) w := by
  refine .inr ⟨g, 0, rfl, fun i s hs => ?_⟩
  rw [List.getElem?_take] at hs
  split at hs
  · have hl := (List.getElem?_eq_some_iff.1 hs).1
    rw [Nat.zero_add, h i hl, List.getD_eq_getElem?_getD, hs]; rfl
  · cases hs
theorem small_any {n : Nat} {L : List ByteArray} (h : ∀ v ∈ L, v.size ≤ 100) (i : Nat) : (L.getD i ⟨#[]⟩).size ≤ 100 := by
  rw [List.getD_eq_getElem?_getD]
  cases hi : L[i]? with
  | none => exact Nat.zero_le _
  | some v => exact h v (List.mem_of_getElem? hi)
set_option maxRecDepth 100000 in
set_option maxHeartbeats 8000000 in
theorem asked_any (g : Nat) (L : List ByteArray) (w : World) (hl : L.length = 25) (hsm : ∀ v ∈ L, v.size ≤ 100) (hA : LAt g L w) (hL : LibOk w) (hT : Tab w) : Calls Tryz.prog 4 #[.slice (some ⟨g, 0, none⟩) 25 25] w fun e w' => e = .returned (.bool true) ∧ Below w.heap.size w w' := by
  have HL := Lib.hid hL
  have HT := Lib.hid hT
  have HA := Lib.hid hA
  have HS : Hid (∀ i, (L.getD i ⟨#[]⟩).size ≤ 100) := fun i => small_any (n := 0) hsm i
  have HLL := Lib.hid hl
  have HSM := Lib.hid hsm
  clear hL hT hA hl hsm
  go_enter Tryz.func4, Tryz.ntmps4
  go_wp2
  go_loopw [3] (fun iv wr => ∃ (j : Nat), j ≤ 25 ∧ iv = .int .i64 (j : Int) ∧ Hid (Below w.heap.size w wr)) (fun iv _ => 25 - (intOf iv).toNat)
  case atStart => exact ⟨0, by omega, rfl, Below.refl _ _⟩
  case round =>
    obtain ⟨j, hj, rfl, hB⟩ := hrel
    obtain ⟨wo, rfl⟩ : ∃ wo : World, wo = wr := ⟨_, rfl⟩
    by_cases hlt : j < 25
    · have LW := Lib.hid (HL.out.below hB.out)
      have TW := Lib.hid (HT.out.below hB.out)
      have AW := Lib.hid (HA.out.below hB.out)
      have c0 := AW.out j (by have := HLL.out; omega)
      obtain ⟨s, hs⟩ : ∃ s, L.getD j ⟨#[]⟩ = s := ⟨_, rfl⟩
      have hss := HS.out j
      rw [hs] at c0 hss
      have hsm : s.size ≤ maxLen := by unfold maxLen; omega
      have HSJ := Lib.hid hs
      obtain ⟨r, hr⟩ : ∃ r : Nat, (j : Int).tmod 5 = (r : Int) := ⟨j % 5, by rw [Int.tmod_eq_emod_of_nonneg (by omega)]; omega⟩
      have hr2 : r < 5 := by rw [Int.tmod_eq_emod_of_nonneg (by omega)] at hr; omega
      have hr3 : (j : Int) % 5 = (r : Int) := by rw [Int.tmod_eq_emod_of_nonneg (by omega)] at hr; exact hr
      have b1 : (0 : Int) ≤ (j : Int) := by omega
      have b2 : (j : Int) < 25 := by omega
      have b3 : (r : Int) ≤ 25 := by omega
      have b4 : (0 : Int) ≤ (r : Int) := by omega
      have HO := Lib.hid (fun W (h : LibOk W) (k : Tab W) => opens_any s W hsm h k)
      have HM : Hid (∀ W, StrsAt (some ⟨g, 0, none⟩) (L.take r) W → LibOk W → Tab W → Calls Tryz.prog 8 #[.int .i64 (j : Int), .string s, .slice (some ⟨g, 0, none⟩) r 25] W fun e w' => e = .returned (.bool true) ∧ Below W.heap.size W w') := fun W h1 h2 h3 => makes_any (j : Int) s (some ⟨g, 0, none⟩) (L.take r) r 25 W (by rw [List.length_take]; have := HLL.out; omega) (by unfold maxLen; omega) (by omega) (fun v hv => by have := HSM.out v (List.mem_of_mem_take hv); omega) h1 (by omega) h2 h3
      have SR := Lib.hid (AW.out.strs r)
      replace c0 := Later.cell c0
      clear hs hss hsm
      go_wp2_with fail
      refine wp_region_later (by kernel_rfl) (by kernel_rfl) ?_
      repeat (go_big_quiet_step (first
        | (go_at_call 5; with_reducible exact calls_later (HO.out _ (LW.out.below (Later.below _)) (TW.out.below (Later.below _))))
        | (go_at_call 8; with_reducible exact calls_later (HM.out _ (SR.out.below (Later.below _)) (LW.out.below (Later.below _)) (TW.out.below (Later.below _))))))
      refine wpQuiet_nil ?_
      intro _ hw'
      obtain ⟨nq, rfl⟩ := hw'
      have B1 : Hid (Below w.heap.size w nq.at_) := hB.out.trans (nq.below.mono hB.out.size)
      clear c0 hr hr2 hr3 b3 b4 SR HM HO
      generalize nq.at_ = w1 at B1 ⊢
      go_wp2_with fail
      go_loopw [4] (fun iv wr => ∃ (k : Nat), k ≤ 25 ∧ iv = .int .i64 (k : Int) ∧ Hid (Below w.heap.size w wr)) (fun iv _ => 25 - (intOf iv).toNat)
      case atStart => exact ⟨0, by omega, rfl, B1.out⟩
      case round =>
        obtain ⟨k, hk, rfl, hB2⟩ := hrel
        by_cases hlt2 : k < 25
        · have L2 := Lib.hid (HL.out.below hB2.out)
          have T2 := Lib.hid (HT.out.below hB2.out)
          have A2 := Lib.hid (HA.out.below hB2.out)
          obtain ⟨r, hr⟩ : ∃ r : Nat, ((j : Int) + (k : Int)).tmod 25 = (r : Int) := ⟨(j + k) % 25, by rw [Int.tmod_eq_emod_of_nonneg (by omega)]; omega⟩
          have hr2 : r < 25 := by rw [Int.tmod_eq_emod_of_nonneg (by omega)] at hr; omega
          have hr3 : ((j : Int) + (k : Int)) % 25 = (r : Int) := by rw [Int.tmod_eq_emod_of_nonneg (by omega)] at hr; exact hr
          have hw1 : IntKind.i64.wrap ((j : Int) + (k : Int)) = (j : Int) + (k : Int) := IntWalk.i64_in _ (by omega)
          have e0 := A2.out 0 (by have := HLL.out; omega)
          have ej := A2.out j (by have := HLL.out; omega)
          have ek := A2.out k (by have := HLL.out; omega)
          have er := A2.out r (by have := HLL.out; omega)
          have z0 := HS.out 0
          have zj := HS.out j
          have zk := HS.out k
          have zr := HS.out r
          generalize L.getD 0 ⟨#[]⟩ = s0 at e0 z0
          generalize L.getD r ⟨#[]⟩ = sr at er zr
          generalize L.getD k ⟨#[]⟩ = sk at ek zk
          generalize L.getD j ⟨#[]⟩ = sj at ej zj
          have m0 : s0.size ≤ maxLen := by unfold maxLen; omega
          have mj : sj.size ≤ maxLen := by unfold maxLen; omega
          have mk : sk.size ≤ maxLen := by unfold maxLen; omega
          have mr : sr.size ≤ maxLen := by unfold maxLen; omega
          have q0 : s0.size ≤ 140737488351232 := by omega
          have qj : sj.size ≤ 140737488351232 := by omega
          have qk : sk.size ≤ 140737488351232 := by omega
          have H7 := Lib.hid (fun W (h : LibOk W) (t : Tab W) => builds_any sj sk W mj mk h t)
          have H9 := Lib.hid (fun W (h : LibOk W) (t : Tab W) => asks_any sj sk sr W mj mk mr h t)
          have H13 := Lib.hid (fun W (h : LibOk W) (t : Tab W) => back_any sj sk W mj mk h t)
          have H14 := Lib.hid (fun W (h : LibOk W) (t : Tab W) => agrees_any sj sk s0 W mj mk m0 qj qk q0 h t)
          have H15 := Lib.hid (fun W (h : LibOk W) (t : Tab W) => keys_any sj sk W mj mk qj qk h t)
          have H16 := Lib.hid (fun W (h : LibOk W) (t : Tab W) => signs_any sj sk sk s0 W mj mk mk m0 qj qk qk q0 h t)
          have b3 : (0 : Int) ≤ (k : Int) := by omega
          have b4 : (k : Int) < 25 := by omega
          have b5 : (r : Int) < 25 := by omega
          have b6 : (0 : Int) ≤ (r : Int) := by omega
          replace e0 := Later.cell e0; replace ej := Later.cell ej; replace ek := Later.cell ek; replace er := Later.cell er
          clear z0 zj zk zr m0 mj mk mr q0 qj qk
          go_wp2_with fail
          refine wp_region_later (by kernel_rfl) (by kernel_rfl) ?_
          dsimp only [List.append]
          repeat (go_big_quiet_step (first
            | (go_at_call 7; with_reducible exact calls_later (H7.out _ (L2.out.below (Later.below _)) (T2.out.below (Later.below _))))
            | (go_at_call 9; with_reducible exact calls_later (H9.out _ (L2.out.below (Later.below _)) (T2.out.below (Later.below _))))
            | (go_at_call 13; with_reducible exact calls_later (H13.out _ (L2.out.below (Later.below _)) (T2.out.below (Later.below _))))
            | (go_at_call 14; with_reducible exact calls_later (H14.out _ (L2.out.below (Later.below _)) (T2.out.below (Later.below _))))
            | (go_at_call 15; with_reducible exact calls_later (H15.out _ (L2.out.below (Later.below _)) (T2.out.below (Later.below _))))
            | (go_at_call 16; with_reducible exact calls_later (H16.out _ (L2.out.below (Later.below _)) (T2.out.below (Later.below _))))))
          refine wpQuiet_nil ?_
          intro _ hw'
          obtain ⟨nq2, rfl⟩ := hw'
          have B2 : Hid (Below w.heap.size w nq2.at_) := hB2.out.trans (nq2.below.mono hB2.out.size)
          clear e0 ej ek er hr hr2 hr3 hw1
          generalize nq2.at_ = w2 at B2 ⊢
          go_wp2_with fail
          go_roundw
          case rel => exact ⟨k + 1, by omega, by congr 1, B2.out⟩
          case measure => simp [intOf]; omega
        · obtain rfl : k = 25 := by omega
          go_wp2_with fail
          go_roundw
          case rel => exact ⟨j + 1, by omega, by congr 1, hB2.out⟩
          case measure => simp [intOf]; omega
    · obtain rfl : j = 25 := by omega
      go_wp2_with fail
      go_ret
      exact ⟨rfl, hB.out⟩
end Go.Proofs.YtlheoipengndnabGreatDoor
