/- seed: the document's kept, Kept, Get. -/
import Derived.Test.YtnaodgljdbkmnaaDoorSeedI
namespace Go.Proofs.YtnaodgljdbkmnaaDoor
set_option linter.unusedVariables false
open Go.RowKit
set_option maxRecDepth 100000 in
set_option maxHeartbeats 4000000 in
/-- the document's kept -/
theorem rkept_any (i n : Nat) (w : World) (hi : i ≤ 1048575) (hn : n ≤ 1048576) : Calls Tryd.prog 48 #[.int .i64 i, .int .i64 n] w fun e w' => e = .returned (.bool (keptB (1048576 - n) i)) ∧ Below w.heap.size w w' := by
  obtain ⟨m, hm⟩ : ∃ m, 1048576 - n = m := ⟨_, rfl⟩
  rw [hm]
  have hmn : (1048575 : Int) - (n : Int) = (m : Int) - 1 := by omega
  have HMN := Lib.hid hmn
  have hm2 : m ≤ 1048576 := by omega
  obtain ⟨z, hz⟩ : ∃ z : Int, (1048575 : Int) - (n : Int) = z := ⟨_, rfl⟩
  have HZ := Lib.hid hz
  have hz1 : -1 ≤ z := by omega
  have hz2 : z ≤ 1048575 := by omega
  rw [hz] at HMN
  have HLO := Lib.hid (fun W (j : Nat) (hj : j ≤ 1048575) => rlow_any j W (by omega))
  clear hmn hm
  go_enter Tryd.func48, Tryd.ntmps48
  go_wp2_with fail
  go_loopw [5] (fun jv wr => ∃ J : Nat, J ≤ i ∧ jv = .int .i64 ((J : Int) - 1) ∧ Hid (∀ j, J ≤ j → j < i → ¬ inB (lowP j) i j) ∧ Hid (Below w.heap.size w wr)) (fun jv _ => (intOf jv + 1).toNat)
  case atStart => exact ⟨i, Nat.le_refl _, rfl, fun j h1 h2 => by omega, Below.refl _ _⟩
  case round =>
    obtain ⟨J, hJ, rfl, hA, hB⟩ := hrel
    have hBs := hB.out.size
    by_cases hlt : z < (J : Int) - 1
    · obtain ⟨j, rfl⟩ : ∃ j, J = j + 1 := ⟨J - 1, by omega⟩
      rw [show (((j + 1 : Nat) : Int) - 1) = (j : Int) by omega] at hlt ⊢
      have hj9 : j ≤ 1048575 := by omega
      have HC := Lib.hid (HLO.out wr j hj9)
      have hk := low_le j
      obtain ⟨k, hkk⟩ : ∃ k, lowP j = k := ⟨_, rfl⟩
      have HK := Lib.hid hkk
      rw [hkk] at HC hk
      clear hkk
      have hk64 : (k : Int) ≤ 64 := by omega
      have e1 : ((i : Int) / 2 ^ k) = ((i / 2 ^ k : Nat) : Int) := by simp
      have e2 : ((j : Int) / 2 ^ k) = ((j / 2 ^ k : Nat) : Int) := by simp
      have HE1 := Lib.hid e1
      have HE2 := Lib.hid e2
      clear e1 e2
      go_upto_region 5 with (go_at_call 47; (with_reducible refine Calls.mono HC.out ?_); rintro e w2 ⟨rfl, hb2⟩; have B2 := Lib.hid (hB.out.trans (hb2.mono hBs)); clear hb2)
      by_cases hq : i / 2 ^ k = j / 2 ^ k
      · have hqb : (((i : Int) / 2 ^ k) == ((j : Int) / 2 ^ k)) = true := by rw [HE1.out, HE2.out, hq]; simp
        have HQ := Lib.hid hq
        clear hq
        refine wp_region_later (by kernel_rfl) (by kernel_rfl) ?_
        repeat (go_big_quiet_step (fail))
        refine wpQuiet_nil ?_
        intro _ hw'
        obtain ⟨nq, rfl⟩ := hw'
        go_wp2_with fail
        go_ret
        refine ⟨?_, B2.out.trans (nq.below.mono B2.out.size)⟩
        have hf : keptB m i = false := by
          rw [Bool.eq_false_iff]
          intro ht
          have := (keptB_iff m i).1 ht j (by have := HMN.out; omega) (by omega)
          exact this (by unfold inB; rw [HK.out]; exact HQ.out)
        rw [hf]; rfl
      · have hqb : (((i : Int) / 2 ^ k) == ((j : Int) / 2 ^ k)) = false := by rw [HE1.out, HE2.out, beq_eq_false_iff_ne]; omega
        have HQ := Lib.hid hq
        clear hq
        refine wp_region_later (by kernel_rfl) (by kernel_rfl) ?_
        repeat (go_big_quiet_step (fail))
        refine wpQuiet_nil ?_
        intro _ hw'
        obtain ⟨nq, rfl⟩ := hw'
        go_wp2_with fail
        go_roundw
        case rel => exact ⟨j, by omega, by go_num, (fun p h1 h2 => by
          rcases Nat.lt_or_ge j p with h | h
          · exact hA.out p h h2
          · obtain rfl : p = j := by omega
            intro hin
            unfold inB at hin
            rw [HK.out] at hin
            exact HQ.out hin), B2.out.trans (nq.below.mono B2.out.size)⟩
        case measure => (simp [intOf] <;> omega)
    · have hge : (J : Int) - 1 ≤ z := by omega
      go_wp2_with fail
      go_ret
      refine ⟨?_, hB.out⟩
      have ht : keptB m i = true := (keptB_iff m i).2 fun j h1 h2 => hA.out j (by have := HMN.out; omega) h2
      rw [ht]; rfl
/-- the document's store lies there -/
structure DocSt (w : World) (base mb : Nat) (v : Value) (H : List (List UInt8)) : Prop where
  mbk : w.heap[mb]? = some (.cells #[v] 40 (0, 0))
  own : w.ownsRow base 22 1 v H.length (H.map strV)
  h1 : base ≤ mb
theorem DocSt.cell {w : World} {base mb : Nat} {v : Value} {H : List (List UInt8)} (h : DocSt w base mb v H) : w.cell? ⟨mb, 0, none⟩ = some v := by rw [cell_of_row _ _ _ _ _ _ h.mbk]; rfl
theorem DocSt.below {w w' : World} {base mb : Nat} {v : Value} {H : List (List UInt8)} (h : DocSt w base mb v H) (hb : Below w.heap.size w w') : DocSt w' base mb v H := ⟨(hb.block mb (lt_of_heap h.mbk)).trans h.mbk, own_below h.own hb, h.h1⟩
theorem DocSt.item {w : World} {base mb : Nat} {v : Value} {H : List (List UInt8)} (h : DocSt w base mb v H) {j : Nat} {t : List UInt8} (hj : H[j]? = some t) : ∃ g cap, v = .slice (some ⟨g, 0, none⟩) H.length cap ∧ w.cell? ⟨g, j, none⟩ = some (.string ⟨t.toArray⟩) := by
  have hjl := (List.getElem?_eq_some_iff.1 hj).1
  obtain ⟨g, cap, rfl, _, _⟩ := h.own.form (by omega)
  refine ⟨g, cap, rfl, ?_⟩
  have := h.own.cells (g := g) rfl j (strV t) (by rw [List.getElem?_map, hj]; rfl)
  rwa [Addr.add_mid, Nat.zero_add] at this
set_option maxRecDepth 100000 in
set_option maxHeartbeats 4000000 in
/-- the document's Kept -/
theorem dkept_any (base mb : Nat) (v : Value) (H : List (List UInt8)) (w : World) (h : DocSt w base mb v H) (hl : H.length ≤ 1048576) : Calls Tryd.prog 24 #[.pointer (some ⟨mb, 0, none⟩)] w fun e w' => e = .returned (.int .i64 (keptN H)) ∧ Below w.heap.size w w' := by
  obtain ⟨va, vc, rfl⟩ := own_slice h.own
  have HS := Lib.hid h
  have hlow : lowest H = 1048576 - H.length := rfl
  have HF : Hid (keptN H = ((List.range H.length).filter fun i => keptB (1048576 - H.length) (TOP - i)).length) := rfl
  rw [HF.out]
  obtain ⟨n, hn⟩ : ∃ n, H.length = n := ⟨_, rfl⟩
  rw [hn] at hl ⊢
  have HN := Lib.hid hn
  clear h HF hlow hn
  have hc : ∀ W, Below w.heap.size w W → W.cell? ⟨mb, 0, none⟩ = some (.slice va n vc) := fun W hW => by
    have := (HS.out.below hW).cell
    rwa [HN.out] at this
  have HC := Lib.hid hc
  clear hc
  have HK := Lib.hid (fun W (i : Nat) (hi : i ≤ 1048575) => rkept_any i n W hi hl)
  go_enter Tryd.func24, Tryd.ntmps24
  go_wp2_with fail
  go_loopw [3, 4] (fun nv iv wr => ∃ i : Nat, i ≤ n ∧ iv = .int .i64 i ∧ nv = .int .i64 (((List.range i).filter fun i => keptB (1048576 - n) (TOP - i)).length : Nat) ∧ Hid (Below w.heap.size w wr)) (fun _ iv _ => n - (intOf iv).toNat)
  case atStart => exact ⟨0, by omega, rfl, rfl, Below.refl _ _⟩
  case round =>
    obtain ⟨i, hi, rfl, rfl, hB⟩ := hrel
    have hBs := hB.out.size
    have hc := HC.out wr hB.out
    by_cases hlt : i < n
    · have hii : (i : Int) < (n : Int) := by omega
      have hc' : 1048575 - (i : Int) = ((TOP - i : Nat) : Int) := by have : TOP = 1048575 := rfl; omega
      have hml : ((List.range i).filter fun i => keptB (1048576 - n) (TOP - i)).length ≤ i := by
        have := List.length_filter_le (fun i => keptB (1048576 - n) (TOP - i)) (List.range i)
        rwa [List.length_range] at this
      have HM : Hid (((List.range (i + 1)).filter fun i => keptB (1048576 - n) (TOP - i)).length = ((List.range i).filter fun i => keptB (1048576 - n) (TOP - i)).length + if keptB (1048576 - n) (TOP - i) = true then 1 else 0) := by
        rw [List.range_succ, List.filter_append, List.length_append]
        by_cases h : keptB (1048576 - n) (TOP - i) = true
        · simp [h, Hid]
        · simp [h, Hid]
      generalize ((List.range i).filter fun i => keptB (1048576 - n) (TOP - i)).length = m at hml HM ⊢
      have HCK := Lib.hid (HK.out wr (TOP - i) (by have : TOP = 1048575 := rfl; omega))
      rw [← hc'] at HCK
      clear hc'
      cases hb : keptB (1048576 - n) (TOP - i) with
      | true =>
        rw [hb] at HCK HM
        go_wp2_with (go_at_call 48; (with_reducible refine Calls.mono HCK.out ?_); rintro e w2 ⟨rfl, hb2⟩; have B2 := Lib.hid (hB.out.trans (hb2.mono hBs)); clear hb2)
        go_roundw
        case rel => exact ⟨i + 1, by omega, by go_num, by rw [HM.out]; go_num, B2.out⟩
        case measure => (simp [intOf] <;> omega)
      | false =>
        rw [hb] at HCK HM
        go_wp2_with (go_at_call 48; (with_reducible refine Calls.mono HCK.out ?_); rintro e w2 ⟨rfl, hb2⟩; have B2 := Lib.hid (hB.out.trans (hb2.mono hBs)); clear hb2)
        go_roundw
        case rel => exact ⟨i + 1, by omega, by go_num, by rw [HM.out]; rfl, B2.out⟩
        case measure => (simp [intOf] <;> omega)
    · obtain rfl : i = n := by omega
      go_wp2_with fail
      go_ret
      exact ⟨rfl, hB.out⟩
set_option maxRecDepth 100000 in
set_option maxHeartbeats 4000000 in
/-- the document's Get -/
theorem dget_any (base mb : Nat) (v : Value) (H : List (List UInt8)) (w : World) (h : DocSt w base mb v H) (hl : H.length ≤ 1048576) (i : Int) : Calls Tryd.prog 22 #[.pointer (some ⟨mb, 0, none⟩), .int .i64 i] w fun e w' => e = .returned (getV H i) ∧ Below w.heap.size w w' := by
  have hTOP : TOP = 1048575 := rfl
  unfold getV
  by_cases h1 : 1048575 < i
  · rw [if_pos (.inl h1)]
    clear h
    go_enter Tryd.func22, Tryd.ntmps22
    go_wp2_with fail
    go_ret2
    exact ⟨rfl, Below.refl _ _⟩
  · have h1' : i ≤ 1048575 := by omega
    by_cases h2 : i ≤ 1048575 - (H.length : Int)
    · rw [if_pos (.inr h2)]
      obtain ⟨va, vc, rfl⟩ := own_slice h.own
      have hc := h.cell
      clear h h1
      go_enter Tryd.func22, Tryd.ntmps22
      go_wp2_with fail
      go_ret2
      exact ⟨rfl, Below.refl _ _⟩
    · rw [if_neg (by omega)]
      have h2' : 1048575 - (H.length : Int) < i := by omega
      obtain ⟨j, rfl⟩ : ∃ j : Nat, i = 1048575 - (j : Int) := ⟨(1048575 - i).toNat, by omega⟩
      have hj : j < H.length := by omega
      obtain ⟨t, ht⟩ : ∃ t, H[j]? = some t := ⟨_, List.getElem?_eq_getElem hj⟩
      have hv : valP H (1048575 - (j : Int)).toNat = t := by
        unfold valP
        rw [show TOP - (1048575 - (j : Int)).toNat = j by omega, List.getD_eq_getElem?_getD, ht]; rfl
      rw [hv]
      obtain ⟨g, cap, rfl, hcell⟩ := h.item ht
      have hc := h.cell
      have hx : 1048575 - (1048575 - (j : Int)) = (j : Int) := by omega
      have hji : (j : Int) < (H.length : Int) := by omega
      clear h hv h1 h2 ht
      go_enter Tryd.func22, Tryd.ntmps22
      go_wp2_with fail
      go_ret2
      exact ⟨rfl, Below.refl _ _⟩
end Go.Proofs.YtnaodgljdbkmnaaDoor
