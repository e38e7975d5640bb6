/- onion: the document's numbers -/
import Derived.Test.YtbdimlppnhcicaaDoorOnB
import Derived.Deep.CutBlock
namespace Go.Proofs.YtbdimlppnhcicaaDoor
set_option linter.unusedVariables false
open Go.RowKit
theorem good_of {s : ByteArray} (h1 : s.data.toList.all isDig = true) (h0 : 0 < s.size) (h2 : 1 < s.size → s[0] ≠ 48) : goodB s.data.toList = true := by
  obtain ⟨⟨l⟩⟩ := s
  cases l with
  | nil => exact absurd h0 (by decide)
  | cons c l =>
    simp only [List.all_cons, Bool.and_eq_true] at h1
    refine good_mk h1.1 h1.2 (fun hl => h2 ?_)
    show 1 < (c :: l).length
    rw [List.length_cons]
    have := List.length_pos_iff.2 hl
    omega
theorem not_good {s : ByteArray} {i : Nat} (hi : i < s.size) (h : isDig s[i] = false) (most : Nat) : numN s.data.toList most = none := by
  unfold numN
  have : goodB s.data.toList = false := by
    cases hg : goodB s.data.toList with
    | false => rfl
    | true =>
      unfold goodB at hg
      simp only [Bool.and_eq_true] at hg
      have := List.all_eq_true.1 hg.1.2 s[i] (by
        have : s[i] = s.data.toList[i]'(by rw [list_size]; exact hi) := rfl
        rw [this]; exact List.getElem_mem _)
      rw [h] at this; cases this
  rw [this, Bool.false_and, if_neg (by decide)]
theorem not_good0 {s : ByteArray} (hi : 1 < s.size) (h : s[0] = 48) (most : Nat) : numN s.data.toList most = none := by
  unfold numN
  have : goodB s.data.toList = false := by
    cases hg : goodB s.data.toList with
    | false => rfl
    | true =>
      obtain ⟨⟨l⟩⟩ := s
      cases l with
      | nil => exact absurd hi (by decide)
      | cons c l =>
        obtain ⟨_, _, h3⟩ := good_cons hg
        have hl : l ≠ [] := fun e => by subst e; exact absurd (show 1 < 1 from hi) (Nat.lt_irrefl 1)
        exact absurd h (h3 hl)
  rw [this, Bool.false_and, if_neg (by decide)]
set_option maxRecDepth 100000 in
set_option maxHeartbeats 8000000 in
theorem dnum_any (t : ByteArray) (M : Int) (most : Nat) (w : World) (q : Op4) (hM : M = (most : Int)) (hm : most ≤ 9223372036854775807) (hu : q.u.size ≤ 16384)
    (HO : Calls Tryd.prog 92 #[.string t] w fun e w' => e = .returned (.tuple #[.string q.u, .bool (isX q)]) ∧ Below w.heap.size w w') : Calls Tryd.prog 93 #[.string t, .int .i64 M] w (NumOk q most w) := by
  have H := Lib.hid HO
  have HM := Lib.hid hm
  have HMM := Lib.hid hM
  have hM0 : 0 ≤ M := by omega
  have hM1 : M ≤ 9223372036854775807 := by omega
  obtain ⟨s, hs⟩ : ∃ s, q.u = s := ⟨_, rfl⟩
  obtain ⟨x, hx⟩ : ∃ x, isX q = x := ⟨_, rfl⟩
  have HS := Lib.hid hs
  have HX := Lib.hid hx
  rw [hs, hx] at H
  rw [hs] at hu
  clear HO hM hm hs hx
  have HNO : Hid (numN s.data.toList most = none → ∀ n : Int, (false = (isX q && (numN q.u.data.toList most).isSome)) ∧ (∀ u, isX q = true → numN q.u.data.toList most = some u → n = (u : Int))) := fun h n => by
    rw [HS.out, h]
    exact ⟨by simp, fun u _ h => by cases h⟩
  have hsz : (s.size : Int) ≤ 16384 := by omega
  cases x with
  | false =>
    have HF : Hid (false = (isX q && (numN q.u.data.toList most).isSome)) := by show _ = _; rw [HX.out]; rfl
    go_enter Tryd.func93, Tryd.ntmps93
    go_wp2_with (go_at_call 92; (with_reducible refine Calls.mono H.out ?_); rintro e w1 ⟨rfl, hb⟩; have B1 := Lib.hid hb; clear hb)
    go_ret2
    exact numOk_mk B1.out rfl HF.out (fun u h => by rw [HX.out] at h; cases h)
  | true =>
    by_cases hs0 : s = ⟨#[]⟩
    · subst hs0
      have HN := Lib.hid (HNO.out (by unfold numN; rw [show goodB (⟨#[]⟩ : ByteArray).data.toList = false from rfl, Bool.false_and, if_neg (by decide)]) 0)
      go_enter Tryd.func93, Tryd.ntmps93
      go_wp2_with (go_at_call 92; (with_reducible refine Calls.mono H.out ?_); rintro e w1 ⟨rfl, hb⟩; have B1 := Lib.hid hb; clear hb)
      go_ret2
      exact numOk_mk B1.out rfl HN.out.1 HN.out.2
    have hpos : 0 < s.size := by
      rcases Nat.eq_zero_or_pos s.size with h | h
      · exact absurd (ByteArray.ext (Array.eq_empty_of_size_eq_zero h)) hs0
      · exact h
    have e0 : (s.toList == []) = false := by have := toList_ne hs0; rw [empty_list] at this; exact this
    clear hs0
    by_cases h19 : 19 < s.size
    · have h19i : (19 : Int) < (s.size : Int) := by omega
      have HN := Lib.hid (HNO.out (num_long HM.out (by rw [list_size]; exact h19)) 0)
      go_enter Tryd.func93, Tryd.ntmps93
      go_wp2_with (go_at_call 92; (with_reducible refine Calls.mono H.out ?_); rintro e w1 ⟨rfl, hb⟩; have B1 := Lib.hid hb; clear hb)
      go_ret2
      exact numOk_mk B1.out rfl HN.out.1 HN.out.2
    have h19i : (s.size : Int) ≤ 19 := by omega
    have hposi : (0 : Int) < (s.size : Int) := by omega
    have HMAIN : Hid ((1 < s.size → s[0] ≠ 48) → ∀ (a : Act → World → Prop), True) := fun _ _ => trivial
    clear HMAIN
    by_cases hz : 1 < s.size ∧ s[0] = 48
    · obtain ⟨hz1, hz2⟩ := hz
      have hz1i : (1 : Int) < (s.size : Int) := by omega
      have HN := Lib.hid (HNO.out (not_good0 hz1 hz2 most) 0)
      have hz3 : ((s[0]).toNat : Int) = 48 := by rw [hz2]; rfl
      clear hz2 h19
      go_enter Tryd.func93, Tryd.ntmps93
      go_wp2_with (go_at_call 92; (with_reducible refine Calls.mono H.out ?_); rintro e w1 ⟨rfl, hb⟩; have B1 := Lib.hid hb; clear hb)
      go_ret2
      exact numOk_mk B1.out rfl HN.out.1 HN.out.2
    have HZ : Hid (1 < s.size → s[0] ≠ 48) := fun h1 h2 => hz ⟨h1, h2⟩
    have HZ3 : Hid (1 < s.size → (((s[0]).toNat : Int) == 48) = false) := fun h1 => by
      simp only [beq_eq_false_iff_ne, ne_eq]
      intro h'
      exact hz ⟨h1, UInt8.toNat_inj.1 (by simpa using (by omega : (s[0]).toNat = 48))⟩
    clear hz h19
    go_enter Tryd.func93, Tryd.ntmps93
    go_upto_region 2 with (go_at_call 92; (with_reducible refine Calls.mono H.out ?_); rintro e w1 ⟨rfl, hb⟩; have B1 := Lib.hid hb; clear hb)
    go_cut [35] from 15 to 36 (fun c wx => wx = w1 ∧ c = .bool false)
    case first =>
      have q19 := decN (19 < (s.size : Int)) (by omega)
      by_cases h1 : 1 < s.size
      · have h1i : (1 : Int) < (s.size : Int) := by omega
        have hz3 := HZ3.out h1
        go_wp2_with fail
        go_meet
        exact ⟨rfl, rfl⟩
      · have h1i : (s.size : Int) ≤ 1 := by omega
        go_wp2_with fail
        go_meet
        exact ⟨rfl, rfl⟩
    case rest =>
      obtain ⟨rfl, rfl⟩ := hcut
      go_wp2_with fail
      go_loop [8, 9] (fun nv iv => ∃ (i : Nat) (y : Int), i ≤ s.size ∧ iv = .int .i64 i ∧ nv = .int .u64 y ∧ Hid (DigAt s i y)) (fun _ iv => s.size - (intOf iv).toNat)
      case atStart => exact ⟨0, 0, Nat.zero_le _, rfl, rfl, rfl, rfl⟩
      case round =>
        obtain ⟨i, y, hi, rfl, rfl, hD⟩ := hrel
        have hy0 := (hD.out.lt hi).1
        by_cases hlt : i < s.size
        · obtain ⟨c, hc⟩ : ∃ c, s[i] = c := ⟨_, rfl⟩
          obtain ⟨x, hx⟩ : ∃ x : Int, (c.toNat : Int) = x := ⟨_, rfl⟩
          have hx0 : 0 ≤ x := by omega
          have hx1 : x ≤ 255 := by have := c.toNat_lt; omega
          have hii : (i : Int) < (s.size : Int) := by omega
          have hy1 : y ≤ 999999999999999999 := by
            have h1 := (hD.out.lt hi).2
            have h2 : (10 : Int) ^ i ≤ 10 ^ 18 := by
              have := Nat.pow_le_pow_right (show 0 < 10 by omega) (show i ≤ 18 by omega)
              exact_mod_cast this
            omega
          have HC := Lib.hid hc
          have HX := Lib.hid hx
          by_cases hd : 48 ≤ x ∧ x ≤ 57
          · obtain ⟨hd0, hd1⟩ := hd
            have HN := Lib.hid (hD.out.next hlt (by rw [hc]; unfold isDig; rw [decide_eq_true_eq]; omega))
            go_wp2_with fail
            go_round
            case rel =>
              refine ⟨i + 1, y * 10 + (x - 48), by omega, by go_num, rfl, ?_⟩
              have := HN.out
              rw [HC.out, HX.out] at this
              exact this
            case measure => simp [intOf]; omega
          · have HN := Lib.hid (HNO.out (not_good hlt (by rw [hc]; unfold isDig; rw [decide_eq_false_iff_not]; omega) most) 0)
            by_cases hd0 : x < 48
            · go_wp2_with fail
              go_ret2
              exact numOk_mk B1.out rfl HN.out.1 HN.out.2
            · have hd1 : 57 < x := by omega
              have hd0' : 48 ≤ x := by omega
              go_wp2_with fail
              go_ret2
              exact numOk_mk B1.out rfl HN.out.1 HN.out.2
        · obtain rfl : i = s.size := by omega
          obtain ⟨h1, h2⟩ := hD.out
          rw [show s.data.toList.take s.size = s.data.toList by rw [← list_size, List.take_length]] at h1 h2
          have hg := good_of h1 hpos HZ.out
          have hnum : numN s.data.toList most = if decide (decV s.data.toList ≤ most) = true then some (decV s.data.toList) else none := by unfold numN; rw [hg, Bool.true_and]
          have hy1 : y ≤ 9999999999999999999 := by
            have h1 := (hD.out.lt hi).2
            have h2 : (10 : Int) ^ s.size ≤ 10 ^ 19 := by
              have := Nat.pow_le_pow_right (show 0 < 10 by omega) (show s.size ≤ 19 by omega)
              exact_mod_cast this
            omega
          by_cases hym : y ≤ M
          · have HN : Hid (true = (isX q && (numN q.u.data.toList most).isSome) ∧ ∀ u, isX q = true → numN q.u.data.toList most = some u → y = (u : Int)) := by
              rw [HS.out, HX.out, hnum, if_pos (by rw [decide_eq_true_eq]; have := HMM.out; omega)]
              exact ⟨rfl, fun u _ h => by cases h; exact h2⟩
            clear h1 h2 hg hnum hD
            go_wp2_with fail
            go_ret2
            exact numOk_mk B1.out rfl HN.out.1 HN.out.2
          · have hym' : M < y := by omega
            have HN := Lib.hid (HNO.out (by rw [hnum, if_neg (by rw [decide_eq_true_eq]; have := HMM.out; omega)]))
            clear h1 h2 hg hnum hD
            obtain ⟨z, hz⟩ : ∃ z, IntKind.i64.wrap y = z := ⟨_, rfl⟩
            go_wp2_with fail
            go_ret2
            exact numOk_mk B1.out rfl (HN.out 0).1 (HN.out _).2
end Go.Proofs.YtbdimlppnhcicaaDoor
