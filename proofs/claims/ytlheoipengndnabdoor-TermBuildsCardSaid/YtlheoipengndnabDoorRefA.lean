/- term, the document's: number, parts, none, public. -/
import Derived.Test.YtlheoipengndnabDoorTermM
namespace Go.Proofs.YtlheoipengndnabDoor
set_option linter.unusedVariables false
open Go.RowKit
/-- where the rest begins -/
def numV (z : Nat) : Option (Nat × List UInt8) → Value
  | none => .tuple #[.int .u64 0, .int .i64 (-1)]
  | some (n, r) => .tuple #[.int .u64 n, .int .i64 ((z - r.length : Nat) : Int)]
theorem drop_cons (s : ByteArray) (i : Nat) (h : i < s.size) : s.data.toList.drop i = s[i] :: s.data.toList.drop (i + 1) := by
  rw [List.drop_eq_getElem_cons (by rw [list_size]; exact h)]; rfl
theorem drop_nil (s : ByteArray) (i : Nat) (h : s.size ≤ i) : s.data.toList.drop i = [] := List.drop_of_length_le (by rw [list_size]; exact h)
theorem drop_len (s : ByteArray) (i : Nat) : (s.data.toList.drop i).length = s.size - i := by rw [List.length_drop, list_size]
/-- the number so far -/
def numAt (e : UInt8) (first : Bool) (n : Nat) (l : List UInt8) : Option (Nat × List UInt8) := if first then num e l else numTail e n l
theorem numAt_end {e : UInt8} {n : Nat} {r : List UInt8} : numAt e false n (e :: r) = some (n, r) := by simp [numAt, numTail]
theorem numAt_bad {e c : UInt8} {b : Bool} {n : Nat} {r : List UInt8} (h : ¬ (48 ≤ c.toNat ∧ c.toNat ≤ 57)) (h1 : b = true ∨ c ≠ e) : numAt e b n (c :: r) = none := by
  cases b with
  | true => simp only [numAt, if_true, num, if_neg h]
  | false =>
    have hc : c ≠ e := h1.resolve_left (by decide)
    have h2 : ¬ (48 ≤ c.toNat ∧ c.toNat ≤ 57 ∧ n ≠ 0 ∧ n * 10 + (c.toNat - 48) ≤ 9223372036854775807) := fun x => h ⟨x.1, x.2.1⟩
    simp only [numAt, Bool.false_eq_true, if_false, numTail, if_neg hc, if_neg h2]
theorem numAt_stop {e c : UInt8} {n : Nat} {r : List UInt8} (hc : c ≠ e) (h : n = 0 ∨ 9223372036854775807 < n * 10 + (c.toNat - 48)) : numAt e false n (c :: r) = none := by
  have h2 : ¬ (48 ≤ c.toNat ∧ c.toNat ≤ 57 ∧ n ≠ 0 ∧ n * 10 + (c.toNat - 48) ≤ 9223372036854775807) := fun x => by
    rcases h with h | h
    · exact x.2.2.1 h
    · exact Nat.lt_irrefl _ (Nat.lt_of_lt_of_le h x.2.2.2)
  simp only [numAt, Bool.false_eq_true, if_false, numTail, if_neg hc, if_neg h2]
theorem numAt_next {e c : UInt8} {b : Bool} {n : Nat} {r : List UInt8} (hc : c ≠ e) (h : 48 ≤ c.toNat ∧ c.toNat ≤ 57) (h1 : b = true → n = 0) (h2 : b = false → n ≠ 0) (h3 : n * 10 + (c.toNat - 48) ≤ 9223372036854775807) : numAt e b n (c :: r) = numAt e false (n * 10 + (c.toNat - 48)) r := by
  cases b with
  | true =>
    rw [h1 rfl, Nat.zero_mul, Nat.zero_add]
    simp only [numAt, if_true, num, if_pos h, Bool.false_eq_true, if_false]
  | false =>
    have h4 : 48 ≤ c.toNat ∧ c.toNat ≤ 57 ∧ n ≠ 0 ∧ n * 10 + (c.toNat - 48) ≤ 9223372036854775807 := ⟨h.1, h.2, h2 rfl, h3⟩
    simp only [numAt, Bool.false_eq_true, if_false, numTail, if_neg hc, if_pos h4]
theorem numAt_nil {e : UInt8} {b : Bool} {n : Nat} : numAt e b n [] = none := by cases b <;> rfl
set_option maxRecDepth 100000 in
set_option maxHeartbeats 4000000 in
theorem rnumber_any (s : ByteArray) (at_ : Nat) (ec : Int) (E : UInt8) (hE : (E.toNat : Int) = ec) (hn : ¬ (48 ≤ E.toNat ∧ E.toNat ≤ 57)) (w : World) (hs : s.size ≤ 9223372036854775806) (ha : at_ ≤ s.size) :
    Calls Tryd.prog 52 #[.string s, .int .i64 at_, .int .u8 ec] w fun e w' => w = w' ∧ e = .returned (numV s.size (num E (s.data.toList.drop at_))) := by
  obtain ⟨P, hP⟩ : ∃ P, num E (s.data.toList.drop at_) = P := ⟨_, rfl⟩
  have HP := Lib.hid hP
  rw [hP]
  have HE := Lib.hid hE
  have HS := Lib.hid hs
  have hE0 : 0 ≤ ec := by omega
  have hE1 : ec ≤ 255 := by have := E.toNat_lt; omega
  obtain ⟨z, hz⟩ : ∃ z : Int, (s.size : Int) = z := ⟨_, rfl⟩
  have hzb : z ≤ 9223372036854775806 := by omega
  clear hP hE hs
  go_enter Tryd.func52, Tryd.ntmps52
  go_wp2_with fail
  go_loop [8, 9] (fun nv iv => ∃ (i n : Nat) (y : Int), at_ ≤ i ∧ i ≤ s.size ∧ iv = .int .i64 i ∧ nv = .int .u64 y ∧ 0 ≤ y ∧ y ≤ 9223372036854775807 ∧ Hid (y = (n : Int)) ∧ (i = at_ → y = 0) ∧ Hid (P = numAt E (i == at_) n (s.data.toList.drop i))) (fun _ iv => s.size - (intOf iv).toNat)
  case atStart => exact ⟨at_, 0, 0, Nat.le_refl _, ha, rfl, rfl, by omega, by omega, rfl, fun _ => rfl, by rw [← HP.out]; simp [numAt, Hid]⟩
  case round =>
    obtain ⟨i, n, y, hi0, hi1, rfl, rfl, hy0, hy1, hy, hy2, hI⟩ := hrel
    by_cases hlt : i < s.size
    · obtain ⟨c, hc⟩ : ∃ c, s[i] = c := ⟨_, rfl⟩
      obtain ⟨x, hx⟩ : ∃ x : Int, (c.toNat : Int) = x := ⟨_, rfl⟩
      have hx0 : 0 ≤ x := by omega
      have hx1 : x ≤ 255 := by have := c.toNat_lt; omega
      have hdr := drop_cons s i hlt
      rw [hc] at hdr
      rw [hdr] at hI
      have HX := Lib.hid hx
      have hlz : (i : Int) < z := by omega
      have hli : (i : Int) < (s.size : Int) := by omega
      have hne : (48 ≤ c.toNat ∧ c.toNat ≤ 57) → c ≠ E := fun h e => hn (by rw [← e]; exact h)
      have HNE := Lib.hid hne
      have HCE : Hid ((x == ec) = (c == E)) := by
        show _ = _
        rw [← hx, ← HE.out, Bool.eq_iff_iff, beq_iff_eq, beq_iff_eq]
        exact ⟨fun h => UInt8.toNat_inj.mp (by omega), fun h => by rw [h]⟩
      clear hdr hne
      by_cases h1 : at_ < i ∧ c = E
      · obtain ⟨hai, rfl⟩ := h1
        have hce : (x == ec) = true := by rw [HCE.out]; simp
        have hii : (at_ : Int) < (i : Int) := by omega
        have hbf : (i == at_) = false := beq_eq_false_iff_ne.mpr (by omega)
        have hfin : P = some (n, s.data.toList.drop (i + 1)) := by rw [hI.out, hbf, numAt_end]
        have HFIN : Hid (numV s.size P = .tuple #[.int .u64 y, .int .i64 ((i : Int) + 1)]) := by
          show _ = _
          rw [hfin]
          simp only [numV, drop_len]
          rw [hy.out, show s.size - (s.size - (i + 1)) = i + 1 by omega]; rfl
        clear hI hfin hbf
        go_wp2
        go_ret2
        exact ⟨rfl, by rw [HFIN.out]; rfl⟩
      · by_cases hdig : 48 ≤ c.toNat ∧ c.toNat ≤ 57
        · have hcE := HNE.out hdig
          have hce : (x == ec) = false := by rw [HCE.out]; exact beq_eq_false_iff_ne.mpr hcE
          have hd0 : 48 ≤ x := by omega
          have hd1 : x ≤ 57 := by omega
          by_cases hai : at_ < i
          · have hii : (at_ : Int) < (i : Int) := by omega
            have hbf : (i == at_) = false := beq_eq_false_iff_ne.mpr (by omega)
            rw [hbf] at hI
            by_cases hy00 : y = 0
            · have HFIN : Hid (numV s.size P = .tuple #[.int .u64 0, .int .i64 (-1)]) := by show _ = _; rw [hI.out, numAt_stop hcE (.inl (by have := hy.out; omega))]; rfl
              subst hy00
              clear hI hbf hy h1 hdig hy2
              go_wp2
              go_ret2
              exact ⟨rfl, by rw [HFIN.out]; rfl⟩
            · have hy0n : (y == 0) = false := beq_eq_false_iff_ne.mpr hy00
              by_cases hov : 9223372036854775807 < y * 10 + (x - 48)
              · have hov' : (9223372036854775807 - (x - 48)) / 10 < y := by omega
                have HFIN : Hid (numV s.size P = .tuple #[.int .u64 0, .int .i64 (-1)]) := by show _ = _; rw [hI.out, numAt_stop hcE (.inr (by have := hy.out; omega))]; rfl
                clear hI hbf hy h1 hdig hy2 hov
                go_wp2
                go_ret2
                exact ⟨rfl, by rw [HFIN.out]; rfl⟩
              · have hov' : ¬ (9223372036854775807 - (x - 48)) / 10 < y := by omega
                have hsum : y * 10 + (x - 48) ≤ 9223372036854775807 := by omega
                have hsum0 : 0 ≤ y * 10 + (x - 48) := by omega
                have hsum1 : y * 10 ≤ 9223372036854775807 := by omega
                have HN : Hid (P = numAt E false (n * 10 + (c.toNat - 48)) (s.data.toList.drop (i + 1))) := by
                  show _ = _
                  rw [hI.out, numAt_next hcE hdig (fun h => by cases h) (fun _ => by have := hy.out; omega) (by have := hy.out; omega)]
                have HY : Hid (y * 10 + (x - 48) = ((n * 10 + (c.toNat - 48) : Nat) : Int)) := by show _ = _; have := hy.out; omega
                clear hI hbf hy h1 hdig hy2 hov hy00
                go_wp2
                go_round
                case rel => exact ⟨i + 1, _, _, by omega, by omega, by go_num, rfl, hsum0, hsum, HY.out, fun h => by omega, by rw [show (i + 1 == at_) = false from beq_eq_false_iff_ne.mpr (by omega)]; exact HN.out⟩
                case measure => simp [intOf]; omega
          · obtain rfl : i = at_ := by omega
            have hy00 := hy2 rfl
            subst hy00
            have hii : ¬ (i : Int) < (i : Int) := by omega
            have hbt : (i == i) = true := by simp
            rw [hbt] at hI
            have HN : Hid (P = numAt E false (c.toNat - 48) (s.data.toList.drop (i + 1))) := by
              show _ = _
              have h0 : n = 0 := by have := hy.out; omega
              rw [hI.out, numAt_next hcE hdig (fun _ => h0) (fun h => by cases h) (by omega), h0, Nat.zero_mul, Nat.zero_add]
            have HY : Hid (x - 48 = ((c.toNat - 48 : Nat) : Int)) := by show _ = _; have := HX.out; omega
            have hov' : ¬ (9223372036854775807 - (x - 48)) / 10 < 0 := by omega
            have hsum0 : 0 ≤ x - 48 := by omega
            have hsum : x - 48 ≤ 9223372036854775807 := by omega
            clear hI hbt hy h1 hdig hy2
            go_wp2
            go_round
            case rel => exact ⟨i + 1, _, _, by omega, by omega, by go_num, rfl, hsum0, hsum, HY.out, fun h => by omega, by rw [show (i + 1 == i) = false from beq_eq_false_iff_ne.mpr (by omega)]; exact HN.out⟩
            case measure => simp [intOf]; omega
        · have HFIN : Hid (numV s.size P = .tuple #[.int .u64 0, .int .i64 (-1)]) := by
            show _ = _
            rw [hI.out, numAt_bad hdig (by
              by_cases hi : i = at_
              · left; rw [hi]; simp
              · right; exact fun e => h1 ⟨by omega, e⟩)]
            rfl
          have hstop : x < 48 ∨ 57 < x := by omega
          have hcond : ¬ ((x == ec) = true ∧ (at_ : Int) < (i : Int)) := fun h => h1 ⟨by omega, by have := h.1; rw [HCE.out] at this; exact eq_of_beq this⟩
          clear hI hy h1 hdig hy2
          rcases hstop with hs1 | hs1
          · by_cases hce : (x == ec) = true
            · have hii : ¬ (at_ : Int) < (i : Int) := fun h => hcond ⟨hce, h⟩
              clear hcond
              go_wp2
              go_ret2
              exact ⟨rfl, by rw [HFIN.out]; rfl⟩
            · have hce' : (x == ec) = false := by simpa using hce
              clear hcond hce
              go_wp2
              go_ret2
              exact ⟨rfl, by rw [HFIN.out]; rfl⟩
          · have hs2 : ¬ x < 48 := by omega
            by_cases hce : (x == ec) = true
            · have hii : ¬ (at_ : Int) < (i : Int) := fun h => hcond ⟨hce, h⟩
              clear hcond
              go_wp2
              go_ret2
              exact ⟨rfl, by rw [HFIN.out]; rfl⟩
            · have hce' : (x == ec) = false := by simpa using hce
              clear hcond hce
              go_wp2
              go_ret2
              exact ⟨rfl, by rw [HFIN.out]; rfl⟩
    · obtain rfl : s.size = i := by omega
      have HFIN : Hid (numV s.size P = .tuple #[.int .u64 0, .int .i64 (-1)]) := by show _ = _; rw [hI.out, drop_nil s _ (Nat.le_refl _), numAt_nil]; rfl
      have hzz : ¬ (z : Int) < z := by omega
      clear hI hy hy2
      go_wp2
      go_ret2
      exact ⟨rfl, by rw [HFIN.out]; rfl⟩
end Go.Proofs.YtlheoipengndnabDoor
