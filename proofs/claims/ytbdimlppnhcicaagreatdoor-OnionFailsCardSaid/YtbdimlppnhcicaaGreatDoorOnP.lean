/- digits -/
import Derived.Test.YtbdimlppnhcicaaGreatDoorNum
import Derived.Lib.ItoaNum
import Derived.Lib.ParseIntB
import Derived.Lib.ParseIntBCases
namespace Go.Proofs.YtbdimlppnhcicaaGreatDoor
set_option linter.unusedVariables false
/-! digits -/
def isDig (c : UInt8) : Bool := decide (48 ≤ c.toNat ∧ c.toNat ≤ 57)
def decF (n : Nat) (l : List UInt8) : Nat := l.foldl (fun n c => n * 10 + (c.toNat - 48)) n
def decV (l : List UInt8) : Nat := decF 0 l
def goodB (l : List UInt8) : Bool := l != [] && l.all isDig && (decide (l.length ≤ 1) || l.head? != some 48)
def numN (l : List UInt8) (most : Nat) : Option Nat := if goodB l && decide (decV l ≤ most) then some (decV l) else none
theorem decF_snoc (n : Nat) (l : List UInt8) (c : UInt8) : decF n (l ++ [c]) = decF n l * 10 + (c.toNat - 48) := by simp [decF]
theorem decF_cons (n : Nat) (c : UInt8) (l : List UInt8) : decF n (c :: l) = decF (n * 10 + (c.toNat - 48)) l := by unfold decF; rw [List.foldl_cons]
theorem decF_ge (l : List UInt8) : ∀ n : Nat, n * 10 ^ l.length ≤ decF n l := by
  induction l with
  | nil => intro n; simp [decF]
  | cons c l ih =>
    intro n
    have h0 := ih (n * 10 + (c.toNat - 48))
    have h1 : n * 10 ^ (l.length + 1) = (n * 10) * 10 ^ l.length := by rw [Nat.pow_succ, Nat.mul_comm (10 ^ l.length) 10, Nat.mul_assoc]
    rw [List.length_cons, h1, decF_cons]
    exact Nat.le_trans (Nat.mul_le_mul_right _ (Nat.le_add_right _ _)) h0
theorem decF_lt (l : List UInt8) : ∀ n : Nat, l.all isDig = true → decF n l < (n + 1) * 10 ^ l.length := by
  induction l with
  | nil => intro n _; simp [decF]
  | cons c l ih =>
    intro n h
    simp only [List.all_cons, Bool.and_eq_true] at h
    have hc : c.toNat ≤ 57 := (of_decide_eq_true h.1).2
    have h0 := ih (n * 10 + (c.toNat - 48)) h.2
    have h1 : (n + 1) * 10 ^ (l.length + 1) = ((n + 1) * 10) * 10 ^ l.length := by rw [Nat.pow_succ, Nat.mul_comm (10 ^ l.length) 10, Nat.mul_assoc]
    have h2 : n * 10 + (c.toNat - 48) + 1 ≤ (n + 1) * 10 := by omega
    rw [List.length_cons, h1, decF_cons]
    exact Nat.lt_of_lt_of_le h0 (Nat.mul_le_mul_right _ h2)
theorem good_cons {c : UInt8} {l : List UInt8} (h : goodB (c :: l) = true) : isDig c = true ∧ l.all isDig = true ∧ (l ≠ [] → c ≠ 48) := by
  unfold goodB at h
  simp only [List.all_cons, Bool.and_eq_true, Bool.or_eq_true, decide_eq_true_eq, bne_iff_ne, ne_eq, List.head?_cons, Option.some.injEq, List.length_cons] at h
  refine ⟨h.1.2.1, h.1.2.2, fun hl => ?_⟩
  rcases h.2 with h | h
  · exact absurd (List.length_eq_zero_iff.1 (by omega)) hl
  · exact h
theorem good_mk {c : UInt8} {l : List UInt8} (h1 : isDig c = true) (h2 : l.all isDig = true) (h3 : l ≠ [] → c ≠ 48) : goodB (c :: l) = true := by
  unfold goodB
  simp only [List.all_cons, Bool.and_eq_true, Bool.or_eq_true, decide_eq_true_eq, bne_iff_ne, ne_eq, List.head?_cons, Option.some.injEq, List.length_cons]
  refine ⟨⟨by simp, h1, h2⟩, ?_⟩
  by_cases hl : l = []
  · left; simp [hl]
  · right; exact h3 hl
theorem dig_of (d : Nat) (h : d < 10) : (UInt8.ofNat (48 + d)).toNat = 48 + d := by
  rw [UInt8.toNat_ofNat']; omega
theorem good_snoc {l : List UInt8} {c : UInt8} (h : goodB l = true) (hl : l ≠ [48]) (hc : isDig c = true) : goodB (l ++ [c]) = true := by
  cases l with
  | nil => simp [goodB] at h
  | cons a l =>
    obtain ⟨h1, h2, h3⟩ := good_cons h
    refine good_mk h1 (show (l ++ [c]).all isDig = true by rw [List.all_append, h2]; simp [hc]) (fun _ => ?_)
    by_cases hn : l = []
    · subst hn; exact fun e => hl (by rw [e])
    · exact h3 hn
theorem dec_good : ∀ (u : Nat), goodB (Lib.decDigits u) = true ∧ decV (Lib.decDigits u) = u ∧ (u ≠ 0 → Lib.decDigits u ≠ [48]) := by
  intro u
  induction u using Nat.strongRecOn with
  | _ u ih =>
    by_cases h : u < 10
    · rw [Lib.decDigits, dif_pos h]
      have hd := dig_of u h
      refine ⟨good_mk (by unfold isDig; rw [hd]; simp; omega) rfl (fun h => absurd rfl h), ?_, fun h0 e => ?_⟩
      · unfold decV; rw [decF_cons]; show 0 * 10 + ((UInt8.ofNat (48 + u)).toNat - 48) = u
        rw [hd]; omega
      · have := congrArg (fun l => (l.headD 0).toNat) e
        simp only [List.headD_cons] at this
        rw [hd] at this
        have h48 : (48 : UInt8).toNat = 48 := rfl
        omega
    · obtain ⟨h1, h2, h3⟩ := ih (u / 10) (by omega)
      rw [Lib.decDigits, dif_neg h]
      have hd := dig_of (u % 10) (by omega)
      refine ⟨good_snoc h1 (h3 (by omega)) (by unfold isDig; rw [hd]; simp; omega), ?_, fun _ e => ?_⟩
      · show decF 0 _ = u
        rw [decF_snoc, hd, show decF 0 (Lib.decDigits (u / 10)) = u / 10 from h2]; omega
      · have := congrArg List.length e
        simp only [List.length_append, List.length_cons, List.length_nil] at this
        have : Lib.decDigits (u / 10) = [] := List.length_eq_zero_iff.1 (by omega)
        rw [this] at h1; simp [goodB] at h1
theorem good_dec : ∀ (n : Nat) (l : List UInt8), l.length ≤ n → goodB l = true → Lib.decDigits (decV l) = l
  | 0, l, hl, h => by
    have : l = [] := List.length_eq_zero_iff.1 (by omega)
    subst this; simp [goodB] at h
  | n + 1, l, hl, h => by
    rcases List.eq_nil_or_concat l with rfl | ⟨l', c, rfl⟩
    · simp [goodB] at h
    rw [List.concat_eq_append] at *
    by_cases hn : l' = []
    · subst hn
      simp only [List.nil_append] at *
      obtain ⟨h1, _, _⟩ := good_cons h
      have h1 := of_decide_eq_true h1
      have hv : decV [c] = c.toNat - 48 := by unfold decV; rw [decF_cons]; show 0 * 10 + (c.toNat - 48) = _; omega
      rw [hv, Lib.decDigits, dif_pos (by omega), show 48 + (c.toNat - 48) = c.toNat by omega]
      congr 1
      exact UInt8.toNat_inj.1 (by rw [UInt8.toNat_ofNat']; have := c.toNat_lt; omega)
    · have hc : isDig c = true := by
        unfold goodB at h
        simp only [List.all_append, Bool.and_eq_true] at h
        have := h.1.2.2; simpa using this
      have hg : goodB l' = true := by
        cases l' with
        | nil => exact absurd rfl hn
        | cons a l' =>
          rw [List.cons_append] at h
          obtain ⟨h1, h2, h3⟩ := good_cons h
          rw [List.all_append, Bool.and_eq_true] at h2
          exact good_mk h1 h2.1 (fun _ => h3 (by simp))
      have ih := good_dec n l' (by simp at hl; omega) hg
      have hne : 1 ≤ decV l' := by
        cases l' with
        | nil => exact absurd rfl hn
        | cons a l' =>
          rw [List.cons_append] at h
          obtain ⟨h1, _, h3⟩ := good_cons h
          have h1 := of_decide_eq_true h1
          have h48 : a.toNat ≠ 48 := fun e => h3 (by simp) (UInt8.toNat_inj.1 (by rw [e]; rfl))
          unfold decV
          rw [decF_cons]
          refine Nat.le_trans ?_ (decF_ge l' (0 * 10 + (a.toNat - 48)))
          have := Nat.pow_pos (n := l'.length) (show 0 < 10 by omega)
          exact Nat.mul_pos (by omega) this
      have hc' := of_decide_eq_true hc
      have hv : decV (l' ++ [c]) = decV l' * 10 + (c.toNat - 48) := decF_snoc 0 l' c
      rw [hv, Lib.decDigits, dif_neg (by omega), show (decV l' * 10 + (c.toNat - 48)) / 10 = decV l' by omega, show (decV l' * 10 + (c.toNat - 48)) % 10 = c.toNat - 48 by omega, ih, show 48 + (c.toNat - 48) = c.toNat by omega]
      congr 2
      exact UInt8.toNat_inj.1 (by rw [UInt8.toNat_ofNat']; have := c.toNat_lt; omega)
theorem parseM_dig (M : Nat) (hM : M ≤ 18446744073709551615) : ∀ (l : List UInt8) (n : Nat), l.all isDig = true → decF n l ≤ M → Lib.parseUintM M n l = .ok (decF n l)
  | [], n, _, _ => rfl
  | c :: l, n, h, hm => by
    simp only [List.all_cons, Bool.and_eq_true] at h
    have hc := of_decide_eq_true h.1
    rw [decF_cons] at hm ⊢
    have h1 := decF_ge l (n * 10 + (c.toNat - 48))
    have h2 : n * 10 + (c.toNat - 48) ≤ decF (n * 10 + (c.toNat - 48)) l := Nat.le_trans (Nat.le_mul_of_pos_right _ (Nat.pow_pos (by omega))) h1
    unfold Lib.parseUintM
    rw [if_pos hc, if_neg (by omega), if_neg (by omega)]
    exact parseM_dig M hM l _ h.2 hm
theorem parse_dig {l : List UInt8} (h : goodB l = true) (hm : decV l ≤ 9223372036854775807) : Lib.parseIntB 64 l = .ok (decV l : Int) := by
  cases l with
  | nil => simp [goodB] at h
  | cons c l =>
    obtain ⟨h1, h2, _⟩ := good_cons h
    have hc := of_decide_eq_true h1
    have hp : Lib.parseUintM (2 ^ 64 - 1) 0 (c :: l) = .ok (decV (c :: l)) := parseM_dig _ (by omega) (c :: l) 0 (by simp [h1, h2]) (by show decV _ ≤ _; omega)
    unfold Lib.parseIntB
    dsimp only
    rw [if_neg (by omega)]
    unfold Lib.parseUintB
    rw [if_neg (by simp), hp]
    dsimp only
    rw [if_neg (by omega), if_neg (by omega), if_neg (by omega)]
/-- what ParseInt and FormatInt take -/
theorem num_of_parse {l : List UInt8} {most : Nat} {v : Int} (hm : most ≤ 9223372036854775807) (hp : Lib.parseIntB 64 l = .ok v) :
    (numN l most).isSome = (decide (0 ≤ v) && decide (v ≤ (most : Int)) && decide (Lib.itoa v = l)) ∧ (∀ u, numN l most = some u → v = (u : Int)) := by
  have hu : ∀ u, numN l most = some u → v = (u : Int) := by
    intro u h
    unfold numN at h
    by_cases hg : (goodB l && decide (decV l ≤ most)) = true
    · rw [if_pos hg] at h
      cases h
      rw [Bool.and_eq_true, decide_eq_true_eq] at hg
      have := parse_dig hg.1 (Nat.le_trans hg.2 hm)
      rw [hp] at this
      injection this
    · rw [if_neg hg] at h; cases h
  refine ⟨?_, hu⟩
  rw [Bool.eq_iff_iff, Bool.and_eq_true, Bool.and_eq_true, decide_eq_true_eq, decide_eq_true_eq, decide_eq_true_eq]
  constructor
  · intro h
    obtain ⟨u, hu'⟩ := Option.isSome_iff_exists.1 h
    have hv := hu u hu'
    subst hv
    unfold numN at hu'
    by_cases hg : (goodB l && decide (decV l ≤ most)) = true
    · rw [if_pos hg] at hu'
      cases hu'
      rw [Bool.and_eq_true, decide_eq_true_eq] at hg
      refine ⟨⟨by omega, by omega⟩, ?_⟩
      unfold Lib.itoa
      rw [if_neg (by omega), Int.toNat_natCast]
      exact good_dec _ l (Nat.le_refl _) hg.1
    · rw [if_neg hg] at hu'; cases hu'
  · rintro ⟨⟨h0, h1⟩, h2⟩
    unfold Lib.itoa at h2
    rw [if_neg (by omega)] at h2
    obtain ⟨g1, g2, _⟩ := dec_good v.toNat
    rw [h2] at g1 g2
    unfold numN
    rw [g1, g2, Bool.true_and, if_pos (by rw [decide_eq_true_eq]; omega)]; rfl
theorem num_of_bad {l : List UInt8} {most : Nat} (hm : most ≤ 9223372036854775807) (hp : ∀ v, Lib.parseIntB 64 l ≠ .ok v) : numN l most = none := by
  unfold numN
  by_cases hg : (goodB l && decide (decV l ≤ most)) = true
  · rw [Bool.and_eq_true, decide_eq_true_eq] at hg
    exact absurd (parse_dig hg.1 (Nat.le_trans hg.2 hm)) (hp _)
  · rw [if_neg hg]
theorem num_itoa {n : Nat} {most : Nat} (h : n ≤ most) : numN (Lib.itoa (n : Int)) most = some n := by
  unfold Lib.itoa
  rw [if_neg (by omega), Int.toNat_natCast]
  obtain ⟨g1, g2, _⟩ := dec_good n
  unfold numN
  rw [g1, g2, Bool.true_and, if_pos (by rw [decide_eq_true_eq]; exact h)]
/-- too many digits -/
theorem num_long {l : List UInt8} {most : Nat} (hm : most ≤ 9223372036854775807) (hl : 19 < l.length) : numN l most = none := by
  unfold numN
  by_cases hg : (goodB l && decide (decV l ≤ most)) = true
  · rw [Bool.and_eq_true, decide_eq_true_eq] at hg
    cases l with
    | nil => simp at hl
    | cons c l =>
      obtain ⟨h1, h2, h3⟩ := good_cons hg.1
      have hc := of_decide_eq_true h1
      have h48 : c.toNat ≠ 48 := fun e => h3 (fun e => by rw [e] at hl; simp at hl) (UInt8.toNat_inj.1 (by rw [e]; rfl))
      have h4 := decF_ge l (0 * 10 + (c.toNat - 48))
      have h5 : 10 ^ 19 ≤ 10 ^ l.length := Nat.pow_le_pow_right (by omega) (by simp at hl; omega)
      have h6 : 10 ^ l.length ≤ (0 * 10 + (c.toNat - 48)) * 10 ^ l.length := Nat.le_mul_of_pos_left _ (by omega)
      have h7 : decV (c :: l) = decF (0 * 10 + (c.toNat - 48)) l := decF_cons 0 c l
      omega
  · rw [if_neg hg]
end Go.Proofs.YtbdimlppnhcicaaGreatDoor
