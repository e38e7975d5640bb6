/- Numbers in front of a byte: as the document reads them, and as strings.IndexByte and strconv.ParseInt do. No program in sight. -/
import Derived.Lib.ParseIntB
import Derived.Lib.Bytealg
import Derived.Test.YtakfhoodjcfpcaaDoorTlI
namespace Go.Proofs.YtakfhoodjcfpcaaDoor

/-- The rest of a number, up to the byte e: n is what was read. -/
def numTail (e : UInt8) : Nat → List UInt8 → Option (Nat × List UInt8)
  | _, [] => none
  | n, c :: r =>
    if c = e then some (n, r)
    else if 48 ≤ c.toNat ∧ c.toNat ≤ 57 ∧ n ≠ 0 ∧ n * 10 + (c.toNat - 48) ≤ 9223372036854775807 then numTail e (n * 10 + (c.toNat - 48)) r
    else none
/-- A number up to the byte e: it, and what stands behind that byte. -/
def num (e : UInt8) : List UInt8 → Option (Nat × List UInt8)
  | [] => none
  | c :: r => if 48 ≤ c.toNat ∧ c.toNat ≤ 57 then numTail e (c.toNat - 48) r else none

theorem numTail_no (e : UInt8) : ∀ (l : List UInt8) (n : Nat), e ∉ l → numTail e n l = none
  | [], _, _ => rfl
  | c :: r, n, h => by
    simp only [List.mem_cons, not_or] at h
    have hc : ¬ c = e := fun x => h.1 x.symm
    simp only [numTail, if_neg hc]
    split
    · exact numTail_no e r _ h.2
    · rfl

theorem numTail_le (e : UInt8) : ∀ (l : List UInt8) (n u : Nat) (r : List UInt8), n ≤ 9223372036854775807 → numTail e n l = some (u, r) → u ≤ 9223372036854775807
  | [], _, _, _, _, h => by simp [numTail] at h
  | c :: t, n, u, r, hn, h => by
    simp only [numTail] at h
    split at h
    · cases h; exact hn
    · split at h
      · rename_i h2; exact numTail_le e t _ u r h2.2.2.2 h
      · cases h

theorem numTail_ge (e : UInt8) : ∀ (d : List UInt8) (r r' : List UInt8) (n u : Nat), e ∉ d → numTail e n (d ++ e :: r) = some (u, r') → n * 10 ^ d.length ≤ u
  | [], r, r', n, u, _, h => by
    simp only [List.nil_append, numTail, if_true, Option.some.injEq, Prod.mk.injEq] at h
    simp [h.1]
  | c :: d, r, r', n, u, hd, h => by
    simp only [List.mem_cons, not_or] at hd
    have hc : ¬ c = e := fun x => hd.1 x.symm
    simp only [List.cons_append, numTail, if_neg hc] at h
    split at h
    · have := numTail_ge e d r r' _ u hd.2 h
      rw [List.length_cons, Nat.pow_succ]
      refine Nat.le_trans ?_ this
      rw [Nat.add_mul, ← Nat.mul_assoc]
      have e1 : n * 10 ^ d.length * 10 = n * 10 * 10 ^ d.length := by rw [Nat.mul_right_comm]
      omega
    · cases h

theorem parseM_ge : ∀ (d : List UInt8) (n u : Nat), Lib.parseUintM (2 ^ 64 - 1) n d = .ok u → n ≤ u
  | [], n, u, h => by simp only [Lib.parseUintM] at h; injection h with h; omega
  | c :: d, n, u, h => by
    simp only [Lib.parseUintM] at h
    split at h
    · split at h
      · cases h
      · split at h
        · cases h
        · have := parseM_ge d _ u h; omega
    · cases h

/-- Digits, then the byte e: what the document reads is what ParseUint spells, if it is no more than the greatest int64. -/
theorem numTail_parse (e : UInt8) : ∀ (d r : List UInt8) (n : Nat), e ∉ d → 1 ≤ n → n ≤ 9223372036854775807 →
    numTail e n (d ++ e :: r) = match Lib.parseUintM (2 ^ 64 - 1) n d with
      | .ok u => if u ≤ 9223372036854775807 then some (u, r) else none
      | _ => none
  | [], r, n, _, _, h2 => by simp [numTail, Lib.parseUintM, h2]
  | c :: d, r, n, hd, h1, h2 => by
    simp only [List.mem_cons, not_or] at hd
    have hc : ¬ c = e := fun x => hd.1 x.symm
    simp only [List.cons_append, numTail, if_neg hc, Lib.parseUintM]
    by_cases hdig : 48 ≤ c.toNat ∧ c.toNat ≤ 57
    · rw [if_pos hdig]
      by_cases hm : n * 10 + (c.toNat - 48) ≤ 9223372036854775807
      · rw [if_pos ⟨hdig.1, hdig.2, by omega, hm⟩, if_neg (by omega), if_neg (by omega)]
        exact numTail_parse e d r _ hd.2 (by omega) hm
      · rw [if_neg (fun x => hm x.2.2.2)]
        split
        · rename_i u hu
          split at hu
          · cases hu
          · split at hu
            · cases hu
            · have := parseM_ge d _ u hu
              rw [if_neg (by omega)]
        · rfl
    · rw [if_neg (fun x => hdig ⟨x.1, x.2.1⟩), if_neg hdig]

/-- where a byte first stands -/
theorem index_cut (c : UInt8) : ∀ l : List UInt8, Lib.indexByte l c ≠ -1 → ∃ d r, l = d ++ c :: r ∧ c ∉ d ∧ Lib.indexByte l c = (d.length : Int)
  | [], h => by simp [Lib.indexByte] at h
  | b :: l, h => by
    by_cases hb : b = c
    · exact ⟨[], l, by simp [hb], by simp, by simp [Lib.indexByte, hb]⟩
    · have hb' : (b == c) = false := by simpa using hb
      simp only [Lib.indexByte, hb', Bool.false_eq_true, if_false] at h ⊢
      by_cases h1 : Lib.indexByte l c = -1
      · simp [h1] at h
      · obtain ⟨d, r, hl, hd, hi⟩ := index_cut c l h1
        refine ⟨b :: d, r, by simp [hl], ?_, ?_⟩
        · simp only [List.mem_cons, not_or]; exact ⟨fun x => hb x.symm, hd⟩
        · have : ¬ (Lib.indexByte l c == -1) = true := by simpa using h1
          rw [if_neg this, hi]; simp
theorem index_none (c : UInt8) : ∀ l : List UInt8, Lib.indexByte l c = -1 → c ∉ l
  | [], _ => by simp
  | b :: l, h => by
    by_cases hb : b = c
    · simp [Lib.indexByte, hb] at h
    · have hb' : (b == c) = false := by simpa using hb
      simp only [Lib.indexByte, hb', Bool.false_eq_true, if_false] at h
      have h1 : Lib.indexByte l c = -1 := by
        by_cases h1 : Lib.indexByte l c = -1
        · exact h1
        · have : ¬ (Lib.indexByte l c == -1) = true := by simpa using h1
          rw [if_neg this] at h
          have := Lib.indexByte_ge l c
          omega
      simp only [List.mem_cons, not_or]
      exact ⟨fun x => hb x.symm, index_none c l h1⟩

/-- THE PROGRAM's WAY: no such byte. -/
theorem num_no (e : UInt8) (l : List UInt8) (h : Lib.indexByte l e = -1) : num e l = none := by
  have hn := index_none e l h
  cases l with
  | nil => rfl
  | cons c r =>
    simp only [List.mem_cons, not_or] at hn
    simp only [num]
    split
    · exact numTail_no e r _ hn.2
    · rfl
/-- .. the first byte is no digit -/
theorem num_first (e c : UInt8) (r : List UInt8) (h : ¬ (48 ≤ c.toNat ∧ c.toNat ≤ 57)) : num e (c :: r) = none := by
  simp only [num, if_neg h]
/-- .. nothing ahead of the byte (which is no digit) -/
theorem num_zero (e : UInt8) (l : List UInt8) (he : ¬ (48 ≤ e.toNat ∧ e.toNat ≤ 57)) (h : Lib.indexByte l e = 0) : num e l = none := by
  obtain ⟨d, r, hl, hd, hi⟩ := index_cut e l (by omega)
  have : d = [] := by
    rw [h] at hi
    exact List.eq_nil_of_length_eq_zero (by omega)
  subst this
  rw [hl]
  exact num_first e e r he
/-- .. a nought ahead of another digit -/
theorem num_nought (e : UInt8) (r : List UInt8) (h : 1 < Lib.indexByte ((48 : UInt8) :: r) e) : num e ((48 : UInt8) :: r) = none := by
  obtain ⟨d, t, hl, hd, hi⟩ := index_cut e ((48 : UInt8) :: r) (by omega)
  match d, hl, hd, hi with
  | [], _, _, hi => simp only [List.length_nil] at hi; omega
  | [_], _, _, hi => simp only [List.length_cons, List.length_nil] at hi; omega
  | x :: y :: d', hl, hd, _ =>
    simp only [List.cons_append, List.cons.injEq] at hl
    obtain ⟨_, rfl⟩ := hl
    simp only [List.mem_cons, not_or] at hd
    have hy : ¬ y = e := fun z => hd.2.1 z.symm
    simp [num, numTail, hy]
/-- .. too many digits -/
theorem num_many (e c : UInt8) (r : List UInt8) (hc : c ≠ 48) (h : 19 < Lib.indexByte (c :: r) e) : num e (c :: r) = none := by
  obtain ⟨d, t, hl, hd, hi⟩ := index_cut e (c :: r) (by omega)
  by_cases hdig : 48 ≤ c.toNat ∧ c.toNat ≤ 57
  · match d, hl, hd, hi with
    | [], _, _, hi => simp only [List.length_nil] at hi; omega
    | x :: d', hl, hd, hi =>
      simp only [List.cons_append, List.cons.injEq] at hl
      obtain ⟨rfl, rfl⟩ := hl
      simp only [List.mem_cons, not_or] at hd
      have h48 : c.toNat ≠ 48 := fun z => hc (UInt8.toNat_inj.1 (by simpa using z))
      simp only [num, if_pos hdig]
      cases hr : numTail e (c.toNat - 48) (d' ++ e :: t) with
      | none => rfl
      | some p =>
        exfalso
        obtain ⟨u, r'⟩ := p
        have h1 := numTail_ge e d' t r' _ u hd.2 hr
        have h2 := numTail_le e _ _ u r' (by omega) hr
        have h3 : 19 ≤ d'.length := by simp only [List.length_cons] at hi; omega
        have h4 : 10 ^ 19 ≤ 10 ^ d'.length := Nat.pow_le_pow_right (by omega) h3
        have h5 : 1 * 10 ^ d'.length ≤ (c.toNat - 48) * 10 ^ d'.length := Nat.mul_le_mul_right _ (by omega)
        have h6 : (10 : Nat) ^ 19 = 10000000000000000000 := by decide
        omega
  · exact num_first e c r hdig
/-- .. ParseInt's answer to what stands ahead of the byte -/
theorem num_parse (e c : UInt8) (r : List UInt8) (k : Nat) (hdig : 48 ≤ c.toNat ∧ c.toNat ≤ 57) (h : Lib.indexByte (c :: r) e = (k : Int)) (h1 : 1 ≤ k) (h0 : c = 48 → k = 1) :
    num e (c :: r) = match Lib.parseIntB 64 ((c :: r).take k) with
      | .ok v => some (v.toNat, (c :: r).drop (k + 1))
      | _ => none := by
  obtain ⟨d, t, hl, hd, hi⟩ := index_cut e (c :: r) (by omega)
  have hk : d.length = k := by omega
  have ht : (c :: r).take k = d := by rw [hl, ← hk]; simp
  have hdr : (c :: r).drop (k + 1) = t := by rw [hl, ← hk]; simp
  rw [ht, hdr]
  match d, hl, hd, hk with
  | [], _, _, hk => simp only [List.length_nil] at hk; omega
  | x :: d', hl, hd, hk =>
    simp only [List.cons_append, List.cons.injEq] at hl
    obtain ⟨rfl, rfl⟩ := hl
    simp only [List.mem_cons, not_or] at hd
    have n45 : ¬ c.toNat = 45 := by omega
    have n43 : ¬ (c.toNat = 43 ∨ c.toNat = 45) := by omega
    simp only [num, if_pos hdig, Lib.parseIntB, Lib.parseUintB, if_neg n43, if_neg n45, reduceCtorEq, if_false, Lib.parseUintM, Nat.zero_mul, Nat.zero_add]
    rw [if_neg (by omega), if_neg (by omega)]
    by_cases hc : c = 48
    · have hd0 : d' = [] := by
        have := h0 hc
        simp only [List.length_cons] at hk
        exact List.eq_nil_of_length_eq_zero (by omega)
      subst hd0 hc
      simp [numTail, Lib.parseUintM]
    · have h48 : c.toNat ≠ 48 := fun z => hc (UInt8.toNat_inj.1 (by simpa using z))
      rw [numTail_parse e d' t _ hd.2 (by omega) (by omega)]
      cases hp : Lib.parseUintM (2 ^ 64 - 1) (c.toNat - 48) d' with
      | ok u =>
        by_cases hu : u ≤ 9223372036854775807
        · have q1 : ¬ (¬ c.toNat = 45 ∧ 2 ^ (64 - 1) ≤ u) := by
            rw [show (2 : Nat) ^ (64 - 1) = 9223372036854775808 from by decide]; omega
          have q2 : ¬ (c.toNat = 45 ∧ 2 ^ (64 - 1) < u) := by omega
          simp only [if_pos hu, if_neg q1, if_neg q2, Int.toNat_natCast]
        · have q1 : ¬ c.toNat = 45 ∧ 2 ^ (64 - 1) ≤ u := by
            rw [show (2 : Nat) ^ (64 - 1) = 9223372036854775808 from by decide]; omega
          simp only [if_neg hu, if_pos q1]
      | _ => rfl
end Go.Proofs.YtakfhoodjcfpcaaDoor
