/- seed: places, bits, what is kept. No program in sight. -/
namespace Go.Proofs.YtnaodgljdbkmnaaDoor
/-- a bit of a place -/
def bitP (i b : Nat) : Bool := (i / 2 ^ b) % 2 == 1
theorem pow_pos' (b : Nat) : 0 < 2 ^ b := Nat.pow_pos (by omega)
theorem div_pow (i b d : Nat) : i / 2 ^ (b + d) = i / 2 ^ b / 2 ^ d := by rw [Nat.pow_add, Nat.div_div_eq_div_mul]
theorem bit_same {i j b c : Nat} (hbc : b ≤ c) (h : i / 2 ^ b = j / 2 ^ b) : bitP i c = bitP j c := by
  obtain ⟨d, rfl⟩ := Nat.exists_eq_add_of_le hbc
  unfold bitP
  rw [div_pow, div_pow, h]
theorem div_same {i j b c : Nat} (hbc : b ≤ c) (h : i / 2 ^ b = j / 2 ^ b) : i / 2 ^ c = j / 2 ^ c := by
  obtain ⟨d, rfl⟩ := Nat.exists_eq_add_of_le hbc
  rw [div_pow, div_pow, h]
theorem bit_low {j b c : Nat} (hcb : c < b) (h : j % 2 ^ b = 0) : bitP j c = false := by
  obtain ⟨d, rfl⟩ : ∃ d, b = c + 1 + d := ⟨b - c - 1, by omega⟩
  obtain ⟨q, hq⟩ := Nat.dvd_of_mod_eq_zero h
  unfold bitP
  have e : j = 2 ^ c * (2 * (2 ^ d * q)) := by
    rw [hq, Nat.pow_add, Nat.pow_add, Nat.pow_one]
    simp only [Nat.mul_assoc]
  rw [e, Nat.mul_div_cancel_left _ (pow_pos' c), Nat.mul_mod_right]
  rfl
/-- how many bits are 0 from the lowest one on, twenty at most -/
def lowF : Nat → Nat → Nat
  | 0, _ => 0
  | f + 1, i => if i % 2 = 1 then 0 else lowF f (i / 2) + 1
def lowP (i : Nat) : Nat := lowF 20 i
theorem lowF_spec : ∀ f i, lowF f i ≤ f ∧ i % 2 ^ (lowF f i) = 0 ∧ (lowF f i < f → bitP i (lowF f i) = true)
  | 0, i => ⟨Nat.le_refl _, by simp [lowF, Nat.mod_one], fun h => absurd h (by simp [lowF])⟩
  | f + 1, i => by
    unfold lowF
    by_cases h : i % 2 = 1
    · rw [if_pos h]
      exact ⟨by omega, by simp [Nat.mod_one], fun _ => by unfold bitP; simp [h]⟩
    · rw [if_neg h]
      obtain ⟨h1, h2, h3⟩ := lowF_spec f (i / 2)
      refine ⟨by omega, ?_, fun hl => ?_⟩
      · rw [Nat.pow_succ, Nat.mul_comm, Nat.mod_mul, h2]; omega
      · have := h3 (by omega)
        unfold bitP at this ⊢
        rw [Nat.pow_succ, Nat.mul_comm, ← Nat.div_div_eq_div_mul]
        exact this
theorem low_le (i : Nat) : lowP i ≤ 20 := (lowF_spec 20 i).1
theorem low_mod (i : Nat) : i % 2 ^ lowP i = 0 := (lowF_spec 20 i).2.1
theorem low_bit (i : Nat) (h : lowP i < 20) : bitP i (lowP i) = true := (lowF_spec 20 i).2.2 h
/-- low is what it is -/
theorem low_eq {i k : Nat} (hk : k ≤ 20) (h1 : i % 2 ^ k = 0) (h2 : k < 20 → bitP i k = true) : lowP i = k := by
  rcases Nat.lt_trichotomy (lowP i) k with h | h | h
  · have := low_bit i (by omega)
    rw [bit_low h h1] at this; cases this
  · exact h
  · have := h2 (by have := low_le i; omega)
    rw [bit_low h (low_mod i)] at this; cases this
theorem low_ge {i k : Nat} (hk : k ≤ 20) (h1 : i % 2 ^ k = 0) : k ≤ lowP i := by
  rcases Nat.lt_or_ge (lowP i) k with h | h
  · have := low_bit i (by omega)
    rw [bit_low h h1] at this; cases this
  · exact h
/-- in one block of so many places -/
def inB (k i j : Nat) : Prop := i / 2 ^ k = j / 2 ^ k
theorem inB_iff {k i j : Nat} (h : i % 2 ^ k = 0) : inB k i j ↔ i ≤ j ∧ j < i + 2 ^ k := by
  unfold inB
  have hp := pow_pos' k
  obtain ⟨q, rfl⟩ := Nat.dvd_of_mod_eq_zero h
  rw [Nat.mul_div_cancel_left _ hp]
  generalize 2 ^ k = p at *
  have ej := Nat.div_add_mod j p
  have hm := Nat.mod_lt j hp
  constructor
  · intro e
    rw [← e] at ej
    omega
  · intro ⟨h1, h2⟩
    have e2 : (q + 1) * p = p * q + p := by rw [Nat.add_mul, Nat.one_mul, Nat.mul_comm]
    exact Nat.le_antisymm ((Nat.le_div_iff_mul_le hp).2 (by rw [Nat.mul_comm]; exact h1)) (Nat.le_of_lt_succ ((Nat.div_lt_iff_lt_mul hp).2 (by show j < (q + 1) * p; rw [e2]; exact h2)))
/-- is a place's secret kept, when all down to m were heard? -/
def keptP (m i : Nat) : Prop := ∀ j, m ≤ j → j < i → ¬ inB (lowP j) i j
theorem kept_self (m : Nat) : keptP m m := fun j h1 h2 => by omega
/-- what is kept when one more is heard -/
theorem kept_next {m i : Nat} (hi : m + 1 ≤ i) : keptP m i ↔ keptP (m + 1) i ∧ ¬ inB (lowP m) i m := by
  constructor
  · intro h
    exact ⟨fun j h1 h2 => h j (by omega) h2, h m (Nat.le_refl _) (by omega)⟩
  · intro ⟨h1, h2⟩ j hj1 hj2
    rcases Nat.lt_or_ge m j with h | h
    · exact h1 j h hj2
    · obtain rfl : j = m := by omega
      exact h2
theorem low_lt {i j : Nat} (h1 : i < j) (h2 : j < i + 2 ^ lowP i) : lowP j < lowP i := by
  rcases Nat.lt_or_ge (lowP j) (lowP i) with h | h
  · exact h
  · exfalso
    have hm : j % 2 ^ lowP i = 0 := by
      have := low_mod j
      obtain ⟨d, hd⟩ := Nat.exists_eq_add_of_le h
      rw [hd, Nat.pow_add] at this
      exact Nat.mod_eq_zero_of_dvd (Nat.dvd_trans (Nat.dvd_mul_right _ _) (Nat.dvd_of_mod_eq_zero this))
    obtain ⟨a, ha⟩ := Nat.dvd_of_mod_eq_zero (low_mod i)
    obtain ⟨b, hb⟩ := Nat.dvd_of_mod_eq_zero hm
    have hp := pow_pos' (lowP i)
    generalize 2 ^ lowP i = p at *
    rw [ha] at h1 h2
    rw [hb] at h1 h2
    have e1 : a < b := Nat.lt_of_mul_lt_mul_left h1
    have e2 : p * b < p * (a + 1) := by rw [Nat.mul_add, Nat.mul_one]; exact h2
    have := Nat.lt_of_mul_lt_mul_left e2
    omega
/-- what is kept behind the block of the last one has more bits that are 0 -/
theorem low_gt {m j : Nat} (hj : keptP m j) (h1 : m + 2 ^ lowP m ≤ j) (h20 : j < 2 ^ 20) : lowP m < lowP j := by
  rcases Nat.lt_or_ge (lowP m) (lowP j) with h | h
  · exact h
  · exfalso
    have hl := low_le m
    rcases Nat.eq_or_lt_of_le hl with e | e
    · rw [e] at h1; omega
    · have hb := low_bit m e
      have hmm := low_mod m
      generalize lowP m = k at *
      obtain ⟨a, ha⟩ := Nat.dvd_of_mod_eq_zero hmm
      have hp := pow_pos' k
      have hodd : a % 2 = 1 := by
        unfold bitP at hb
        rw [ha, Nat.mul_div_cancel_left _ hp] at hb
        simpa using hb
      -- the place above j that is a multiple of 2^(k+1)
      obtain ⟨j', hj'⟩ : ∃ j', 2 ^ (k + 1) * (j / 2 ^ (k + 1)) = j' := ⟨_, rfl⟩
      have hp1 := pow_pos' (k + 1)
      have hdm := Nat.div_add_mod j (2 ^ (k + 1))
      rw [hj'] at hdm
      have hml := Nat.mod_lt j hp1
      have hj'm : j' % 2 ^ (k + 1) = 0 := by rw [← hj']; exact Nat.mul_mod_right _ _
      have hlow := low_ge (by omega) hj'm
      have hlt : j' < j := by
        rcases Nat.eq_or_lt_of_le (show j' ≤ j by omega) with e | e
        · rw [e] at hlow; omega
        · exact e
      have hge : m < j' := by
        have hpp : 2 ^ (k + 1) = 2 * 2 ^ k := by rw [Nat.pow_succ, Nat.mul_comm]
        have e1 : m + 2 ^ k = 2 ^ (k + 1) * ((a + 1) / 2) := by
          have : a + 1 = 2 * ((a + 1) / 2) := by omega
          rw [ha, hpp]
          generalize (a + 1) / 2 = c at this ⊢
          have e3 : a = 2 * c - 1 := by omega
          have : 2 ^ k * a + 2 ^ k = 2 ^ k * (a + 1) := by rw [Nat.mul_add, Nat.mul_one]
          rw [this, show a + 1 = 2 * c by omega]
          rw [Nat.mul_left_comm, Nat.mul_assoc]
        have e2 : (a + 1) / 2 ≤ j / 2 ^ (k + 1) := (Nat.le_div_iff_mul_le hp1).2 (by rw [Nat.mul_comm, ← e1]; exact h1)
        have e3 := Nat.mul_le_mul_left (2 ^ (k + 1)) e2
        rw [hj', ← e1] at e3
        omega
      refine hj j' (by omega) hlt ?_
      unfold inB
      obtain ⟨d, hd⟩ := Nat.exists_eq_add_of_le hlow
      rw [hd]
      apply div_same (Nat.le_add_right _ _)
      rw [← hj', Nat.mul_div_cancel_left _ hp1]
/-- two kept ones have unlike numbers of bits that are 0 -/
theorem kept_low_inj {m i j : Nat} (hj : keptP m j) (h : i < j) (hm : m ≤ i) (h20 : j < 2 ^ 20) : lowP i < lowP j := by
  have hn : ¬ inB (lowP i) j i := hj i hm h
  have hji : i + 2 ^ lowP i ≤ j := by
    rcases Nat.lt_or_ge j (i + 2 ^ lowP i) with h' | h'
    · exact absurd ((inB_iff (low_mod i)).2 ⟨by omega, h'⟩).symm hn
    · exact h'
  exact low_gt (fun j' h1 h2 => hj j' (by omega) h2) hji h20
/-- some kept one's block holds it -/
theorem kept_covers (m : Nat) : ∀ i, m ≤ i → ∃ p, m ≤ p ∧ p ≤ i ∧ keptP m p ∧ inB (lowP p) p i := by
  intro i
  induction i using Nat.strongRecOn with
  | ind i ih =>
    intro hm
    by_cases h : keptP m i
    · exact ⟨i, hm, Nat.le_refl _, h, rfl⟩
    · simp only [keptP, Classical.not_forall, Classical.not_not] at h
      obtain ⟨j, h1, h2, h3⟩ := h
      obtain ⟨p, p1, p2, p3, p4⟩ := ih j h2 h1
      refine ⟨p, p1, by omega, p3, ?_⟩
      -- the block of j holds i, that of p holds j
      have hij := (inB_iff (low_mod j)).1 (h3.symm)
      rcases Nat.eq_or_lt_of_le p2 with e | e
      · rw [e]; exact h3.symm
      · have hpj := (inB_iff (low_mod p)).1 p4
        have hlow := low_lt e hpj.2
        unfold inB at p4 h3 ⊢
        rw [p4]
        exact (div_same (Nat.le_of_lt hlow) h3).symm
end Go.Proofs.YtnaodgljdbkmnaaDoor
