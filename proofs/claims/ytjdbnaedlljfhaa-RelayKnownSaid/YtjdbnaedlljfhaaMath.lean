/- Plain arithmetic of amounts: what the money functions compute. No program in sight. -/
import Derived.Lib.Hide
import Derived.WalkKit
namespace Go.Proofs.Ytjdbnaedlljfhaa
open Go.RowKit

def rightB (a : Int) : Bool := decide (0 ≤ a ∧ a ≤ 2100000000000000000)
def coinsB (a : Int) : Bool := decide (0 ≤ a ∧ a ≤ 2100000000000000)
theorem rightB_t {a : Int} (h : 0 ≤ a) (h' : a ≤ 2100000000000000000) : rightB a = true := by simp [rightB, h, h']
theorem rightB_f {a : Int} (h : ¬ (0 ≤ a ∧ a ≤ 2100000000000000000)) : rightB a = false := by simp only [rightB, h, decide_false]
theorem rightB_d {a : Int} (h : rightB a = true) : 0 ≤ a ∧ a ≤ 2100000000000000000 := by simpa [rightB] using h
theorem rightB_n {a : Int} (h : rightB a = false) : ¬ (0 ≤ a ∧ a ≤ 2100000000000000000) := by simpa only [rightB, decide_eq_false_iff_not] using h
theorem coinsB_t {a : Int} (h : 0 ≤ a) (h' : a ≤ 2100000000000000) : coinsB a = true := by simp [coinsB, h, h']
theorem coinsB_f {a : Int} (h : ¬ (0 ≤ a ∧ a ≤ 2100000000000000)) : coinsB a = false := by simp only [coinsB, h, decide_false]
theorem coinsB_d {a : Int} (h : coinsB a = true) : 0 ≤ a ∧ a ≤ 2100000000000000 := by simpa [coinsB] using h
theorem coinsB_n {a : Int} (h : coinsB a = false) : ¬ (0 ≤ a ∧ a ≤ 2100000000000000) := by simpa only [coinsB, decide_eq_false_iff_not] using h

/-- The sum of numbers on top of n, or none. -/
def sumGo : Int → List Int → Option Int
  | n, [] => some n
  | n, a :: l => if 0 ≤ a ∧ a ≤ 2100000000000000000 - n then sumGo (n + a) l else none

/-- two words of a product: the high word joined with the shifted low word -/
theorem or_join (h l : Nat) (s : Nat) (hs : s ≤ 64) (hh : h * 2 ^ s < 18446744073709551616) (hl : l < 18446744073709551616) :
    bits .or .u64 ((h : Int) * ((2 ^ s : Nat) : Int)) ((l : Int) / ((2 ^ (64 - s) : Nat) : Int)) = (h : Int) * ((2 ^ s : Nat) : Int) + (l : Int) / ((2 ^ (64 - s) : Nat) : Int) := by
  have e1 : (h : Int) * ((2 ^ s : Nat) : Int) = ((h * 2 ^ s : Nat) : Int) := by rw [Int.natCast_mul]
  have e2 : (l : Int) / ((2 ^ (64 - s) : Nat) : Int) = ((l / 2 ^ (64 - s) : Nat) : Int) := by rw [Int.natCast_ediv]
  have h3 : l / 2 ^ (64 - s) < 2 ^ s := by
    rw [Nat.div_lt_iff_lt_mul (Nat.two_pow_pos _), ← Nat.pow_add]
    have : s + (64 - s) = 64 := by omega
    rw [this]; exact hl
  have h4 : l / 2 ^ (64 - s) < 18446744073709551616 := Nat.lt_of_le_of_lt (Nat.div_le_self _ _) hl
  rw [e1, e2, u64_or_nat _ _ hh h4, nat_join s _ _ (Nat.mul_mod_left _ _) h3, Int.natCast_add]

theorem wrapchain (A B C : Int) : IntKind.u64.wrap (IntKind.u64.wrap (IntKind.u64.wrap A + B) - IntKind.u64.wrap C) = (A + B - C) % 18446744073709551616 := by
  rw [IntKind.wrap_u64, IntKind.wrap_u64, IntKind.wrap_u64, IntKind.wrap_u64, Int.emod_add_emod, ← Int.sub_emod]

theorem divFactsA1 (a b : Int) (_ha : 0 ≤ a) (hb : 0 ≤ b) (hb' : b ≤ 1048575) : ((a * 1048576 + b) * 17592186044416) % 18446744073709551616 = b * 17592186044416 := by omega
theorem divFactsA2 (u q r c1 : Int) (h : u = q * 4096000000 + r) (h1 : 0 ≤ r) (h2 : r ≤ 4095999999) (h3 : 0 ≤ c1) (h4 : c1 ≤ 4294967295) :
    IntKind.u64.wrap (IntKind.u64.wrap (IntKind.u64.wrap (u * 4294967296) + c1) - IntKind.u64.wrap (q * 17592186044416000000)) = r * 4294967296 + c1 := by
  rw [wrapchain]
  have : u * 4294967296 + c1 - q * 17592186044416000000 = r * 4294967296 + c1 := by omega
  rw [this, Int.emod_eq_of_lt] <;> omega
theorem divFactsA3 (h a b u c q r c1 c0 v q2 r2 x : Int) (h1 : u = h * 17592186044416 + a) (h2 : c = b * 17592186044416) (h3 : u = q * 4096000000 + r) (h4 : c = c1 * 4294967296 + c0) (h5 : v = r * 4294967296 + c1) (h6 : v = q2 * 4096000000 + r2) (h7 : x = r2 * 4294967296 + c0) :
    (h * 18446744073709551616 + (a * 1048576 + b)) * 17592186044416 = (q * 4294967296 + q2) * 17592186044416000000 + x := by omega
theorem divFactsA4 (n t x : Int) (h : n * 17592186044416 = t * 17592186044416000000 + x) (h0 : 0 ≤ x) (h1 : x < 17592186044416000000) : t = n / 1000000 ∧ x / 17592186044416 = n % 1000000 := by omega
theorem divFactsA (h l : Int) (h0 : 0 ≤ h) (h1 : h < 1000000) (l0 : 0 ≤ l) (l1 : l < 18446744073709551616) :
    ∃ u q r c c1 c0 v q2 r2 x : Int, bits BinOp.or IntKind.u64 (h * 17592186044416) (l / 1048576) = u ∧ 0 ≤ u ∧
      IntKind.u64.wrap (u.tdiv 4096000000) = q ∧ 0 ≤ q ∧ q ≤ 4294967295 ∧ IntKind.u64.wrap (u - q * 4096000000) = r ∧ 0 ≤ r ∧ r ≤ 4095999999 ∧
      IntKind.u64.wrap (l * 17592186044416) = c ∧ 0 ≤ c ∧ c / 4294967296 = c1 ∧ 0 ≤ c1 ∧ c1 ≤ 4294967295 ∧ bits BinOp.and IntKind.u64 c 4294967295 = c0 ∧ 0 ≤ c0 ∧ c0 ≤ 4294967295 ∧
      IntKind.u64.wrap (IntKind.u64.wrap (IntKind.u64.wrap (u * 4294967296) + c1) - IntKind.u64.wrap (q * 17592186044416000000)) = v ∧ 0 ≤ v ∧
      IntKind.u64.wrap (v.tdiv 4096000000) = q2 ∧ 0 ≤ q2 ∧ q2 ≤ 4294967295 ∧ IntKind.u64.wrap (v - q2 * 4096000000) = r2 ∧ 0 ≤ r2 ∧ r2 ≤ 4095999999 ∧
      IntKind.u64.wrap (IntKind.u64.wrap (IntKind.u64.wrap (v * 4294967296) + c0) - IntKind.u64.wrap (q2 * 17592186044416000000)) = x ∧ 0 ≤ x ∧
      q * 4294967296 + q2 = (h * 18446744073709551616 + l) / 1000000 ∧ x / 17592186044416 = (h * 18446744073709551616 + l) % 1000000 := by
  have e2 : bits BinOp.or IntKind.u64 (h * 17592186044416) (l / 1048576) = h * 17592186044416 + l / 1048576 := by
    obtain ⟨h, rfl⟩ := Int.eq_ofNat_of_zero_le h0
    obtain ⟨l, rfl⟩ := Int.eq_ofNat_of_zero_le l0
    exact or_join h l 44 (by omega) (by omega) (by omega)
  have e2 : bits BinOp.or IntKind.u64 (h * 17592186044416) (l / 1048576) = h * 17592186044416 + l / 1048576 := e2
  obtain ⟨a, b, ha, hb, hb', hl⟩ : ∃ a b : Int, 0 ≤ a ∧ 0 ≤ b ∧ b ≤ 1048575 ∧ l = a * 1048576 + b := ⟨l / 1048576, l % 1048576, by omega, by omega, by omega, by omega⟩
  have hla : l / 1048576 = a := by omega
  have hc := divFactsA1 a b ha hb hb'
  have e3 : bits BinOp.and IntKind.u64 (b * 17592186044416) 4294967295 = b * 17592186044416 % 4294967296 := by
    rw [u64_and _ _ (by omega) (by omega) (by omega) (by omega)]
    have : (4294967295 : Int).toNat = 4294967295 := rfl
    rw [this, nat_mask32]; omega
  have hu : h * 17592186044416 + a < 17592186044416000000 := by omega
  obtain ⟨u, hu'⟩ : ∃ u : Int, u = h * 17592186044416 + a := ⟨_, rfl⟩
  obtain ⟨c, hc'⟩ : ∃ c : Int, c = b * 17592186044416 := ⟨_, rfl⟩
  obtain ⟨q, r, q0, q1, r0, r1, hq, hqd⟩ : ∃ q r : Int, 0 ≤ q ∧ q ≤ 4294967295 ∧ 0 ≤ r ∧ r ≤ 4095999999 ∧ u = q * 4096000000 + r ∧ u / 4096000000 = q := ⟨u / 4096000000, u % 4096000000, by omega, by omega, by omega, by omega, by omega, rfl⟩
  obtain ⟨c1, c0, c10, c11, c00, c01, hcd, hcm, hcs⟩ : ∃ c1 c0 : Int, 0 ≤ c1 ∧ c1 ≤ 4294967295 ∧ 0 ≤ c0 ∧ c0 ≤ 4294967295 ∧ c / 4294967296 = c1 ∧ c % 4294967296 = c0 ∧ c = c1 * 4294967296 + c0 := ⟨c / 4294967296, c % 4294967296, by omega, by omega, by omega, by omega, rfl, rfl, by omega⟩
  obtain ⟨v, hv⟩ : ∃ v : Int, v = r * 4294967296 + c1 := ⟨_, rfl⟩
  obtain ⟨q2, r2, q20, q21, r20, r21, hq2, hqd2⟩ : ∃ q r : Int, 0 ≤ q ∧ q ≤ 4294967295 ∧ 0 ≤ r ∧ r ≤ 4095999999 ∧ v = q * 4096000000 + r ∧ v / 4096000000 = q := ⟨v / 4096000000, v % 4096000000, by omega, by omega, by omega, by omega, by omega, rfl⟩
  obtain ⟨x, hx⟩ : ∃ x : Int, x = r2 * 4294967296 + c0 := ⟨_, rfl⟩
  have hfin := divFactsA3 h a b u c q r c1 c0 v q2 r2 x hu' hc' hq hcs hv hq2 hx
  have hv2 := divFactsA2 u q r c1 hq r0 r1 c10 c11
  have hx2 := divFactsA2 v q2 r2 c0 hq2 r20 r21 c00 c01
  obtain ⟨g1, g2⟩ := divFactsA4 _ _ x hfin (by omega) (by omega)
  have hw : ∀ z : Int, 0 ≤ z → z ≤ 4294967295 → IntKind.u64.wrap z = z := fun z z0 z1 => by rw [IntKind.wrap_u64]; omega
  refine ⟨u, q, r, c, c1, c0, v, q2, r2, x, ?_, ?_, ?_, q0, q1, ?_, r0, r1, ?_, ?_, hcd, c10, c11, ?_, c00, c01, ?_, ?_, ?_, q20, q21, ?_, r20, r21, ?_, ?_, ?_, ?_⟩
  · rw [e2, hla, hu']
  · omega
  · rw [Int.tdiv_eq_ediv_of_nonneg (by omega), hqd]; exact hw q q0 q1
  · have : u - q * 4096000000 = r := by omega
    rw [this]; exact hw r r0 (by omega)
  · rw [IntKind.wrap_u64, hl, hc, hc']
  · omega
  · rw [hc', e3, ← hc', hcm]
  · rw [hv2, hv]
  · omega
  · rw [Int.tdiv_eq_ediv_of_nonneg (by omega), hqd2]; exact hw q2 q20 q21
  · have : v - q2 * 4096000000 = r2 := by omega
    rw [this]; exact hw r2 r20 (by omega)
  · rw [hx2, hx]
  · omega
  · rw [g1, hl]
  · rw [g2, hl]

theorem divFactsB1 (a b : Int) (_ha : 0 ≤ a) (hb : 0 ≤ b) (hb' : b ≤ 1023) : ((a * 1024 + b) * 18014398509481984) % 18446744073709551616 = b * 18014398509481984 := by omega
theorem divFactsB2 (u q r c1 : Int) (h : u = q * 4194304000 + r) (h1 : 0 ≤ r) (h2 : r ≤ 4194303999) (h3 : 0 ≤ c1) (h4 : c1 ≤ 4294967295) :
    IntKind.u64.wrap (IntKind.u64.wrap (IntKind.u64.wrap (u * 4294967296) + c1) - IntKind.u64.wrap (q * 18014398509481984000)) = r * 4294967296 + c1 := by
  rw [wrapchain]
  have : u * 4294967296 + c1 - q * 18014398509481984000 = r * 4294967296 + c1 := by omega
  rw [this, Int.emod_eq_of_lt] <;> omega
theorem divFactsB3 (h a b u c q r c1 c0 v q2 r2 x : Int) (h1 : u = h * 18014398509481984 + a) (h2 : c = b * 18014398509481984) (h3 : u = q * 4194304000 + r) (h4 : c = c1 * 4294967296 + c0) (h5 : v = r * 4294967296 + c1) (h6 : v = q2 * 4194304000 + r2) (h7 : x = r2 * 4294967296 + c0) :
    (h * 18446744073709551616 + (a * 1024 + b)) * 18014398509481984 = (q * 4294967296 + q2) * 18014398509481984000 + x := by omega
theorem divFactsB4 (n t x : Int) (h : n * 18014398509481984 = t * 18014398509481984000 + x) (h0 : 0 ≤ x) (h1 : x < 18014398509481984000) : t = n / 1000 ∧ x / 18014398509481984 = n % 1000 := by omega
theorem divFactsB (h l : Int) (h0 : 0 ≤ h) (h1 : h < 1000) (l0 : 0 ≤ l) (l1 : l < 18446744073709551616) :
    ∃ u q r c c1 c0 v q2 r2 x : Int, bits BinOp.or IntKind.u64 (h * 18014398509481984) (l / 1024) = u ∧ 0 ≤ u ∧
      IntKind.u64.wrap (u.tdiv 4194304000) = q ∧ 0 ≤ q ∧ q ≤ 4294967295 ∧ IntKind.u64.wrap (u - q * 4194304000) = r ∧ 0 ≤ r ∧ r ≤ 4194303999 ∧
      IntKind.u64.wrap (l * 18014398509481984) = c ∧ 0 ≤ c ∧ c / 4294967296 = c1 ∧ 0 ≤ c1 ∧ c1 ≤ 4294967295 ∧ bits BinOp.and IntKind.u64 c 4294967295 = c0 ∧ 0 ≤ c0 ∧ c0 ≤ 4294967295 ∧
      IntKind.u64.wrap (IntKind.u64.wrap (IntKind.u64.wrap (u * 4294967296) + c1) - IntKind.u64.wrap (q * 18014398509481984000)) = v ∧ 0 ≤ v ∧
      IntKind.u64.wrap (v.tdiv 4194304000) = q2 ∧ 0 ≤ q2 ∧ q2 ≤ 4294967295 ∧ IntKind.u64.wrap (v - q2 * 4194304000) = r2 ∧ 0 ≤ r2 ∧ r2 ≤ 4194303999 ∧
      IntKind.u64.wrap (IntKind.u64.wrap (IntKind.u64.wrap (v * 4294967296) + c0) - IntKind.u64.wrap (q2 * 18014398509481984000)) = x ∧ 0 ≤ x ∧
      q * 4294967296 + q2 = (h * 18446744073709551616 + l) / 1000 ∧ x / 18014398509481984 = (h * 18446744073709551616 + l) % 1000 := by
  have e2 : bits BinOp.or IntKind.u64 (h * 18014398509481984) (l / 1024) = h * 18014398509481984 + l / 1024 := by
    obtain ⟨h, rfl⟩ := Int.eq_ofNat_of_zero_le h0
    obtain ⟨l, rfl⟩ := Int.eq_ofNat_of_zero_le l0
    exact or_join h l 54 (by omega) (by omega) (by omega)
  have e2 : bits BinOp.or IntKind.u64 (h * 18014398509481984) (l / 1024) = h * 18014398509481984 + l / 1024 := e2
  obtain ⟨a, b, ha, hb, hb', hl⟩ : ∃ a b : Int, 0 ≤ a ∧ 0 ≤ b ∧ b ≤ 1023 ∧ l = a * 1024 + b := ⟨l / 1024, l % 1024, by omega, by omega, by omega, by omega⟩
  have hla : l / 1024 = a := by omega
  have hc := divFactsB1 a b ha hb hb'
  have e3 : bits BinOp.and IntKind.u64 (b * 18014398509481984) 4294967295 = b * 18014398509481984 % 4294967296 := by
    rw [u64_and _ _ (by omega) (by omega) (by omega) (by omega)]
    have : (4294967295 : Int).toNat = 4294967295 := rfl
    rw [this, nat_mask32]; omega
  have hu : h * 18014398509481984 + a < 18014398509481984000 := by omega
  obtain ⟨u, hu'⟩ : ∃ u : Int, u = h * 18014398509481984 + a := ⟨_, rfl⟩
  obtain ⟨c, hc'⟩ : ∃ c : Int, c = b * 18014398509481984 := ⟨_, rfl⟩
  obtain ⟨q, r, q0, q1, r0, r1, hq, hqd⟩ : ∃ q r : Int, 0 ≤ q ∧ q ≤ 4294967295 ∧ 0 ≤ r ∧ r ≤ 4194303999 ∧ u = q * 4194304000 + r ∧ u / 4194304000 = q := ⟨u / 4194304000, u % 4194304000, by omega, by omega, by omega, by omega, by omega, rfl⟩
  obtain ⟨c1, c0, c10, c11, c00, c01, hcd, hcm, hcs⟩ : ∃ c1 c0 : Int, 0 ≤ c1 ∧ c1 ≤ 4294967295 ∧ 0 ≤ c0 ∧ c0 ≤ 4294967295 ∧ c / 4294967296 = c1 ∧ c % 4294967296 = c0 ∧ c = c1 * 4294967296 + c0 := ⟨c / 4294967296, c % 4294967296, by omega, by omega, by omega, by omega, rfl, rfl, by omega⟩
  obtain ⟨v, hv⟩ : ∃ v : Int, v = r * 4294967296 + c1 := ⟨_, rfl⟩
  obtain ⟨q2, r2, q20, q21, r20, r21, hq2, hqd2⟩ : ∃ q r : Int, 0 ≤ q ∧ q ≤ 4294967295 ∧ 0 ≤ r ∧ r ≤ 4194303999 ∧ v = q * 4194304000 + r ∧ v / 4194304000 = q := ⟨v / 4194304000, v % 4194304000, by omega, by omega, by omega, by omega, by omega, rfl⟩
  obtain ⟨x, hx⟩ : ∃ x : Int, x = r2 * 4294967296 + c0 := ⟨_, rfl⟩
  have hfin := divFactsB3 h a b u c q r c1 c0 v q2 r2 x hu' hc' hq hcs hv hq2 hx
  have hv2 := divFactsB2 u q r c1 hq r0 r1 c10 c11
  have hx2 := divFactsB2 v q2 r2 c0 hq2 r20 r21 c00 c01
  obtain ⟨g1, g2⟩ := divFactsB4 _ _ x hfin (by omega) (by omega)
  have hw : ∀ z : Int, 0 ≤ z → z ≤ 4294967295 → IntKind.u64.wrap z = z := fun z z0 z1 => by rw [IntKind.wrap_u64]; omega
  refine ⟨u, q, r, c, c1, c0, v, q2, r2, x, ?_, ?_, ?_, q0, q1, ?_, r0, r1, ?_, ?_, hcd, c10, c11, ?_, c00, c01, ?_, ?_, ?_, q20, q21, ?_, r20, r21, ?_, ?_, ?_, ?_⟩
  · rw [e2, hla, hu']
  · omega
  · rw [Int.tdiv_eq_ediv_of_nonneg (by omega), hqd]; exact hw q q0 q1
  · have : u - q * 4194304000 = r := by omega
    rw [this]; exact hw r r0 (by omega)
  · rw [IntKind.wrap_u64, hl, hc, hc']
  · omega
  · rw [hc', e3, ← hc', hcm]
  · rw [hv2, hv]
  · omega
  · rw [Int.tdiv_eq_ediv_of_nonneg (by omega), hqd2]; exact hw q2 q20 q21
  · have : v - q2 * 4194304000 = r2 := by omega
    rw [this]; exact hw r2 r20 (by omega)
  · rw [hx2, hx]
  · omega
  · rw [g1, hl]
  · rw [g2, hl]

/-- where the bit by bit multiplication stands ahead of bit k -/
def shareInv (a b y q r k : Int) : Prop := 0 ≤ q ∧ 0 ≤ r ∧ r < y ∧ a * (b / 2 ^ (k + 1).toNat) = q * y + r
theorem bit_and (b : Int) (n : Nat) (h0 : 0 ≤ b) (h1 : b ≤ 2100000000000000000) : bits .and .i64 (b / 2 ^ n) 1 = b / 2 ^ n % 2 := by
  have h2 : b / 2 ^ n ≤ b := Int.ediv_le_self _ h0
  have h3 : 0 ≤ b / 2 ^ n := Int.ediv_nonneg h0 (Int.le_of_lt (Int.pow_pos (by omega)))
  obtain ⟨x, hx⟩ : ∃ x : Int, b / 2 ^ n = x := ⟨_, rfl⟩
  rw [hx] at h2 h3 ⊢
  obtain ⟨x, rfl⟩ := Int.eq_ofNat_of_zero_le h3
  show IntKind.i64.wrap ((BitVec.ofInt 64 (x : Int) &&& BitVec.ofInt 64 1).toNat : Int) = _
  rw [BitVec.toNat_and, ofInt_u64 x (by omega), show (BitVec.ofInt 64 1).toNat = 1 from by decide, nat_mask1, IntKind.wrap_i64]
  omega
theorem pow_step (b : Int) (n : Nat) : b / 2 ^ n = 2 * (b / 2 ^ (n + 1)) + b / 2 ^ n % 2 := by
  rw [Int.pow_succ, ← Int.ediv_ediv_of_nonneg (Int.le_of_lt (Int.pow_pos (by omega)))]
  omega
theorem share_mul (a b : Int) (k : Int) (h : 0 ≤ k) : a * (b / 2 ^ (k - 1 + 1).toNat) = 2 * (a * (b / 2 ^ (k + 1).toNat)) + a * (b / 2 ^ k.toNat % 2) := by
  have e1 : (k - 1 + 1).toNat = k.toNat := by omega
  have e2 : (k + 1).toNat = k.toNat + 1 := by omega
  rw [e1, e2]
  have := pow_step b k.toNat
  rw [show a * (b / 2 ^ k.toNat) = a * (2 * (b / 2 ^ (k.toNat + 1)) + b / 2 ^ k.toNat % 2) from by rw [← this]]
  rw [Int.mul_add, Int.mul_left_comm]
theorem share_big (a b y q r k : Int) (ha : 0 ≤ a) (hb : 0 ≤ b) (hy : 0 < y) (h : shareInv a b y q r k) : q ≤ a * b / y := by
  obtain ⟨h1, h2, h3, h4⟩ := h
  have h5 : b / 2 ^ (k + 1).toNat ≤ b := Int.ediv_le_self _ hb
  have h6 := Int.mul_le_mul_of_nonneg_left h5 ha
  rw [h4] at h6
  rw [Int.le_ediv_iff_mul_le hy]; omega
theorem share_end (a b y q r : Int) (hy : 0 < y) (h : shareInv a b y q r (-1)) : a * b / y = q := by
  obtain ⟨h1, h2, h3, h4⟩ := h
  have : (((-1 : Int) + 1).toNat) = 0 := by decide
  rw [this, Int.pow_zero, Int.ediv_one] at h4
  rw [h4, Int.add_comm, Int.add_mul_ediv_right _ _ (by omega), Int.ediv_eq_zero_of_lt h2 h3, Int.zero_add]
theorem share_start (a b y : Int) (h0 : 0 ≤ b) (h1 : b ≤ 2100000000000000000) (hy : 0 < y) : shareInv a b y 0 0 62 := by
  refine ⟨by omega, by omega, hy, ?_⟩
  have : (((62 : Int) + 1).toNat) = 63 := by decide
  rw [this, show ((2 : Int) ^ 63) = 9223372036854775808 from by decide, Int.ediv_eq_zero_of_lt h0 (by omega)]
  simp

theorem share_step0a (a b q r k : Int) (hk : 0 ≤ k) (h : shareInv a b 1000000 q r k) (hb : b / 2 ^ k.toNat % 2 = 0) :
    shareInv a b 1000000 (2 * q + 2 * r / 1000000) (2 * r % 1000000) (k - 1) := by
  obtain ⟨h1, h2, h3, h4⟩ := h
  refine ⟨by omega, by omega, by omega, ?_⟩
  rw [share_mul a b k hk, h4, hb]; omega
theorem share_step1a (a b q r k : Int) (ha : 0 ≤ a) (hk : 0 ≤ k) (h : shareInv a b 1000000 q r k) (hb : b / 2 ^ k.toNat % 2 = 1) :
    shareInv a b 1000000 (2 * q + 2 * r / 1000000 + a / 1000000 + (2 * r % 1000000 + a % 1000000) / 1000000) ((2 * r % 1000000 + a % 1000000) % 1000000) (k - 1) := by
  obtain ⟨h1, h2, h3, h4⟩ := h
  refine ⟨by omega, by omega, by omega, ?_⟩
  rw [share_mul a b k hk, h4, hb]; omega

theorem share_step0b (a b q r k : Int) (hk : 0 ≤ k) (h : shareInv a b 1000 q r k) (hb : b / 2 ^ k.toNat % 2 = 0) :
    shareInv a b 1000 (2 * q + 2 * r / 1000) (2 * r % 1000) (k - 1) := by
  obtain ⟨h1, h2, h3, h4⟩ := h
  refine ⟨by omega, by omega, by omega, ?_⟩
  rw [share_mul a b k hk, h4, hb]; omega
theorem share_step1b (a b q r k : Int) (ha : 0 ≤ a) (hk : 0 ≤ k) (h : shareInv a b 1000 q r k) (hb : b / 2 ^ k.toNat % 2 = 1) :
    shareInv a b 1000 (2 * q + 2 * r / 1000 + a / 1000 + (2 * r % 1000 + a % 1000) / 1000) ((2 * r % 1000 + a % 1000) % 1000) (k - 1) := by
  obtain ⟨h1, h2, h3, h4⟩ := h
  refine ⟨by omega, by omega, by omega, ?_⟩
  rw [share_mul a b k hk, h4, hb]; omega

theorem sum_cons (n a : Int) (l : List Int) (h : 0 ≤ a) (h' : a ≤ 2100000000000000000 - n) : sumGo n (a :: l) = sumGo (n + a) l := by simp [sumGo, h, h']
theorem sum_cons_no (n a : Int) (l : List Int) (h : ¬ (0 ≤ a ∧ a ≤ 2100000000000000000 - n)) : sumGo n (a :: l) = none := by simp only [sumGo, if_neg h]
theorem drop_at (zs : List Int) (k : Nat) (h : k < zs.length) : zs.drop k = zs.getD k 0 :: zs.drop (k + 1) := by
  rw [List.drop_eq_getElem_cons h]; congr 1; simp [List.getD, h]

/-- two amounts added; taken away -/
def addO (a b : Int) : Option Int := if 0 ≤ a ∧ 0 ≤ b ∧ a + b ≤ 2100000000000000000 then some (a + b) else none
def subO (a b : Int) : Option Int := if 0 ≤ b ∧ b ≤ a ∧ a ≤ 2100000000000000000 then some (a - b) else none
/-- a fee -/
def feeO (amount base rate : Int) : Option Int :=
  if 0 ≤ amount ∧ amount ≤ 2100000000000000000 ∧ 0 ≤ base ∧ base ≤ 2100000000000000000 ∧ 0 ≤ rate ∧ rate ≤ 2100000000000000000 ∧
    base + amount * rate / 1000000 ≤ 2100000000000000000 then some (base + amount * rate / 1000000) else none
def grossO (amount base rate : Int) : Option Int := match feeO amount base rate with | none => none | some f => addO amount f
def costO (rate weight : Int) : Option Int :=
  if 0 ≤ rate ∧ rate ≤ 2100000000000000 ∧ 0 ≤ weight ∧ weight ≤ 2100000000000000 ∧ rate * weight / 1000 ≤ 2100000000000000 then some (rate * weight / 1000) else none

end Go.Proofs.Ytjdbnaedlljfhaa
