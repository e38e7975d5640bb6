/- money, at this seat -/
import Derived.Shelf.Strings.Builder1
import Derived.Shelf.Small.Bits
import Derived.Shelf.Small.Strs
import Derived.Shelf.Small.Wraps
import Derived.Shelf.Strings.BuilderF
import Derived.Shelf.Strings.BuilderK
import Derived.Shelf.Strconv.Itoa0
import Derived.Shelf.Strconv.Itoa1
import Derived.Shelf.LaysM
import Derived.Shelf.Strconv.Itoa2
import Derived.Shelf.Strconv.Itoa3
import Derived.Shelf.Strconv.Itoa4
import Derived.Shelf.Strconv.ParseIntEmpty
import Derived.Shelf.Strconv.Clone
import Derived.Shelf.Strconv.SyntaxError
import Derived.Shelf.LaysC
import Derived.Shelf.Strconv.ToError
import Derived.Shelf.Strconv.Lower
import Derived.Shelf.Strconv.ParseUint10
import Derived.Shelf.Strconv.ParseUint10Empty
import Derived.Shelf.Strconv.ParseUint10Any
import Derived.Shelf.Strconv.ParseInt10
import Derived.Shelf.Strconv.RangeError
import Derived.Shelf.Strconv.ToErrorRange
import Derived.Shelf.Strconv.ParseUintEmpty
import Derived.Shelf.Strconv.ParseUint10b64
import Derived.Shelf.Strconv.ParseUint10b32
import Derived.Shelf.Strconv.ParseUint10b16
import Derived.Shelf.Strconv.ParseUint10b8
import Derived.Shelf.Strconv.ParseUint10At
import Derived.Shelf.Strconv.ParseInt10At64
import Derived.Shelf.Strconv.ParseInt10At32
import Derived.Shelf.Strconv.ParseInt10At16
import Derived.Shelf.Strconv.ParseInt10At8
import Derived.Shelf.Strconv.ParseInt10All
import Derived.Shelf.Strconv.ParseIntPublic10
import Derived.Shelf.Strconv.ErrVarParseInt
import Derived.Shelf.Strings.Search1
import Derived.Shelf.Bits.Mul64
import Derived.Shelf.Strings.BuilderCap
import Derived.Ground.Names2Prog
import Derived.Shelf.Slices.Clone
import Derived.Shelf.Slices.SearchI
import Derived.Ground.SlgnProg
import Derived.Shelf.SlicesE.Clone
import Derived.Lib.ParseIntB
import Derived.Lib.Bytealg
import Derived.Lib.ItoaNum
import Derived.Lib.ParseIntBCases
import Derived.WalkKit
import Derived.WalkSpells
import Derived.WalkLawsBesides
import Derived.Handy
import Derived.Lib.Hide
import Derived.Deep.QuietTactic
import Derived.BigQuiet
import Derived.Deep.RegionHeld3
import Derived.Lib.Strings
import Derived.Lib.IndexBytes
import Derived.BigRegion
import Derived.Deep.RegionLaw
import Derived.Deep.AppendLies
import Derived.Deep.LoopGhost
import Derived.Deep.Onto
import Derived.Deep.WholeRow
import Derived.Deep.CutRange
import Derived.Laws.CopyOwn
import Derived.Lib.ItoaLen
import Derived.Lib.AppendIntMem
import Derived.Deep.CutBlock
import Derived.Deep.MidRow
import Derived.Deep.RegionHeld
import Derived.Test.YtbdimlppnhcicaaGreatDoorProg
import Derived.Test.YtbdimlppnhcicaaGreatDoorRows
import Derived.Test.YtbdimlppnhcicaaGreatDoorShelf
import Derived.Test.YtbdimlppnhcicaaGreatDoorNu
import Derived.Test.YtbdimlppnhcicaaGreatDoorTa
import Derived.Test.YtbdimlppnhcicaaGreatDoorTl
import Derived.Test.YtbdimlppnhcicaaGreatDoorRg
namespace Go.Proofs.YtbdimlppnhcicaaGreatDoor.Mny
set_option linter.unusedVariables false
open Go.RowKit Go.Proofs.YtbdimlppnhcicaaGreatDoor
/-! Math -/

def rightB (a : Int) : Bool := decide (0 ≤ a ∧ a ≤ 2100000000000000000)
theorem rightB_t {a : Int} (h : 0 ≤ a) (h' : a ≤ 2100000000000000000) : rightB a = true := by simp [rightB, h, h']
theorem rightB_f {a : Int} (h : ¬ (0 ≤ a ∧ a ≤ 2100000000000000000)) : rightB a = false := by simp only [rightB, h, decide_false]
/-- The sum of numbers on top of n, or none. -/
def sumGo : Int → List Int → Option Int
  | n, [] => some n
  | n, a :: l => if 0 ≤ a ∧ a ≤ 2100000000000000000 - n then sumGo (n + a) l else none

/-- two words of a product: the high word joined with the shifted low word -/
theorem or_join (h l : Nat) (s : Nat) (hs : s ≤ 64) (hh : h * 2 ^ s < 18446744073709551616) (hl : l < 18446744073709551616) :
    bits .or .u64 ((h : Int) * ((2 ^ s : Nat) : Int)) ((l : Int) / ((2 ^ (64 - s) : Nat) : Int)) = (h : Int) * ((2 ^ s : Nat) : Int) + (l : Int) / ((2 ^ (64 - s) : Nat) : Int) := by
  have e1 : (h : Int) * ((2 ^ s : Nat) : Int) = ((h * 2 ^ s : Nat) : Int) := by rw [Int.natCast_mul]
  have e2 : (l : Int) / ((2 ^ (64 - s) : Nat) : Int) = ((l / 2 ^ (64 - s) : Nat) : Int) := by rw [Int.natCast_ediv]
  have h3 : l / 2 ^ (64 - s) < 2 ^ s := by
    rw [Nat.div_lt_iff_lt_mul (Nat.two_pow_pos _), ← Nat.pow_add]
    have : s + (64 - s) = 64 := by omega
    rw [this]; exact hl
  have h4 : l / 2 ^ (64 - s) < 18446744073709551616 := Nat.lt_of_le_of_lt (Nat.div_le_self _ _) hl
  rw [e1, e2, u64_or_nat _ _ hh h4, nat_join s _ _ (Nat.mul_mod_left _ _) h3, Int.natCast_add]

theorem wrapchain (A B C : Int) : IntKind.u64.wrap (IntKind.u64.wrap (IntKind.u64.wrap A + B) - IntKind.u64.wrap C) = (A + B - C) % 18446744073709551616 := by
  rw [IntKind.wrap_u64, IntKind.wrap_u64, IntKind.wrap_u64, IntKind.wrap_u64, Int.emod_add_emod, ← Int.sub_emod]

theorem divFactsA1 (a b : Int) (_ha : 0 ≤ a) (hb : 0 ≤ b) (hb' : b ≤ 1048575) : ((a * 1048576 + b) * 17592186044416) % 18446744073709551616 = b * 17592186044416 := by omega
theorem divFactsA2 (u q r c1 : Int) (h : u = q * 4096000000 + r) (h1 : 0 ≤ r) (h2 : r ≤ 4095999999) (h3 : 0 ≤ c1) (h4 : c1 ≤ 4294967295) :
    IntKind.u64.wrap (IntKind.u64.wrap (IntKind.u64.wrap (u * 4294967296) + c1) - IntKind.u64.wrap (q * 17592186044416000000)) = r * 4294967296 + c1 := by
  rw [wrapchain]
  have : u * 4294967296 + c1 - q * 17592186044416000000 = r * 4294967296 + c1 := by omega
  rw [this, Int.emod_eq_of_lt] <;> omega
theorem divFactsA3 (h a b u c q r c1 c0 v q2 r2 x : Int) (h1 : u = h * 17592186044416 + a) (h2 : c = b * 17592186044416) (h3 : u = q * 4096000000 + r) (h4 : c = c1 * 4294967296 + c0) (h5 : v = r * 4294967296 + c1) (h6 : v = q2 * 4096000000 + r2) (h7 : x = r2 * 4294967296 + c0) :
    (h * 18446744073709551616 + (a * 1048576 + b)) * 17592186044416 = (q * 4294967296 + q2) * 17592186044416000000 + x := by omega
theorem divFactsA4 (n t x : Int) (h : n * 17592186044416 = t * 17592186044416000000 + x) (h0 : 0 ≤ x) (h1 : x < 17592186044416000000) : t = n / 1000000 ∧ x / 17592186044416 = n % 1000000 := by omega
theorem divFactsA (h l : Int) (h0 : 0 ≤ h) (h1 : h < 1000000) (l0 : 0 ≤ l) (l1 : l < 18446744073709551616) :
    ∃ u q r c c1 c0 v q2 r2 x : Int, bits BinOp.or IntKind.u64 (h * 17592186044416) (l / 1048576) = u ∧ 0 ≤ u ∧
      IntKind.u64.wrap (u.tdiv 4096000000) = q ∧ 0 ≤ q ∧ q ≤ 4294967295 ∧ IntKind.u64.wrap (u - q * 4096000000) = r ∧ 0 ≤ r ∧ r ≤ 4095999999 ∧
      IntKind.u64.wrap (l * 17592186044416) = c ∧ 0 ≤ c ∧ c / 4294967296 = c1 ∧ 0 ≤ c1 ∧ c1 ≤ 4294967295 ∧ bits BinOp.and IntKind.u64 c 4294967295 = c0 ∧ 0 ≤ c0 ∧ c0 ≤ 4294967295 ∧
      IntKind.u64.wrap (IntKind.u64.wrap (IntKind.u64.wrap (u * 4294967296) + c1) - IntKind.u64.wrap (q * 17592186044416000000)) = v ∧ 0 ≤ v ∧
      IntKind.u64.wrap (v.tdiv 4096000000) = q2 ∧ 0 ≤ q2 ∧ q2 ≤ 4294967295 ∧ IntKind.u64.wrap (v - q2 * 4096000000) = r2 ∧ 0 ≤ r2 ∧ r2 ≤ 4095999999 ∧
      IntKind.u64.wrap (IntKind.u64.wrap (IntKind.u64.wrap (v * 4294967296) + c0) - IntKind.u64.wrap (q2 * 17592186044416000000)) = x ∧ 0 ≤ x ∧
      q * 4294967296 + q2 = (h * 18446744073709551616 + l) / 1000000 ∧ x / 17592186044416 = (h * 18446744073709551616 + l) % 1000000 := by
  have e2 : bits BinOp.or IntKind.u64 (h * 17592186044416) (l / 1048576) = h * 17592186044416 + l / 1048576 := by
    obtain ⟨h, rfl⟩ := Int.eq_ofNat_of_zero_le h0
    obtain ⟨l, rfl⟩ := Int.eq_ofNat_of_zero_le l0
    exact or_join h l 44 (by omega) (by omega) (by omega)
  have e2 : bits BinOp.or IntKind.u64 (h * 17592186044416) (l / 1048576) = h * 17592186044416 + l / 1048576 := e2
  obtain ⟨a, b, ha, hb, hb', hl⟩ : ∃ a b : Int, 0 ≤ a ∧ 0 ≤ b ∧ b ≤ 1048575 ∧ l = a * 1048576 + b := ⟨l / 1048576, l % 1048576, by omega, by omega, by omega, by omega⟩
  have hla : l / 1048576 = a := by omega
  have hc := divFactsA1 a b ha hb hb'
  have e3 : bits BinOp.and IntKind.u64 (b * 17592186044416) 4294967295 = b * 17592186044416 % 4294967296 := by
    rw [u64_and _ _ (by omega) (by omega) (by omega) (by omega)]
    have : (4294967295 : Int).toNat = 4294967295 := rfl
    rw [this, nat_mask32]; omega
  have hu : h * 17592186044416 + a < 17592186044416000000 := by omega
  obtain ⟨u, hu'⟩ : ∃ u : Int, u = h * 17592186044416 + a := ⟨_, rfl⟩
  obtain ⟨c, hc'⟩ : ∃ c : Int, c = b * 17592186044416 := ⟨_, rfl⟩
  obtain ⟨q, r, q0, q1, r0, r1, hq, hqd⟩ : ∃ q r : Int, 0 ≤ q ∧ q ≤ 4294967295 ∧ 0 ≤ r ∧ r ≤ 4095999999 ∧ u = q * 4096000000 + r ∧ u / 4096000000 = q := ⟨u / 4096000000, u % 4096000000, by omega, by omega, by omega, by omega, by omega, rfl⟩
  obtain ⟨c1, c0, c10, c11, c00, c01, hcd, hcm, hcs⟩ : ∃ c1 c0 : Int, 0 ≤ c1 ∧ c1 ≤ 4294967295 ∧ 0 ≤ c0 ∧ c0 ≤ 4294967295 ∧ c / 4294967296 = c1 ∧ c % 4294967296 = c0 ∧ c = c1 * 4294967296 + c0 := ⟨c / 4294967296, c % 4294967296, by omega, by omega, by omega, by omega, rfl, rfl, by omega⟩
  obtain ⟨v, hv⟩ : ∃ v : Int, v = r * 4294967296 + c1 := ⟨_, rfl⟩
  obtain ⟨q2, r2, q20, q21, r20, r21, hq2, hqd2⟩ : ∃ q r : Int, 0 ≤ q ∧ q ≤ 4294967295 ∧ 0 ≤ r ∧ r ≤ 4095999999 ∧ v = q * 4096000000 + r ∧ v / 4096000000 = q := ⟨v / 4096000000, v % 4096000000, by omega, by omega, by omega, by omega, by omega, rfl⟩
  obtain ⟨x, hx⟩ : ∃ x : Int, x = r2 * 4294967296 + c0 := ⟨_, rfl⟩
  have hfin := divFactsA3 h a b u c q r c1 c0 v q2 r2 x hu' hc' hq hcs hv hq2 hx
  have hv2 := divFactsA2 u q r c1 hq r0 r1 c10 c11
  have hx2 := divFactsA2 v q2 r2 c0 hq2 r20 r21 c00 c01
  obtain ⟨g1, g2⟩ := divFactsA4 _ _ x hfin (by omega) (by omega)
  have hw : ∀ z : Int, 0 ≤ z → z ≤ 4294967295 → IntKind.u64.wrap z = z := fun z z0 z1 => by rw [IntKind.wrap_u64]; omega
  refine ⟨u, q, r, c, c1, c0, v, q2, r2, x, ?_, ?_, ?_, q0, q1, ?_, r0, r1, ?_, ?_, hcd, c10, c11, ?_, c00, c01, ?_, ?_, ?_, q20, q21, ?_, r20, r21, ?_, ?_, ?_, ?_⟩
  · rw [e2, hla, hu']
  · omega
  · rw [Int.tdiv_eq_ediv_of_nonneg (by omega), hqd]; exact hw q q0 q1
  · have : u - q * 4096000000 = r := by omega
    rw [this]; exact hw r r0 (by omega)
  · rw [IntKind.wrap_u64, hl, hc, hc']
  · omega
  · rw [hc', e3, ← hc', hcm]
  · rw [hv2, hv]
  · omega
  · rw [Int.tdiv_eq_ediv_of_nonneg (by omega), hqd2]; exact hw q2 q20 q21
  · have : v - q2 * 4096000000 = r2 := by omega
    rw [this]; exact hw r2 r20 (by omega)
  · rw [hx2, hx]
  · omega
  · rw [g1, hl]
  · rw [g2, hl]

/-- where the bit by bit multiplication stands ahead of bit k -/
def shareInv (a b y q r k : Int) : Prop := 0 ≤ q ∧ 0 ≤ r ∧ r < y ∧ a * (b / 2 ^ (k + 1).toNat) = q * y + r
theorem bit_and (b : Int) (n : Nat) (h0 : 0 ≤ b) (h1 : b ≤ 2100000000000000000) : bits .and .i64 (b / 2 ^ n) 1 = b / 2 ^ n % 2 := by
  have h2 : b / 2 ^ n ≤ b := Int.ediv_le_self _ h0
  have h3 : 0 ≤ b / 2 ^ n := Int.ediv_nonneg h0 (Int.le_of_lt (Int.pow_pos (by omega)))
  obtain ⟨x, hx⟩ : ∃ x : Int, b / 2 ^ n = x := ⟨_, rfl⟩
  rw [hx] at h2 h3 ⊢
  obtain ⟨x, rfl⟩ := Int.eq_ofNat_of_zero_le h3
  show IntKind.i64.wrap ((BitVec.ofInt 64 (x : Int) &&& BitVec.ofInt 64 1).toNat : Int) = _
  rw [BitVec.toNat_and, ofInt_u64 x (by omega), show (BitVec.ofInt 64 1).toNat = 1 from by decide, nat_mask1, IntKind.wrap_i64]
  omega
theorem pow_step (b : Int) (n : Nat) : b / 2 ^ n = 2 * (b / 2 ^ (n + 1)) + b / 2 ^ n % 2 := by
  rw [Int.pow_succ, ← Int.ediv_ediv_of_nonneg (Int.le_of_lt (Int.pow_pos (by omega)))]
  omega
theorem share_mul (a b : Int) (k : Int) (h : 0 ≤ k) : a * (b / 2 ^ (k - 1 + 1).toNat) = 2 * (a * (b / 2 ^ (k + 1).toNat)) + a * (b / 2 ^ k.toNat % 2) := by
  have e1 : (k - 1 + 1).toNat = k.toNat := by omega
  have e2 : (k + 1).toNat = k.toNat + 1 := by omega
  rw [e1, e2]
  have := pow_step b k.toNat
  rw [show a * (b / 2 ^ k.toNat) = a * (2 * (b / 2 ^ (k.toNat + 1)) + b / 2 ^ k.toNat % 2) from by rw [← this]]
  rw [Int.mul_add, Int.mul_left_comm]
theorem share_big (a b y q r k : Int) (ha : 0 ≤ a) (hb : 0 ≤ b) (hy : 0 < y) (h : shareInv a b y q r k) : q ≤ a * b / y := by
  obtain ⟨h1, h2, h3, h4⟩ := h
  have h5 : b / 2 ^ (k + 1).toNat ≤ b := Int.ediv_le_self _ hb
  have h6 := Int.mul_le_mul_of_nonneg_left h5 ha
  rw [h4] at h6
  rw [Int.le_ediv_iff_mul_le hy]; omega
theorem share_end (a b y q r : Int) (hy : 0 < y) (h : shareInv a b y q r (-1)) : a * b / y = q := by
  obtain ⟨h1, h2, h3, h4⟩ := h
  have : (((-1 : Int) + 1).toNat) = 0 := by decide
  rw [this, Int.pow_zero, Int.ediv_one] at h4
  rw [h4, Int.add_comm, Int.add_mul_ediv_right _ _ (by omega), Int.ediv_eq_zero_of_lt h2 h3, Int.zero_add]
theorem share_start (a b y : Int) (h0 : 0 ≤ b) (h1 : b ≤ 2100000000000000000) (hy : 0 < y) : shareInv a b y 0 0 62 := by
  refine ⟨by omega, by omega, hy, ?_⟩
  have : (((62 : Int) + 1).toNat) = 63 := by decide
  rw [this, show ((2 : Int) ^ 63) = 9223372036854775808 from by decide, Int.ediv_eq_zero_of_lt h0 (by omega)]
  simp

theorem share_step0a (a b q r k : Int) (hk : 0 ≤ k) (h : shareInv a b 1000000 q r k) (hb : b / 2 ^ k.toNat % 2 = 0) :
    shareInv a b 1000000 (2 * q + 2 * r / 1000000) (2 * r % 1000000) (k - 1) := by
  obtain ⟨h1, h2, h3, h4⟩ := h
  refine ⟨by omega, by omega, by omega, ?_⟩
  rw [share_mul a b k hk, h4, hb]; omega
theorem share_step1a (a b q r k : Int) (ha : 0 ≤ a) (hk : 0 ≤ k) (h : shareInv a b 1000000 q r k) (hb : b / 2 ^ k.toNat % 2 = 1) :
    shareInv a b 1000000 (2 * q + 2 * r / 1000000 + a / 1000000 + (2 * r % 1000000 + a % 1000000) / 1000000) ((2 * r % 1000000 + a % 1000000) % 1000000) (k - 1) := by
  obtain ⟨h1, h2, h3, h4⟩ := h
  refine ⟨by omega, by omega, by omega, ?_⟩
  rw [share_mul a b k hk, h4, hb]; omega

theorem sum_cons (n a : Int) (l : List Int) (h : 0 ≤ a) (h' : a ≤ 2100000000000000000 - n) : sumGo n (a :: l) = sumGo (n + a) l := by simp [sumGo, h, h']
theorem sum_cons_no (n a : Int) (l : List Int) (h : ¬ (0 ≤ a ∧ a ≤ 2100000000000000000 - n)) : sumGo n (a :: l) = none := by simp only [sumGo, if_neg h]
theorem drop_at (zs : List Int) (k : Nat) (h : k < zs.length) : zs.drop k = zs.getD k 0 :: zs.drop (k + 1) := by
  rw [List.drop_eq_getElem_cons h]; congr 1; simp [List.getD, h]

/-- two amounts added; taken away -/
def addO (a b : Int) : Option Int := if 0 ≤ a ∧ 0 ≤ b ∧ a + b ≤ 2100000000000000000 then some (a + b) else none
/-- a fee -/
def feeO (amount base rate : Int) : Option Int :=
  if 0 ≤ amount ∧ amount ≤ 2100000000000000000 ∧ 0 ≤ base ∧ base ≤ 2100000000000000000 ∧ 0 ≤ rate ∧ rate ≤ 2100000000000000000 ∧
    base + amount * rate / 1000000 ≤ 2100000000000000000 then some (base + amount * rate / 1000000) else none
def grossO (amount base rate : Int) : Option Int := match feeO amount base rate with | none => none | some f => addO amount f
/-! Div -/
set_option maxRecDepth 4000 in
set_option maxHeartbeats 400000 in
theorem lz_a (w : World) :
    Calls Tryz.prog 192 #[.int .u64 1000000] w fun e w' => e = .returned (.int .i64 44) ∧ w = w' := by
  go_enter Tryz.func192, Tryz.ntmps192
  go_wp2
  go_ret
  exact ⟨by kernel_rfl, rfl⟩
set_option maxRecDepth 100000 in
set_option maxHeartbeats 800000 in
theorem div_a (h l : Int) (h0 : 1 ≤ h) (h1 : h < 1000000) (l0 : 0 ≤ l) (l1 : l < 18446744073709551616) (w : World) :
    Calls Tryz.prog 176 #[.int .u64 h, .int .u64 l, .int .u64 1000000] w fun e w' => e = .returned (.tuple #[.int .u64 ((h * 18446744073709551616 + l) / 1000000), .int .u64 ((h * 18446744073709551616 + l) % 1000000)]) ∧ w = w' := by
  have hh : (h == 0) = false := by simp; omega
  have e1 : bits BinOp.and IntKind.u64 17592186044416000000 4294967295 = 0 := by decide +kernel
  obtain ⟨u, q, r, c, c1, c0, v, q2, r2, x, f1, f2, f3, f4, f5, f6, f7, f8, f9, f10, f11, f12, f13, f14, f15, f16, f17, f18, f19, f20, f21, f22, f23, f24, f25, f26, f27, f28⟩ := divFactsA h l (by omega) h1 l0 l1
  have F27 := Lib.hid f27; have F28 := Lib.hid f28; clear f27 f28
  clear l1
  go_enter Tryz.func176, Tryz.ntmps176
  go_wp2_with (go_at_call 192; refine (lz_a _).mono ?_; rintro e w' ⟨rfl, rfl⟩)
  refine wp_loop_once ?_
  go_wp2
  refine wp_loop_once ?_
  go_wp2
  go_ret2
  rw [← F27.out, ← F28.out]
  exact ⟨rfl, rfl⟩

/-- The quotient at the divisor a million, the high word below it: whatever the high word. -/
theorem div_a0 (l : Int) (l0 : 0 ≤ l) (l1 : l < 18446744073709551616) (w : World) :
    Calls Tryz.prog 176 #[.int .u64 0, .int .u64 l, .int .u64 1000000] w fun e w' => e = .returned (.tuple #[.int .u64 (l / 1000000), .int .u64 (l % 1000000)]) ∧ ∃ n, w' = w.drewN n := by
  have f1 : IntKind.u64.wrap (l.tdiv 1000000) = l / 1000000 := by rw [Int.tdiv_eq_ediv_of_nonneg l0, IntKind.wrap_u64]; omega
  have f2 : l.tmod 1000000 = l % 1000000 := Int.tmod_eq_emod_of_nonneg l0
  clear l1
  go_enter Tryz.func176, Tryz.ntmps176
  go_wp2_with fail
  go_quiet (fail)
  go_wp2
  go_ret2
  exact ⟨rfl, _, rfl⟩

/-! Share -/

def SharePost (a b y : Int) (w : World) (e : Ending) (w' : World) : Prop :=
  Below w.heap.size w w' ∧ (a * b / y ≤ 2100000000000000000 → e = .returned (.tuple #[.int .i64 (a * b / y), .bool true])) ∧ (2100000000000000000 < a * b / y → ∃ z, e = .returned (.tuple #[.int .i64 z, .bool false]))
theorem below_drewN {B : Nat} {a w : World} (h : Below B a w) (n : Nat) : Below B a (w.drewN n) := by
  induction n with
  | zero => exact h
  | succ n ih => exact ih.drew

set_option maxHeartbeats 800000 in
theorem share_a (a b : Int) (a0 : 0 ≤ a) (a1 : a ≤ 2100000000000000000) (b0 : 0 ≤ b) (b1 : b ≤ 2100000000000000000) (w : World) :
    Calls Tryz.prog 149 #[.int .i64 a, .int .i64 b, .int .i64 1000000] w (SharePost a b 1000000 w) := by
  go_enter Tryz.func149, Tryz.ntmps149
  go_wp2
  go_quiet (fail)
  go_wp2
  go_loop [8, 9, 12] (fun q r k => ∃ q' r' k' : Int, q = .int .i64 q' ∧ r = .int .i64 r' ∧ k = .int .i64 k' ∧ shareInv a b 1000000 q' r' k' ∧ 0 ≤ q' ∧ 0 ≤ r' ∧ r' < 1000000 ∧ k' ≤ 62 ∧ -1 ≤ k' ) (fun _ _ k => (intOf k + 1).toNat)
  case atStart => exact ⟨0, 0, 62, rfl, rfl, rfl, share_start a b 1000000 b0 b1 (by omega), by omega, by omega, by omega, by omega, by omega⟩
  case round =>
    obtain ⟨q, r, k, rfl, rfl, rfl, hi, q0, r0, r1, k0, k1⟩ := hrel
    by_cases hk : 0 ≤ k
    · by_cases hq : q ≤ 2100000000000000000
      · by_cases hb : b / 2 ^ k.toNat % 2 = 1
        · have hn := share_step1a a b q r k a0 hk hi hb
          have hb' : (bits BinOp.and IntKind.i64 (b / 2 ^ k.toNat) 1 == 1) = true := by rw [bit_and b _ b0 b1, hb]; rfl
          clear hb
          go_wp2
          go_round
          case rel => exact ⟨_, _, _, rfl, rfl, rfl, hn, hn.1, hn.2.1, hn.2.2.1, by omega, by omega⟩
          case measure => simp [intOf]; omega
        · have hb2 : b / 2 ^ k.toNat % 2 = 0 := by omega
          have hn := share_step0a a b q r k hk hi hb2
          have hb' : (bits BinOp.and IntKind.i64 (b / 2 ^ k.toNat) 1 == 1) = false := by rw [bit_and b _ b0 b1, hb2]; rfl
          clear hb hb2
          go_wp2
          go_round
          case rel => exact ⟨_, _, _, rfl, rfl, rfl, hn, hn.1, hn.2.1, hn.2.2.1, by omega, by omega⟩
          case measure => simp [intOf]; omega
      · have hbig := share_big a b 1000000 q r k a0 b0 (by omega) hi
        go_wp2
        go_ret2
        exact ⟨below_drewN (Below.refl _ _) _, fun h => by omega, fun _ => ⟨0, rfl⟩⟩
    · obtain rfl : k = -1 := by omega
      have hend := share_end a b 1000000 q r (by omega) hi
      have HE := Lib.hid hend; clear hend
      by_cases hq : q ≤ 2100000000000000000
      all_goals
        go_wp2
        go_ret2
        refine ⟨below_drewN (Below.refl _ _) _, fun h => ?_, fun h => ?_⟩
        · rw [HE.out] at h ⊢
          first | (exfalso; omega) | simp
        · rw [HE.out] at h
          first | (exfalso; omega) | exact ⟨q, by simp⟩

/-! Walk1 -/

def OptPost (o : Option Int) (w : World) (e : Ending) (w' : World) : Prop :=
  Below w.heap.size w w' ∧ (∀ v, o = some v → e = .returned (.tuple #[.int .i64 v, .int .i64 0])) ∧ (o = none → e = .returned (.tuple #[.int .i64 0, .int .i64 40]))
theorem OptPost.yes {o : Option Int} {w w' : World} {v : Int} (hb : Below w.heap.size w w') (h : o = some v) : OptPost o w (.returned (.tuple #[.int .i64 v, .int .i64 0])) w' :=
  ⟨hb, fun u hu => (by rw [h] at hu; cases hu; rfl), fun hn => (by rw [h] at hn; cases hn)⟩
theorem OptPost.no {o : Option Int} {w w' : World} (hb : Below w.heap.size w w') (h : o = none) : OptPost o w (.returned (.tuple #[.int .i64 0, .int .i64 40])) w' :=
  ⟨hb, fun u hu => (by rw [h] at hu; cases hu), fun _ => rfl⟩

set_option maxHeartbeats 800000 in
theorem sum_any (b off cap : Nat) (zs : List Int) (o : Option Int) (w : World) (hlen : zs.length ≤ 1000000) (ho : sumGo 0 zs = o)
    (hc : ∀ j, j < zs.length → w.cell? ⟨b, off + j, none⟩ = some (.int .i64 (zs.getD j 0))) :
    Calls Tryz.prog 147 #[.slice (some ⟨b, off, none⟩) zs.length cap] w (OptPost o w) := by
  have HO := Lib.hid ho; clear ho
  have HC := Lib.hid hc; clear hc
  obtain ⟨len, hl⟩ : ∃ len, zs.length = len := ⟨_, rfl⟩
  have HL := Lib.hid hl; rw [hl] at hlen ⊢; clear hl
  go_enter Tryz.func147, Tryz.ntmps147
  go_wp2
  go_loop [4, 9] (fun n i => ∃ (k : Nat) (n' : Int), i = .int .i64 k ∧ n = .int .i64 n' ∧ k ≤ len ∧ 0 ≤ n' ∧ n' ≤ 2100000000000000000 ∧ Hid (sumGo n' (zs.drop k) = o)) (fun _ i => len - (intOf i).toNat)
  case atStart => exact ⟨0, 0, rfl, rfl, by omega, by omega, by omega, HO.out⟩
  case round =>
    obtain ⟨k, n, rfl, rfl, hk, n0, n1, hs⟩ := hrel
    by_cases hlt : k < len
    · have hck := HC.out k (by rw [HL.out]; exact hlt)
      have hd := drop_at zs k (by rw [HL.out]; exact hlt)
      generalize zs.getD k 0 = a at hck hd
      have hs' := hs.out; rw [hd] at hs'
      clear hd hs
      by_cases ha : 0 ≤ a ∧ a ≤ 2100000000000000000 - n
      · rw [sum_cons n a _ ha.1 ha.2] at hs'
        have HS : Hid _ := hs'; clear hs'
        obtain ⟨a0, a1⟩ := ha
        go_wp2
        go_round
        case rel => exact ⟨k + 1, _, by go_num, rfl, by omega, by omega, by omega, HS⟩
        case measure => simp [intOf]; omega
      · rw [sum_cons_no n a _ ha] at hs'
        have HS := Lib.hid hs'; clear hs'
        by_cases a0 : 0 ≤ a
        · have a1 : 2100000000000000000 - n < a := by omega
          clear ha
          by_cases a2 : a ≤ 2100000000000000000
          all_goals
            go_wp2
            go_ret2
            exact OptPost.no (Below.refl _ _) HS.out.symm
        · clear ha
          go_wp2
          go_ret2
          exact OptPost.no (Below.refl _ _) HS.out.symm
    · obtain rfl : k = len := by omega
      have hs' := hs.out
      rw [List.drop_of_length_le (by rw [HL.out]; exact Nat.le_refl _)] at hs'
      have HS := Lib.hid hs'; clear hs' hs
      go_wp2
      go_ret2
      exact OptPost.yes (Below.refl _ _) (by rw [← HS.out]; rfl)

/-! Walk2 -/

/-- the 128 bits of a product -/
theorem mul_any (x y hi lo : Int) (x0 : 0 ≤ x) (x1 : x ≤ 2100000000000000000) (y0 : 0 ≤ y) (y1 : y ≤ 2100000000000000000) (l0 : 0 ≤ lo) (l1 : lo < 18446744073709551616) (h : x * y = hi * 18446744073709551616 + lo) (w : World) :
    Calls Tryz.prog 175 #[.int .u64 x, .int .u64 y] w fun e w' => e = .returned (.tuple #[.int .u64 hi, .int .u64 lo]) ∧ w = w' := by
  obtain ⟨x, rfl⟩ := Int.eq_ofNat_of_zero_le x0
  obtain ⟨y, rfl⟩ := Int.eq_ofNat_of_zero_le y0
  refine (Tryz.bits_Mul64 x y (by omega) (by omega) w).mono ?_
  rintro e w' ⟨rfl, rfl⟩
  have e1 : ((x * y / 18446744073709551616 : Nat) : Int) = hi := by rw [Int.natCast_ediv, Int.natCast_mul, h]; omega
  have e2 : ((x * y % 18446744073709551616 : Nat) : Int) = lo := by rw [Int.natCast_emod, Int.natCast_mul, h]; omega
  rw [e1, e2]
  exact ⟨rfl, rfl⟩

def DivPost (q r : Int) (w : World) (e : Ending) (w' : World) : Prop := e = .returned (.tuple #[.int .u64 q, .int .u64 r]) ∧ Below w.heap.size w w'
theorem divA (h l q r : Int) (h0 : 0 ≤ h) (h1 : h < 1000000) (l0 : 0 ≤ l) (l1 : l < 18446744073709551616) (r0 : 0 ≤ r) (r1 : r < 1000000) (e : h * 18446744073709551616 + l = q * 1000000 + r) (w : World) :
    Calls Tryz.prog 176 #[.int .u64 h, .int .u64 l, .int .u64 1000000] w (DivPost q r w) := by
  have e1 : (h * 18446744073709551616 + l) / 1000000 = q := by omega
  have e2 : (h * 18446744073709551616 + l) % 1000000 = r := by omega
  by_cases hh : h = 0
  · subst hh
    refine (div_a0 l l0 l1 w).mono ?_
    rintro e w' ⟨rfl, n, rfl⟩
    rw [show l / 1000000 = q by omega, show l % 1000000 = r by omega]
    exact ⟨rfl, below_drewN (Below.refl _ _) _⟩
  · refine (div_a h l (by omega) h1 l0 l1 w).mono ?_
    rintro e w' ⟨rfl, rfl⟩
    rw [e1, e2]
    exact ⟨rfl, Below.refl _ _⟩
/-- a product's parts -/
theorem parts (p y : Int) (p0 : 0 ≤ p) (hy : 0 < y) : ∃ hi lo q r : Int, p = hi * 18446744073709551616 + lo ∧ 0 ≤ hi ∧ 0 ≤ lo ∧ lo < 18446744073709551616 ∧ hi * 18446744073709551616 + lo = q * y + r ∧ 0 ≤ r ∧ r < y ∧ p / y = q ∧ 0 ≤ q := by
  refine ⟨p / 18446744073709551616, p % 18446744073709551616, p / y, p % y, by omega, by omega, by omega, by omega, ?_, Int.emod_nonneg _ (by omega), Int.emod_lt_of_pos _ hy, rfl, Int.ediv_nonneg p0 (by omega)⟩
  have := Int.ediv_mul_add_emod p y
  omega

theorem field44 (w : World) (x y : Int) : (Instr.field 227 (.agg #[.int .u64 x, .int .u64 y]) 0).run Tryz.prog w = .ok (.agg #[.int .u64 x, .int .u64 y]) w := by kernel_rfl
attribute [local go_sem] field44

set_option maxHeartbeats 1000000 in
theorem fee_q (a b r : Int) (a0 : 0 ≤ a) (a1 : a ≤ 2100000000000000000) (b0 : 0 ≤ b) (b1 : b ≤ 2100000000000000000) (r0 : 0 ≤ r) (r1 : r ≤ 2100000000000000000) (w : World) :
    Calls Tryz.prog 90 #[.int .i64 a, .int .i64 b, .int .i64 r] w (OptPost (feeO a b r) w) := by
  obtain ⟨hi, lo, q, rr, hp, hi0, lo0, lo1, hq, rr0, rr1, hqq, q0⟩ := parts (a * r) 1000000 (Int.mul_nonneg a0 r0) (by omega)
  have HM := fun w => mul_any a r hi lo a0 a1 r0 r1 lo0 lo1 hp w
  have HD := fun h1 w => divA hi lo q rr hi0 h1 lo0 lo1 rr0 rr1 hq w
  have ho : feeO a b r = if b + q ≤ 2100000000000000000 then some (b + q) else none := by
    simp only [feeO, hqq, a0, a1, b0, b1, r0, r1, true_and]
  replace HM := Lib.hid HM; replace HD := Lib.hid HD; have HO := Lib.hid ho; have HQ := Lib.hid hq; clear hp lo1 hq hqq ho
  by_cases h1 : hi < 1000000
  · replace HD := Lib.hid (HD.out h1)
    by_cases q1 : q ≤ 2100000000000000000
    · have HS : Hid (∀ (w : World) (bb : Nat), w.cell? ⟨bb, 0, none⟩ = some (.int .i64 b) → w.cell? ⟨bb, 1, none⟩ = some (.int .i64 q) → Calls Tryz.prog 147 #[.slice (some ⟨bb, 0, none⟩) 2 2] w (OptPost (feeO a b r) w)) := by
        intro w bb c0 c1
        refine sum_any bb 0 2 [b, q] (feeO a b r) w (by simp) ?_ ?_
        · rw [HO.out]
          simp only [sumGo]
          split
          · rename_i h; split
            · rename_i h2; rw [if_pos (by omega)]; simp
            · rename_i h2; rw [if_neg (by omega)]
          · rename_i h; exfalso; omega
        · intro j hj
          match j, hj with
          | 0, _ => simpa using c0
          | 1, _ => simpa using c1
      by_cases q2 : b + q ≤ 2100000000000000000
      · have HF : Hid (feeO a b r = some (b + q)) := by show _ = _; rw [HO.out, if_pos q2]
        go_enter Tryz.func90, Tryz.ntmps90
        go_wp2_with (first | (go_at_call 175; refine (HM.out _).mono ?_; rintro e w' ⟨rfl, rfl⟩) | (go_at_call 176; refine (HD.out _).mono ?_; rintro e w1 ⟨rfl, hb⟩; have z1 := hb.size; simp only [World.size_alloc] at z1) | (go_at_call 147; refine Calls.mono (HS.out _ _ (by go_cell) (by go_cell)) ?_; rintro e w2 ⟨hb2, hy, hn⟩; obtain rfl := hy _ HF.out; clear hy hn; have z2 := hb2.size; simp only [World.size_alloc] at z2) | go_in)
        go_ret2
        exact OptPost.yes (by (repeat' (first | (with_reducible exact Below.refl _ _) | (with_reducible refine Below.alloc ?_ ?_ _) | (with_reducible refine Below.drew ?_) | (with_reducible refine Below.setCell ?_ ?_ _) | (with_reducible refine below_drewN ?_ _) | (refine Below.trans ?_ (Below.mono (by assumption) ?_)) | go_size))) HF.out
      · have HF : Hid (feeO a b r = none) := by show _ = _; rw [HO.out, if_neg q2]
        go_enter Tryz.func90, Tryz.ntmps90
        go_wp2_with (first | (go_at_call 175; refine (HM.out _).mono ?_; rintro e w' ⟨rfl, rfl⟩) | (go_at_call 176; refine (HD.out _).mono ?_; rintro e w1 ⟨rfl, hb⟩; have z1 := hb.size; simp only [World.size_alloc] at z1) | (go_at_call 147; refine Calls.mono (HS.out _ _ (by go_cell) (by go_cell)) ?_; rintro e w2 ⟨hb2, hy, hn⟩; obtain rfl := hn HF.out; clear hy hn; have z2 := hb2.size; simp only [World.size_alloc] at z2) | go_in)
        go_ret2
        exact OptPost.no (by (repeat' (first | (with_reducible exact Below.refl _ _) | (with_reducible refine Below.alloc ?_ ?_ _) | (with_reducible refine Below.drew ?_) | (with_reducible refine Below.setCell ?_ ?_ _) | (with_reducible refine below_drewN ?_ _) | (refine Below.trans ?_ (Below.mono (by assumption) ?_)) | go_size))) HF.out
    · have qb : decide (q ≤ 2100000000000000000) = false := by simp; omega
      by_cases q3 : q ≤ 9223372036854775807
      · go_enter Tryz.func90, Tryz.ntmps90
        go_wp2_with (first | (go_at_call 175; refine (HM.out _).mono ?_; rintro e w' ⟨rfl, rfl⟩) | (go_at_call 176; refine (HD.out _).mono ?_; rintro e w1 ⟨rfl, hb⟩; have z1 := hb.size; simp only [World.size_alloc] at z1) | go_in)
        go_ret2
        exact OptPost.no (by (repeat' (first | (with_reducible exact Below.refl _ _) | (with_reducible refine Below.alloc ?_ ?_ _) | (with_reducible refine Below.drew ?_) | (with_reducible refine Below.setCell ?_ ?_ _) | (with_reducible refine below_drewN ?_ _) | (refine Below.trans ?_ (Below.mono (by assumption) ?_)) | go_size))) (by rw [HO.out, if_neg (by omega)])
      · go_enter Tryz.func90, Tryz.ntmps90
        go_wp2_with (first | (go_at_call 175; refine (HM.out _).mono ?_; rintro e w' ⟨rfl, rfl⟩) | (go_at_call 176; refine (HD.out _).mono ?_; rintro e w1 ⟨rfl, hb⟩; have z1 := hb.size; simp only [World.size_alloc] at z1) | go_in)

        go_ret2
        exact OptPost.no (by (repeat' (first | (with_reducible exact Below.refl _ _) | (with_reducible refine Below.alloc ?_ ?_ _) | (with_reducible refine Below.drew ?_) | (with_reducible refine Below.setCell ?_ ?_ _) | (with_reducible refine below_drewN ?_ _) | (refine Below.trans ?_ (Below.mono (by assumption) ?_)) | go_size))) (by rw [HO.out, if_neg (by omega)])
  · have : ¬ (b + q ≤ 2100000000000000000) := by have := HQ.out; omega
    have ho := HO.out; rw [if_neg this] at ho; clear this
    have HN := Lib.hid ho; clear ho
    go_enter Tryz.func90, Tryz.ntmps90
    go_wp2_with (first | (go_at_call 175; refine (HM.out _).mono ?_; rintro e w' ⟨rfl, rfl⟩) | go_in)
    go_ret2
    exact OptPost.no (by go_grown) HN.out

/-! Walk3 -/
attribute [local go_sem] field44

set_option maxHeartbeats 1000000 in
theorem fee_bad (a b r : Int) (h : ¬ (0 ≤ a ∧ a ≤ 2100000000000000000 ∧ 0 ≤ b ∧ b ≤ 2100000000000000000 ∧ 0 ≤ r ∧ r ≤ 2100000000000000000)) (w : World) : Calls Tryz.prog 90 #[.int .i64 a, .int .i64 b, .int .i64 r] w (OptPost (feeO a b r) w) := by
  have HO : Hid (feeO a b r = none) := by show _ = _; simp only [feeO]; rw [if_neg (by omega)]
  by_cases n0 : 0 ≤ a
  rotate_left
  · go_enter Tryz.func90, Tryz.ntmps90
    go_wp2
    go_ret2
    exact OptPost.no (by (repeat' (first | (with_reducible exact Below.refl _ _) | (with_reducible refine Below.alloc ?_ ?_ _) | (with_reducible refine Below.drew ?_) | (with_reducible refine Below.setCell ?_ ?_ _) | (with_reducible refine below_drewN ?_ _) | (refine Below.trans ?_ (Below.mono (by assumption) ?_)) | go_size))) HO.out
  by_cases n1 : a ≤ 2100000000000000000
  rotate_left
  · go_enter Tryz.func90, Tryz.ntmps90
    go_wp2
    go_ret2
    exact OptPost.no (by (repeat' (first | (with_reducible exact Below.refl _ _) | (with_reducible refine Below.alloc ?_ ?_ _) | (with_reducible refine Below.drew ?_) | (with_reducible refine Below.setCell ?_ ?_ _) | (with_reducible refine below_drewN ?_ _) | (refine Below.trans ?_ (Below.mono (by assumption) ?_)) | go_size))) HO.out
  by_cases n2 : 0 ≤ b
  rotate_left
  · go_enter Tryz.func90, Tryz.ntmps90
    go_wp2
    go_ret2
    exact OptPost.no (by (repeat' (first | (with_reducible exact Below.refl _ _) | (with_reducible refine Below.alloc ?_ ?_ _) | (with_reducible refine Below.drew ?_) | (with_reducible refine Below.setCell ?_ ?_ _) | (with_reducible refine below_drewN ?_ _) | (refine Below.trans ?_ (Below.mono (by assumption) ?_)) | go_size))) HO.out
  by_cases n3 : b ≤ 2100000000000000000
  rotate_left
  · go_enter Tryz.func90, Tryz.ntmps90
    go_wp2
    go_ret2
    exact OptPost.no (by (repeat' (first | (with_reducible exact Below.refl _ _) | (with_reducible refine Below.alloc ?_ ?_ _) | (with_reducible refine Below.drew ?_) | (with_reducible refine Below.setCell ?_ ?_ _) | (with_reducible refine below_drewN ?_ _) | (refine Below.trans ?_ (Below.mono (by assumption) ?_)) | go_size))) HO.out
  by_cases n4 : 0 ≤ r
  rotate_left
  · go_enter Tryz.func90, Tryz.ntmps90
    go_wp2
    go_ret2
    exact OptPost.no (by (repeat' (first | (with_reducible exact Below.refl _ _) | (with_reducible refine Below.alloc ?_ ?_ _) | (with_reducible refine Below.drew ?_) | (with_reducible refine Below.setCell ?_ ?_ _) | (with_reducible refine below_drewN ?_ _) | (refine Below.trans ?_ (Below.mono (by assumption) ?_)) | go_size))) HO.out
  by_cases n5 : r ≤ 2100000000000000000
  rotate_left
  · go_enter Tryz.func90, Tryz.ntmps90
    go_wp2
    go_ret2
    exact OptPost.no (by (repeat' (first | (with_reducible exact Below.refl _ _) | (with_reducible refine Below.alloc ?_ ?_ _) | (with_reducible refine Below.drew ?_) | (with_reducible refine Below.setCell ?_ ?_ _) | (with_reducible refine below_drewN ?_ _) | (refine Below.trans ?_ (Below.mono (by assumption) ?_)) | go_size))) HO.out
  exfalso; omega

set_option maxHeartbeats 1000000 in
theorem feer_bad (a b r : Int) (h : ¬ (0 ≤ a ∧ a ≤ 2100000000000000000 ∧ 0 ≤ b ∧ b ≤ 2100000000000000000 ∧ 0 ≤ r ∧ r ≤ 2100000000000000000)) (w : World) : Calls Tryz.prog 91 #[.int .i64 a, .int .i64 b, .int .i64 r] w (OptPost (feeO a b r) w) := by
  have HO : Hid (feeO a b r = none) := by show _ = _; simp only [feeO]; rw [if_neg (by omega)]
  by_cases n0 : 0 ≤ a
  rotate_left
  · go_enter Tryz.func91, Tryz.ntmps91
    go_wp2
    go_ret2
    exact OptPost.no (by (repeat' (first | (with_reducible exact Below.refl _ _) | (with_reducible refine Below.alloc ?_ ?_ _) | (with_reducible refine Below.drew ?_) | (with_reducible refine Below.setCell ?_ ?_ _) | (with_reducible refine below_drewN ?_ _) | (refine Below.trans ?_ (Below.mono (by assumption) ?_)) | go_size))) HO.out
  by_cases n1 : a ≤ 2100000000000000000
  rotate_left
  · go_enter Tryz.func91, Tryz.ntmps91
    go_wp2
    go_ret2
    exact OptPost.no (by (repeat' (first | (with_reducible exact Below.refl _ _) | (with_reducible refine Below.alloc ?_ ?_ _) | (with_reducible refine Below.drew ?_) | (with_reducible refine Below.setCell ?_ ?_ _) | (with_reducible refine below_drewN ?_ _) | (refine Below.trans ?_ (Below.mono (by assumption) ?_)) | go_size))) HO.out
  by_cases n2 : 0 ≤ b
  rotate_left
  · go_enter Tryz.func91, Tryz.ntmps91
    go_wp2
    go_ret2
    exact OptPost.no (by (repeat' (first | (with_reducible exact Below.refl _ _) | (with_reducible refine Below.alloc ?_ ?_ _) | (with_reducible refine Below.drew ?_) | (with_reducible refine Below.setCell ?_ ?_ _) | (with_reducible refine below_drewN ?_ _) | (refine Below.trans ?_ (Below.mono (by assumption) ?_)) | go_size))) HO.out
  by_cases n3 : b ≤ 2100000000000000000
  rotate_left
  · go_enter Tryz.func91, Tryz.ntmps91
    go_wp2
    go_ret2
    exact OptPost.no (by (repeat' (first | (with_reducible exact Below.refl _ _) | (with_reducible refine Below.alloc ?_ ?_ _) | (with_reducible refine Below.drew ?_) | (with_reducible refine Below.setCell ?_ ?_ _) | (with_reducible refine below_drewN ?_ _) | (refine Below.trans ?_ (Below.mono (by assumption) ?_)) | go_size))) HO.out
  by_cases n4 : 0 ≤ r
  rotate_left
  · go_enter Tryz.func91, Tryz.ntmps91
    go_wp2
    go_ret2
    exact OptPost.no (by (repeat' (first | (with_reducible exact Below.refl _ _) | (with_reducible refine Below.alloc ?_ ?_ _) | (with_reducible refine Below.drew ?_) | (with_reducible refine Below.setCell ?_ ?_ _) | (with_reducible refine below_drewN ?_ _) | (refine Below.trans ?_ (Below.mono (by assumption) ?_)) | go_size))) HO.out
  by_cases n5 : r ≤ 2100000000000000000
  rotate_left
  · go_enter Tryz.func91, Tryz.ntmps91
    go_wp2
    go_ret2
    exact OptPost.no (by (repeat' (first | (with_reducible exact Below.refl _ _) | (with_reducible refine Below.alloc ?_ ?_ _) | (with_reducible refine Below.drew ?_) | (with_reducible refine Below.setCell ?_ ?_ _) | (with_reducible refine below_drewN ?_ _) | (refine Below.trans ?_ (Below.mono (by assumption) ?_)) | go_size))) HO.out
  exfalso; omega

theorem fee_any (a b r : Int) (w : World) : Calls Tryz.prog 90 #[.int .i64 a, .int .i64 b, .int .i64 r] w (OptPost (feeO a b r) w) := by
  by_cases h : 0 ≤ a ∧ a ≤ 2100000000000000000 ∧ 0 ≤ b ∧ b ≤ 2100000000000000000 ∧ 0 ≤ r ∧ r ≤ 2100000000000000000
  · exact fee_q a b r h.1 h.2.1 h.2.2.1 h.2.2.2.1 h.2.2.2.2.1 h.2.2.2.2.2 w
  · exact fee_bad a b r h w

set_option maxHeartbeats 1000000 in
theorem feer_q (a b r : Int) (a0 : 0 ≤ a) (a1 : a ≤ 2100000000000000000) (b0 : 0 ≤ b) (b1 : b ≤ 2100000000000000000) (r0 : 0 ≤ r) (r1 : r ≤ 2100000000000000000) (w : World) :
    Calls Tryz.prog 91 #[.int .i64 a, .int .i64 b, .int .i64 r] w (OptPost (feeO a b r) w) := by
  have HS := Lib.hid (share_a a r a0 a1 r0 r1 w)
  obtain ⟨q, hq⟩ : ∃ q, a * r / 1000000 = q := ⟨_, rfl⟩
  have ho : feeO a b r = if b + q ≤ 2100000000000000000 then some (b + q) else none := by
    simp only [feeO, hq, a0, a1, b0, b1, r0, r1, true_and]
  have q0 : 0 ≤ q := by rw [← hq]; exact Int.ediv_nonneg (Int.mul_nonneg a0 r0) (by omega)
  have HQ := Lib.hid hq; clear hq
  by_cases q1 : q ≤ 2100000000000000000
  · by_cases q2 : b + q ≤ 2100000000000000000
    · have HF : Hid (feeO a b r = some (b + q)) := by show _ = _; rw [ho, if_pos q2]
      clear ho
      go_enter Tryz.func91, Tryz.ntmps91
      go_wp2_with (first | (go_at_call 149; refine Calls.mono HS.out ?_; rintro e w1 ⟨hb, hy, hn⟩; rw [HQ.out] at hy; obtain rfl := hy q1; clear hy hn) | go_in)
      go_ret2
      exact OptPost.yes (by (repeat' (first | (with_reducible exact Below.refl _ _) | (with_reducible refine Below.alloc ?_ ?_ _) | (with_reducible refine Below.drew ?_) | (with_reducible refine Below.setCell ?_ ?_ _) | (with_reducible refine below_drewN ?_ _) | (refine Below.trans ?_ (Below.mono (by assumption) ?_)) | go_size))) HF.out
    · have HF : Hid (feeO a b r = none) := by show _ = _; rw [ho, if_neg q2]
      clear ho
      go_enter Tryz.func91, Tryz.ntmps91
      go_wp2_with (first | (go_at_call 149; refine Calls.mono HS.out ?_; rintro e w1 ⟨hb, hy, hn⟩; rw [HQ.out] at hy; obtain rfl := hy q1; clear hy hn) | go_in)
      go_ret2
      exact OptPost.no (by (repeat' (first | (with_reducible exact Below.refl _ _) | (with_reducible refine Below.alloc ?_ ?_ _) | (with_reducible refine Below.drew ?_) | (with_reducible refine Below.setCell ?_ ?_ _) | (with_reducible refine below_drewN ?_ _) | (refine Below.trans ?_ (Below.mono (by assumption) ?_)) | go_size))) HF.out
  · have HF : Hid (feeO a b r = none) := by show _ = _; rw [ho, if_neg (by omega)]
    clear ho
    go_enter Tryz.func91, Tryz.ntmps91
    go_wp2_with (first | (go_at_call 149; refine Calls.mono HS.out ?_; rintro e w1 ⟨hb, hy, hn⟩; rw [HQ.out] at hn; obtain ⟨z, rfl⟩ := hn (by omega); clear hy hn) | go_in)
    go_ret2
    exact OptPost.no (by (repeat' (first | (with_reducible exact Below.refl _ _) | (with_reducible refine Below.alloc ?_ ?_ _) | (with_reducible refine Below.drew ?_) | (with_reducible refine Below.setCell ?_ ?_ _) | (with_reducible refine below_drewN ?_ _) | (refine Below.trans ?_ (Below.mono (by assumption) ?_)) | go_size))) HF.out
theorem feer_any (a b r : Int) (w : World) : Calls Tryz.prog 91 #[.int .i64 a, .int .i64 b, .int .i64 r] w (OptPost (feeO a b r) w) := by
  by_cases h : 0 ≤ a ∧ a ≤ 2100000000000000000 ∧ 0 ≤ b ∧ b ≤ 2100000000000000000 ∧ 0 ≤ r ∧ r ≤ 2100000000000000000
  · exact feer_q a b r h.1 h.2.1 h.2.2.1 h.2.2.2.1 h.2.2.2.2.1 h.2.2.2.2.2 w
  · exact feer_bad a b r h w

/-- a sum of two numbers that lie in a new row -/
theorem sum_two (a b : Int) (o : Option Int) (ho : sumGo 0 [a, b] = o) (w : World) (bb : Nat) (c0 : w.cell? ⟨bb, 0, none⟩ = some (.int .i64 a)) (c1 : w.cell? ⟨bb, 1, none⟩ = some (.int .i64 b)) :
    Calls Tryz.prog 147 #[.slice (some ⟨bb, 0, none⟩) 2 2] w (OptPost o w) := by
  refine sum_any bb 0 2 [a, b] o w (by simp) ho ?_
  intro j hj
  match j, hj with
  | 0, _ => simpa using c0
  | 1, _ => simpa using c1
theorem sumGo_two (a b : Int) : sumGo 0 [a, b] = addO a b := by
  simp only [sumGo, addO]
  split
  · rename_i h; split
    · rename_i h2; rw [if_pos (by omega)]; simp
    · rename_i h2; rw [if_neg (by omega)]
  · rename_i h; rw [if_neg (by omega)]

/-! Walk4 -/
attribute [local go_sem] field44

set_option maxHeartbeats 1000000 in
theorem addr_ok (a b : Int) (h0 : 0 ≤ a) (h1 : a ≤ 2100000000000000000) (h2 : 0 ≤ b) (h3 : b ≤ 2100000000000000000) (h4 : a + b ≤ 2100000000000000000) (w : World) : Calls Tryz.prog 150 #[.int .i64 a, .int .i64 b] w (OptPost (addO a b) w) := by
  have HO : Hid (addO a b = some (a + b)) := by show _ = _; simp only [addO]; rw [if_pos (by omega)]
  go_enter Tryz.func150, Tryz.ntmps150
  go_wp2
  go_ret2
  exact OptPost.yes (by (repeat' (first | (with_reducible exact Below.refl _ _) | (with_reducible refine Below.alloc ?_ ?_ _) | (with_reducible refine Below.drew ?_) | (with_reducible refine Below.setCell ?_ ?_ _) | (with_reducible refine below_drewN ?_ _) | (refine Below.trans ?_ (Below.mono (by assumption) ?_)) | go_size))) HO.out

set_option maxHeartbeats 1000000 in
theorem addr_bad (a b : Int) (h : ¬ (0 ≤ a ∧ a ≤ 2100000000000000000 ∧ 0 ≤ b ∧ b ≤ 2100000000000000000 ∧ a + b ≤ 2100000000000000000)) (w : World) : Calls Tryz.prog 150 #[.int .i64 a, .int .i64 b] w (OptPost (addO a b) w) := by
  have HO : Hid (addO a b = none) := by show _ = _; simp only [addO]; rw [if_neg (by omega)]
  by_cases n0 : 0 ≤ a
  rotate_left
  · go_enter Tryz.func150, Tryz.ntmps150
    go_wp2
    go_ret2
    exact OptPost.no (by (repeat' (first | (with_reducible exact Below.refl _ _) | (with_reducible refine Below.alloc ?_ ?_ _) | (with_reducible refine Below.drew ?_) | (with_reducible refine Below.setCell ?_ ?_ _) | (with_reducible refine below_drewN ?_ _) | (refine Below.trans ?_ (Below.mono (by assumption) ?_)) | go_size))) HO.out
  by_cases n1 : a ≤ 2100000000000000000
  rotate_left
  · go_enter Tryz.func150, Tryz.ntmps150
    go_wp2
    go_ret2
    exact OptPost.no (by (repeat' (first | (with_reducible exact Below.refl _ _) | (with_reducible refine Below.alloc ?_ ?_ _) | (with_reducible refine Below.drew ?_) | (with_reducible refine Below.setCell ?_ ?_ _) | (with_reducible refine below_drewN ?_ _) | (refine Below.trans ?_ (Below.mono (by assumption) ?_)) | go_size))) HO.out
  by_cases n2 : 0 ≤ b
  rotate_left
  · go_enter Tryz.func150, Tryz.ntmps150
    go_wp2
    go_ret2
    exact OptPost.no (by (repeat' (first | (with_reducible exact Below.refl _ _) | (with_reducible refine Below.alloc ?_ ?_ _) | (with_reducible refine Below.drew ?_) | (with_reducible refine Below.setCell ?_ ?_ _) | (with_reducible refine below_drewN ?_ _) | (refine Below.trans ?_ (Below.mono (by assumption) ?_)) | go_size))) HO.out
  by_cases n3 : b ≤ 2100000000000000000
  rotate_left
  · go_enter Tryz.func150, Tryz.ntmps150
    go_wp2
    go_ret2
    exact OptPost.no (by (repeat' (first | (with_reducible exact Below.refl _ _) | (with_reducible refine Below.alloc ?_ ?_ _) | (with_reducible refine Below.drew ?_) | (with_reducible refine Below.setCell ?_ ?_ _) | (with_reducible refine below_drewN ?_ _) | (refine Below.trans ?_ (Below.mono (by assumption) ?_)) | go_size))) HO.out
  by_cases n4 : a + b ≤ 2100000000000000000
  rotate_left
  · go_enter Tryz.func150, Tryz.ntmps150
    go_wp2
    go_ret2
    exact OptPost.no (by (repeat' (first | (with_reducible exact Below.refl _ _) | (with_reducible refine Below.alloc ?_ ?_ _) | (with_reducible refine Below.drew ?_) | (with_reducible refine Below.setCell ?_ ?_ _) | (with_reducible refine below_drewN ?_ _) | (refine Below.trans ?_ (Below.mono (by assumption) ?_)) | go_size))) HO.out
  exfalso; omega

theorem addr_any (a b : Int) (w : World) : Calls Tryz.prog 150 #[.int .i64 a, .int .i64 b] w (OptPost (addO a b) w) := by
  by_cases h : 0 ≤ a ∧ a ≤ 2100000000000000000 ∧ 0 ≤ b ∧ b ≤ 2100000000000000000 ∧ a + b ≤ 2100000000000000000
  · exact addr_ok a b h.1 h.2.1 h.2.2.1 h.2.2.2.1 h.2.2.2.2 w
  · exact addr_bad a b h w

/-- what is known of a call's outcome, once it is known which of the two it is -/
theorem opt_none {o : Option Int} {w : World} {e : Ending} {w' : World} (h : OptPost o w e w') (ho : o = none) : e = .returned (.tuple #[.int .i64 0, .int .i64 40]) ∧ Below w.heap.size w w' := ⟨h.2.2 ho, h.1⟩
theorem opt_some {o : Option Int} {w : World} {e : Ending} {w' : World} {v : Int} (h : OptPost o w e w') (ho : o = some v) : e = .returned (.tuple #[.int .i64 v, .int .i64 0]) ∧ Below w.heap.size w w' := ⟨h.2.1 _ ho, h.1⟩

set_option maxHeartbeats 1000000 in
theorem gross_any (a b r : Int) (w : World) : Calls Tryz.prog 138 #[.int .i64 a, .int .i64 b, .int .i64 r] w (OptPost (grossO a b r) w) := by
  cases hf : feeO a b r with
  | none =>
    have HG : Hid (grossO a b r = none) := by show _ = _; simp only [grossO, hf]
    have HF := Lib.hid hf; clear hf
    go_enter Tryz.func138, Tryz.ntmps138
    go_wp2_with (first | (go_at_call 90; refine Calls.mono (fee_any a b r _) ?_; rintro e w1 h1; obtain ⟨rfl, hb1⟩ := opt_none h1 HF.out; have z1 := hb1.size; try simp only [World.size_alloc] at z1) | go_in)
    go_ret2
    exact OptPost.no (by (repeat' (first | (with_reducible exact Below.refl _ _) | (with_reducible refine Below.alloc ?_ ?_ _) | (with_reducible refine Below.drew ?_) | (with_reducible refine Below.setCell ?_ ?_ _) | (with_reducible refine below_drewN ?_ _) | (refine Below.trans ?_ (Below.mono (by assumption) ?_)) | go_size))) HG.out
  | some f =>
    have hf0 : 0 ≤ f ∧ f ≤ 2100000000000000000 := by
      simp only [feeO] at hf; split at hf
      · cases hf; constructor
        · have : 0 ≤ a * r / 1000000 := Int.ediv_nonneg (Int.mul_nonneg (by omega) (by omega)) (by omega)
          omega
        · omega
      · cases hf
    obtain ⟨f0, f1⟩ := hf0
    have hg : grossO a b r = addO a f := by simp only [grossO, hf]
    have HF := Lib.hid hf; clear hf
    cases ha : addO a f with
    | none =>
      have HR : Hid (grossO a b r = none) := by show _ = _; rw [hg, ha]
      have HG := Lib.hid ha; clear ha hg
      go_enter Tryz.func138, Tryz.ntmps138
      go_wp2_with (first | (go_at_call 90; refine Calls.mono (fee_any a b r _) ?_; rintro e w1 h1; obtain ⟨rfl, hb1⟩ := opt_some h1 HF.out; have z1 := hb1.size; try simp only [World.size_alloc] at z1) | (go_at_call 147; refine Calls.mono (sum_two a f _ (sumGo_two a f) _ _ (by go_cell) (by go_cell)) ?_; rintro e w2 h2; obtain ⟨rfl, hb2⟩ := opt_none h2 HG.out; have z2 := hb2.size; try simp only [World.size_alloc] at z2) | go_in)
      go_ret2
      exact OptPost.no (by (repeat' (first | (with_reducible exact Below.refl _ _) | (with_reducible refine Below.alloc ?_ ?_ _) | (with_reducible refine Below.drew ?_) | (with_reducible refine Below.setCell ?_ ?_ _) | (with_reducible refine below_drewN ?_ _) | (refine Below.trans ?_ (Below.mono (by assumption) ?_)) | go_size))) HR.out
    | some v =>
      have HR : Hid (grossO a b r = some v) := by show _ = _; rw [hg, ha]
      have HG := Lib.hid ha; clear ha hg
      go_enter Tryz.func138, Tryz.ntmps138
      go_wp2_with (first | (go_at_call 90; refine Calls.mono (fee_any a b r _) ?_; rintro e w1 h1; obtain ⟨rfl, hb1⟩ := opt_some h1 HF.out; have z1 := hb1.size; try simp only [World.size_alloc] at z1) | (go_at_call 147; refine Calls.mono (sum_two a f _ (sumGo_two a f) _ _ (by go_cell) (by go_cell)) ?_; rintro e w2 h2; obtain ⟨rfl, hb2⟩ := opt_some h2 HG.out; have z2 := hb2.size; try simp only [World.size_alloc] at z2) | go_in)
      go_ret2
      exact OptPost.yes (by (repeat' (first | (with_reducible exact Below.refl _ _) | (with_reducible refine Below.alloc ?_ ?_ _) | (with_reducible refine Below.drew ?_) | (with_reducible refine Below.setCell ?_ ?_ _) | (with_reducible refine below_drewN ?_ _) | (refine Below.trans ?_ (Below.mono (by assumption) ?_)) | go_size))) HR.out

set_option maxHeartbeats 1000000 in
theorem grossr_any (a b r : Int) (w : World) : Calls Tryz.prog 143 #[.int .i64 a, .int .i64 b, .int .i64 r] w (OptPost (grossO a b r) w) := by
  cases hf : feeO a b r with
  | none =>
    have HG : Hid (grossO a b r = none) := by show _ = _; simp only [grossO, hf]
    have HF := Lib.hid hf; clear hf
    go_enter Tryz.func143, Tryz.ntmps143
    go_wp2_with (first | (go_at_call 91; refine Calls.mono (feer_any a b r _) ?_; rintro e w1 h1; obtain ⟨rfl, hb1⟩ := opt_none h1 HF.out; have z1 := hb1.size; try simp only [World.size_alloc] at z1) | go_in)
    go_ret2
    exact OptPost.no (by (repeat' (first | (with_reducible exact Below.refl _ _) | (with_reducible refine Below.alloc ?_ ?_ _) | (with_reducible refine Below.drew ?_) | (with_reducible refine Below.setCell ?_ ?_ _) | (with_reducible refine below_drewN ?_ _) | (refine Below.trans ?_ (Below.mono (by assumption) ?_)) | go_size))) HG.out
  | some f =>
    have hf0 : 0 ≤ f ∧ f ≤ 2100000000000000000 := by
      simp only [feeO] at hf; split at hf
      · cases hf; constructor
        · have : 0 ≤ a * r / 1000000 := Int.ediv_nonneg (Int.mul_nonneg (by omega) (by omega)) (by omega)
          omega
        · omega
      · cases hf
    obtain ⟨f0, f1⟩ := hf0
    have hg : grossO a b r = addO a f := by simp only [grossO, hf]
    have HF := Lib.hid hf; clear hf
    cases ha : addO a f with
    | none =>
      have HR : Hid (grossO a b r = none) := by show _ = _; rw [hg, ha]
      have HG := Lib.hid ha; clear ha hg
      go_enter Tryz.func143, Tryz.ntmps143
      go_wp2_with (first | (go_at_call 91; refine Calls.mono (feer_any a b r _) ?_; rintro e w1 h1; obtain ⟨rfl, hb1⟩ := opt_some h1 HF.out; have z1 := hb1.size; try simp only [World.size_alloc] at z1) | (go_at_call 150; refine Calls.mono (addr_any _ _ _) ?_; rintro e w2 h2; obtain ⟨rfl, hb2⟩ := opt_none h2 HG.out; have z2 := hb2.size; try simp only [World.size_alloc] at z2) | go_in)
      go_ret2
      exact OptPost.no (by (repeat' (first | (with_reducible exact Below.refl _ _) | (with_reducible refine Below.alloc ?_ ?_ _) | (with_reducible refine Below.drew ?_) | (with_reducible refine Below.setCell ?_ ?_ _) | (with_reducible refine below_drewN ?_ _) | (refine Below.trans ?_ (Below.mono (by assumption) ?_)) | go_size))) HR.out
    | some v =>
      have HR : Hid (grossO a b r = some v) := by show _ = _; rw [hg, ha]
      have HG := Lib.hid ha; clear ha hg
      go_enter Tryz.func143, Tryz.ntmps143
      go_wp2_with (first | (go_at_call 91; refine Calls.mono (feer_any a b r _) ?_; rintro e w1 h1; obtain ⟨rfl, hb1⟩ := opt_some h1 HF.out; have z1 := hb1.size; try simp only [World.size_alloc] at z1) | (go_at_call 150; refine Calls.mono (addr_any _ _ _) ?_; rintro e w2 h2; obtain ⟨rfl, hb2⟩ := opt_some h2 HG.out; have z2 := hb2.size; try simp only [World.size_alloc] at z2) | go_in)
      go_ret2
      exact OptPost.yes (by (repeat' (first | (with_reducible exact Below.refl _ _) | (with_reducible refine Below.alloc ?_ ?_ _) | (with_reducible refine Below.drew ?_) | (with_reducible refine Below.setCell ?_ ?_ _) | (with_reducible refine below_drewN ?_ _) | (refine Below.trans ?_ (Below.mono (by assumption) ?_)) | go_size))) HR.out

end Go.Proofs.YtbdimlppnhcicaaGreatDoor.Mny
