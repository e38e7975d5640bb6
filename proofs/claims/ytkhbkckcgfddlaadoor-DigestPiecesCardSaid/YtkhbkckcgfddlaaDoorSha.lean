/- SHA-256, plain: words, their operations. -/
import Derived.WalkKit
namespace Go.Proofs.YtkhbkckcgfddlaaDoor
open Go.RowKit
abbrev W32 := BitVec 32
def U (x : W32) : Value := .int .u32 (x.toNat : Int)
theorem wrap_mod (n : Int) : IntKind.u32.wrap n = n % 4294967296 := by simp [IntKind.wrap, IntKind.bits, IntKind.signed]
theorem wrap_nat (x : W32) : IntKind.u32.wrap (x.toNat : Int) = (x.toNat : Int) := by
  have := x.isLt
  rw [wrap_mod]; omega
theorem ofInt_nat (x : W32) : BitVec.ofInt IntKind.u32.bits (x.toNat : Int) = x := by
  show BitVec.ofInt 32 (x.toNat : Int) = x
  rw [BitVec.ofInt_natCast]; simp
theorem run_xor (P : Program) (T : TypeId) (x y : W32) (w : World) : (binOp .xor T (U x) (U y)).run P w = .ok (U (x ^^^ y)) w := by
  have h : (Op.intBits .xor .u32 (x.toNat : Int) (y.toNat : Int)).run P w = .ok (U (x ^^^ y)) w := by
    simp only [Op.intBits, ofInt_nat, Sem.run_pure]
    exact congrArg (fun z => Result.ok (Value.int .u32 z) w) (wrap_nat (x ^^^ y))
  simpa [binOp, U] using h
theorem run_and (P : Program) (T : TypeId) (x y : W32) (w : World) : (binOp .and T (U x) (U y)).run P w = .ok (U (x &&& y)) w := by
  have h : (Op.intBits .and .u32 (x.toNat : Int) (y.toNat : Int)).run P w = .ok (U (x &&& y)) w := by
    simp only [Op.intBits, ofInt_nat, Sem.run_pure]
    exact congrArg (fun z => Result.ok (Value.int .u32 z) w) (wrap_nat (x &&& y))
  simpa [binOp, U] using h
theorem run_or (P : Program) (T : TypeId) (x y : W32) (w : World) : (binOp .or T (U x) (U y)).run P w = .ok (U (x ||| y)) w := by
  have h : (Op.intBits .or .u32 (x.toNat : Int) (y.toNat : Int)).run P w = .ok (U (x ||| y)) w := by
    simp only [Op.intBits, ofInt_nat, Sem.run_pure]
    exact congrArg (fun z => Result.ok (Value.int .u32 z) w) (wrap_nat (x ||| y))
  simpa [binOp, U] using h
theorem run_add (P : Program) (T : TypeId) (x y : W32) (w : World) : (binOp .add T (U x) (U y)).run P w = .ok (U (x + y)) w := by
  have h : (Op.intArith .add .u32 (x.toNat : Int) (y.toNat : Int)).run P w = .ok (U (x + y)) w := by
    simp only [Op.intArith, Sem.run_pure, wrap_mod]
    refine congrArg (fun z => Result.ok (Value.int .u32 z) w) ?_
    rw [BitVec.toNat_add]; omega
  simpa [binOp, U] using h
theorem run_shr (P : Program) (T : TypeId) (x : W32) (k : IntKind) (n : Nat) (hn : n ≤ 32) (w : World) : (binOp .shr T (U x) (.int k (n : Int))).run P w = .ok (U (x >>> n)) w := by
  have h : (Op.shift .shr .u32 (x.toNat : Int) k (n : Int)).run P w = .ok (U (x >>> n)) w := by
    simp only [Op.shift, if_neg (show ¬ (n : Int) < 0 by omega), Sem.run_pure, Int.toNat_natCast]
    refine congrArg (fun z => Result.ok (Value.int .u32 z) w) ?_
    rw [show min n IntKind.u32.bits = n from Nat.min_eq_left hn, BitVec.toNat_ushiftRight, Nat.shiftRight_eq_div_pow]
    rw [Int.fdiv_eq_ediv_of_nonneg _ (Int.le_of_lt (Int.pow_pos (by decide)))]
    rw [show ((2 : Int) ^ n) = ((2 ^ n : Nat) : Int) by simp]
    exact (Int.natCast_ediv _ _).symm
  simpa [binOp, U] using h
theorem run_shl (P : Program) (T : TypeId) (x : W32) (k : IntKind) (n : Nat) (hn : n ≤ 32) (w : World) : (binOp .shl T (U x) (.int k (n : Int))).run P w = .ok (U (x <<< n)) w := by
  have h : (Op.shift .shl .u32 (x.toNat : Int) k (n : Int)).run P w = .ok (U (x <<< n)) w := by
    simp only [Op.shift, if_neg (show ¬ (n : Int) < 0 by omega), Sem.run_pure, Int.toNat_natCast]
    refine congrArg (fun z => Result.ok (Value.int .u32 z) w) ?_
    rw [show min n IntKind.u32.bits = n from Nat.min_eq_left hn, BitVec.toNat_shiftLeft, Nat.shiftLeft_eq, wrap_mod]
    rw [show ((2 : Int) ^ n) = ((2 ^ n : Nat) : Int) by simp]
    generalize (2 ^ n : Nat) = m
    rw [← Int.natCast_mul]
    exact (Int.natCast_emod _ _).symm
  simpa [binOp, U] using h
theorem run_not (P : Program) (x : W32) (w : World) : (Op.unary .xor (U x)).run P w = .ok (U (~~~ x)) w := by
  show (Op.intBits .xor .u32 (4294967295 : Int) (x.toNat : Int)).run P w = _
  simp only [Op.intBits, ofInt_nat, Sem.run_pure]
  refine congrArg (fun z => Result.ok (Value.int .u32 z) w) ((wrap_nat _).trans ?_)
  congr 2
/-- a word of a byte, a byte of a word -/
theorem low_byte (x : W32) : IntKind.u8.wrap (x.toNat : Int) = ((x.toNat % 256 : Nat) : Int) := by
  simp [IntKind.wrap, IntKind.bits, IntKind.signed]
def rotr (x : W32) (n : Nat) : W32 := (x >>> n) ||| (x <<< (32 - n))
def sg0 (x : W32) : W32 := rotr x 7 ^^^ rotr x 18 ^^^ (x >>> 3)
def sg1 (x : W32) : W32 := rotr x 17 ^^^ rotr x 19 ^^^ (x >>> 10)
structure Eight where
  (a b c d e f g h : W32)
def Eight.list (s : Eight) : List W32 := [s.a, s.b, s.c, s.d, s.e, s.f, s.g, s.h]
def xof (s : Eight) (k w : W32) : W32 := s.h + (rotr s.e 6 ^^^ rotr s.e 11 ^^^ rotr s.e 25) + ((s.e &&& s.f) ^^^ (~~~ s.e &&& s.g)) + k + w
def yof (s : Eight) : W32 := (rotr s.a 2 ^^^ rotr s.a 13 ^^^ rotr s.a 22) + ((s.a &&& s.b) ^^^ (s.a &&& s.c) ^^^ (s.b &&& s.c))
def round1 (s : Eight) (k w : W32) : Eight := ⟨xof s k w + yof s, s.a, s.b, s.c, s.d + xof s k w, s.e, s.f, s.g⟩
def roundsN : List (W32 × W32) → Eight → Eight
  | [], s => s
  | (k, w) :: l, s => roundsN l (round1 s k w)
def plus8 (s t : Eight) : Eight := ⟨s.a + t.a, s.b + t.b, s.c + t.c, s.d + t.d, s.e + t.e, s.f + t.f, s.g + t.g, s.h + t.h⟩
def wordOf (a b c d : Nat) : W32 := BitVec.ofNat 32 a <<< 24 ||| BitVec.ofNat 32 b <<< 16 ||| BitVec.ofNat 32 c <<< 8 ||| BitVec.ofNat 32 d
def words16 : List Nat → List W32
  | a :: b :: c :: d :: l => wordOf a b c d :: words16 l
  | _ => []
def nextW (l : List W32) : W32 := l.getD (l.length - 16) 0 + sg0 (l.getD (l.length - 15) 0) + l.getD (l.length - 7) 0 + sg1 (l.getD (l.length - 2) 0)
def sched : Nat → List W32 → List W32
  | 0, l => l
  | n + 1, l => sched n (l ++ [nextW l])
def tableK : List W32 := [0x428a2f98, 0x71374491, 0xb5c0fbcf, 0xe9b5dba5, 0x3956c25b, 0x59f111f1, 0x923f82a4, 0xab1c5ed5,
  0xd807aa98, 0x12835b01, 0x243185be, 0x550c7dc3, 0x72be5d74, 0x80deb1fe, 0x9bdc06a7, 0xc19bf174,
  0xe49b69c1, 0xefbe4786, 0x0fc19dc6, 0x240ca1cc, 0x2de92c6f, 0x4a7484aa, 0x5cb0a9dc, 0x76f988da,
  0x983e5152, 0xa831c66d, 0xb00327c8, 0xbf597fc7, 0xc6e00bf3, 0xd5a79147, 0x06ca6351, 0x14292967,
  0x27b70a85, 0x2e1b2138, 0x4d2c6dfc, 0x53380d13, 0x650a7354, 0x766a0abb, 0x81c2c92e, 0x92722c85,
  0xa2bfe8a1, 0xa81a664b, 0xc24b8b70, 0xc76c51a3, 0xd192e819, 0xd6990624, 0xf40e3585, 0x106aa070,
  0x19a4c116, 0x1e376c08, 0x2748774c, 0x34b0bcb5, 0x391c0cb3, 0x4ed8aa4a, 0x5b9cca4f, 0x682e6ff3,
  0x748f82ee, 0x78a5636f, 0x84c87814, 0x8cc70208, 0x90befffa, 0xa4506ceb, 0xbef9a3f7, 0xc67178f2]
def first8 : Eight := ⟨0x6a09e667, 0xbb67ae85, 0x3c6ef372, 0xa54ff53a, 0x510e527f, 0x9b05688c, 0x1f83d9ab, 0x5be0cd19⟩
def blockW (b : List Nat) : List W32 := sched 48 (words16 b)
/-- what the eight words are behind a block -/
def takeB (s : Eight) (b : List Nat) : Eight := plus8 s (roundsN (tableK.zip (blockW b)) s)
/-- behind so many blocks -/
def takeN : Nat → Eight → List Nat → Eight
  | 0, s, _ => s
  | n + 1, s, b => takeN n (takeB s (b.take 64)) (b.drop 64)
/-- big endian -/
def be8 (n : Nat) : List Nat := [n / 2 ^ 56 % 256, n / 2 ^ 48 % 256, n / 2 ^ 40 % 256, n / 2 ^ 32 % 256, n / 2 ^ 24 % 256, n / 2 ^ 16 % 256, n / 2 ^ 8 % 256, n % 256]
def padZ (n : Nat) : Nat := (119 - n % 64) % 64
def filled (b : List Nat) : List Nat := b ++ [128] ++ List.replicate (padZ b.length) 0 ++ be8 (b.length * 8)
def bytes4 (x : W32) : List Nat := [(x >>> 24).toNat % 256, (x >>> 16).toNat % 256, (x >>> 8).toNat % 256, x.toNat % 256]
def sumOf (s : Eight) : List Nat := s.list.flatMap bytes4
def sha (b : List Nat) : List Nat := sumOf (takeN ((b.length + 72) / 64) first8 (filled b))
def digit (n : Nat) : UInt8 := if n < 10 then UInt8.ofNat (48 + n) else UInt8.ofNat (87 + n)
def hexOf (l : List Nat) : List UInt8 := l.flatMap fun n => [digit (n / 16), digit (n % 16)]
set_option maxRecDepth 100000 in
theorem abc_sum : sha [97, 98, 99] = [186, 120, 22, 191, 143, 1, 207, 234, 65, 65, 64, 222, 93, 174, 34, 35, 176, 3, 97, 163, 150, 23, 122, 156, 180, 16, 255, 97, 242, 0, 21, 173] := by decide +kernel

theorem sched_succ : ∀ (n : Nat) (l : List W32), sched (n + 1) l = sched n l ++ [nextW (sched n l)]
  | 0, l => rfl
  | n + 1, l => by
    show sched (n + 1) (l ++ [nextW l]) = _
    rw [sched_succ n (l ++ [nextW l])]; rfl
theorem sched_length : ∀ (n : Nat) (l : List W32), (sched n l).length = l.length + n
  | 0, l => rfl
  | n + 1, l => by
    show (sched n (l ++ [nextW l])).length = _
    rw [sched_length n]; simp; omega
theorem roundsN_append : ∀ (l m : List (W32 × W32)) (s : Eight), roundsN (l ++ m) s = roundsN m (roundsN l s)
  | [], _, _ => rfl
  | (k, w) :: l, m, s => roundsN_append l m (round1 s k w)
theorem roundsN_step {l : List (W32 × W32)} {i : Nat} {k w : W32} (s : Eight) (h : l[i]? = some (k, w)) : roundsN (l.take (i + 1)) s = round1 (roundsN (l.take i) s) k w := by
  have hi := (List.getElem?_eq_some_iff.1 h).1
  rw [List.take_succ_eq_append_getElem hi, roundsN_append, show l[i] = (k, w) by rw [List.getElem?_eq_getElem hi] at h; exact Option.some.inj h]
  rfl
theorem words16_length : ∀ (n : Nat) (b : List Nat), b.length = 4 * n → (words16 b).length = n
  | 0, [], _ => rfl
  | n + 1, a :: b :: c :: d :: l, h => by
    simp only [words16, List.length_cons]
    rw [words16_length n l (by simp at h; omega)]
  | n + 1, [], h => by simp at h
  | n + 1, [_], h => by simp at h; omega
  | n + 1, [_, _], h => by simp at h; omega
  | n + 1, [_, _, _], h => by simp at h; omega
  | 0, _ :: _, h => by simp at h
theorem words16_at : ∀ (i : Nat) (b : List Nat) (a0 a1 a2 a3 : Nat), b[4 * i]? = some a0 → b[4 * i + 1]? = some a1 → b[4 * i + 2]? = some a2 → b[4 * i + 3]? = some a3 → (words16 b)[i]? = some (wordOf a0 a1 a2 a3)
  | 0, b, a0, a1, a2, a3, h0, h1, h2, h3 => by
    match b, h0, h1, h2, h3 with
    | x0 :: x1 :: x2 :: x3 :: l, h0, h1, h2, h3 =>
      simp at h0 h1 h2 h3
      subst h0 h1 h2 h3
      rfl
  | i + 1, b, a0, a1, a2, a3, h0, h1, h2, h3 => by
    match b, h0 with
    | x0 :: x1 :: x2 :: x3 :: l, h0 =>
      have e : ∀ j, (x0 :: x1 :: x2 :: x3 :: l)[4 * (i + 1) + j]? = l[4 * i + j]? := fun j => by
        rw [show 4 * (i + 1) + j = (4 * i + j) + 1 + 1 + 1 + 1 by omega]; simp
      have e0 := e 0
      simp only [Nat.add_zero] at e0
      rw [e0] at h0; rw [e 1] at h1; rw [e 2] at h2; rw [e 3] at h3
      show (wordOf x0 x1 x2 x3 :: words16 l)[i + 1]? = _
      rw [List.getElem?_cons_succ]
      exact words16_at i l a0 a1 a2 a3 h0 h1 h2 h3
theorem takeN_add : ∀ (m n : Nat) (s : Eight) (b : List Nat), takeN (m + n) s b = takeN n (takeN m s b) (b.drop (64 * m))
  | 0, n, s, b => by simp [takeN]
  | m + 1, n, s, b => by
    rw [show m + 1 + n = (m + n) + 1 by omega]
    show takeN (m + n) (takeB s (b.take 64)) (b.drop 64) = takeN n (takeN m (takeB s (b.take 64)) (b.drop 64)) _
    rw [takeN_add m n, List.drop_drop, show 64 + 64 * m = 64 * (m + 1) by omega]
theorem takeN_prefix : ∀ (n : Nat) (s : Eight) (b c : List Nat), 64 * n ≤ b.length → takeN n s (b ++ c) = takeN n s b
  | 0, _, _, _, _ => rfl
  | n + 1, s, b, c, h => by
    show takeN n (takeB s ((b ++ c).take 64)) ((b ++ c).drop 64) = takeN n (takeB s (b.take 64)) (b.drop 64)
    rw [List.take_append_of_le_length (by omega), List.drop_append_of_le_length (by omega)]
    exact takeN_prefix n _ _ c (by rw [List.length_drop]; omega)
/-- the eight words behind all full blocks -/
def full (b : List Nat) : Eight := takeN (b.length / 64) first8 b
def tail64 (b : List Nat) : List Nat := b.drop (64 * (b.length / 64))
theorem tail64_length (b : List Nat) : (tail64 b).length = b.length % 64 := by
  unfold tail64; rw [List.length_drop]; omega
theorem full_same {b p : List Nat} (h : (b.length + p.length) / 64 = b.length / 64) : full (b ++ p) = full b ∧ tail64 (b ++ p) = tail64 b ++ p := by
  unfold full tail64
  rw [List.length_append, h]
  refine ⟨takeN_prefix _ _ _ _ (by omega), ?_⟩
  rw [List.drop_append_of_le_length (by omega)]
theorem full_next {b p : List Nat} (h : b.length % 64 + p.length = 64) : full (b ++ p) = takeB (full b) (tail64 b ++ p) ∧ tail64 (b ++ p) = [] := by
  have h1 : (b.length + p.length) / 64 = b.length / 64 + 1 := by omega
  have hl : (tail64 b ++ p).length = 64 := by rw [List.length_append, tail64_length, h]
  unfold full
  rw [List.length_append, h1]
  refine ⟨?_, ?_⟩
  · rw [takeN_add, takeN_prefix (b.length / 64) first8 b p (by omega), List.drop_append_of_le_length (by omega)]
    show takeB _ ((tail64 b ++ p).take 64) = _
    rw [List.take_of_length_le (by omega)]
  · unfold tail64
    apply List.eq_nil_of_length_eq_zero
    rw [List.length_drop, List.length_append]; omega
theorem filled_length (b : List Nat) : (filled b).length = 64 * ((b.length + 72) / 64) := by
  unfold filled padZ be8
  simp only [List.length_append, List.length_cons, List.length_nil, List.length_replicate]
  omega
theorem sha_full (b : List Nat) : sha b = sumOf (full (filled b)) := by
  unfold sha full
  rw [filled_length, Nat.mul_div_cancel_left _ (by omega)]
end Go.Proofs.YtkhbkckcgfddlaaDoor
