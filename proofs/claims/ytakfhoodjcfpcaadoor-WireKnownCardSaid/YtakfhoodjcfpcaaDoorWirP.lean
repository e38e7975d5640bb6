/- What messages are as bytes, plainly: no program in sight. -/
import Derived.Calls
import Derived.Test.YtakfhoodjcfpcaaDoorPl
import Derived.Test.YtakfhoodjcfpcaaDoorTlI
import Derived.Test.YtakfhoodjcfpcaaDoorNumA
import Derived.Test.YtakfhoodjcfpcaaDoorNumB
import Derived.Test.YtakfhoodjcfpcaaDoorNumC
import Derived.Test.YtakfhoodjcfpcaaDoorTa
import Derived.Test.YtakfhoodjcfpcaaDoorRefG
namespace Wire
open Tlv Go
structure Msg where
  kind : Nat
  chan : ByteArray
  nums : List Int
  terms : List ByteArray
  text : ByteArray
  more : List Rec
def rows : List (Nat × Nat × Nat) := [(16, 1, 0), (17, 0, 0), (18, 1, 0), (19, 1, 0), (32, 9, 6), (33, 9, 6), (34, 1, 1), (35, 0, 1), (36, 0, 1), (38, 0, 1), (39, 1, 1), (128, 3, 2), (130, 1, 1), (131, 1, 1), (132, 1, 1), (133, 1, 2), (136, 2, 2), (256, 1, 8), (257, 1, 2), (258, 7, 2)]
def look : List (Nat × Nat × Nat) → Nat → Nat × Nat × Bool
  | [], _ => (0, 0, false)
  | (k, n, t) :: r, x => if k = x then (n, t, true) else look r x
def countsN (k : Nat) : Nat × Nat × Bool := look rows k
def unk (L : List Rec) : Bool := L.any fun r => r.t % 2 == 0
/-- do the numbers of parts fit the kind? -/
def fitN (m : Msg) : Bool := if (countsN m.kind).2.2 then m.nums.length == (countsN m.kind).1 && m.terms.length == (countsN m.kind).2.1 else m.kind % 2 == 1 && decide (m.nums.length ≤ 32) && decide (m.terms.length ≤ 32)
def mayN (R : List UInt8 → Bool) (m : Msg) : Bool := fitN m && decide (m.chan.size ≤ 100) && decide (m.text.size ≤ 4096) && !unk m.more && (streamN m.more).2 == 0 && m.terms.all fun t => R t.data.toList
def tx (s : ByteArray) : List UInt8 := putN s.size ++ s.data.toList
def nat64 (x : Int) : Nat := (x % 18446744073709551616).toNat
def i64 (n : Nat) : Int := IntKind.i64.wrap n
def ba (l : List UInt8) : ByteArray := ⟨l.toArray⟩
def nb (l : List Int) : List UInt8 := l.flatMap fun x => be 8 (nat64 x)
def hd (m : Msg) : List UInt8 := be 2 m.kind ++ (tx m.chan ++ (putN m.nums.length ++ (nb m.nums ++ (putN m.terms.length ++ (m.terms.flatMap tx ++ tx m.text)))))
def encB (m : Msg) : List UInt8 := hd m ++ (streamN m.more).1
def encN (R : List UInt8 → Bool) (m : Msg) : List UInt8 × Nat := if mayN R m = true then (if 32768 < (encB m).length then ([], 3) else (encB m, 0)) else ([], 80)
structure St where
  l : List UInt8
  bad : Bool
def takeS (n : Nat) (s : St) : List UInt8 × St := if s.bad = true ∨ s.l.length < n then ([], ⟨s.l, true⟩) else (s.l.take n, ⟨s.l.drop n, false⟩)
def countS (chk : Bool) (s : St) : Nat × St := if (chk && s.bad) = true ∨ (getN s.l).2.2 ≠ 0 then (0, ⟨s.l, true⟩) else ((getN s.l).1, ⟨s.l.drop (getN s.l).2.1, s.bad⟩)
def textS (chk : Bool) (s : St) : List UInt8 × St := takeS (countS chk s).1 (countS chk s).2
def numS (many : Nat) (s : St) : Nat × St := (val (takeS many s).1, (takeS many s).2)
def numsS : Nat → St → List Int × St
  | 0, s => ([], s)
  | n + 1, s => if s.bad = true then ([], s) else (i64 (numS 8 s).1 :: (numsS n (numS 8 s).2).1, (numsS n (numS 8 s).2).2)
def termsS (chk : Bool) : Nat → St → List ByteArray × St
  | 0, s => ([], s)
  | n + 1, s => if s.bad = true then ([], s) else (ba (textS chk s).1 :: (termsS chk n (textS chk s).2).1, (termsS chk n (textS chk s).2).2)
def no : Msg := ⟨0, ⟨#[]⟩, [], [], ⟨#[]⟩, []⟩
def s1 (l : List UInt8) : Nat × St := numS 2 ⟨l, false⟩
def s2 (chk : Bool) (l : List UInt8) : List UInt8 × St := textS chk (s1 l).2
def s3 (chk : Bool) (l : List UInt8) : Nat × St := countS chk (s2 chk l).2
def s4 (chk : Bool) (l : List UInt8) : List Int × St := numsS (s3 chk l).1 (s3 chk l).2
def s5 (chk : Bool) (l : List UInt8) : Nat × St := countS chk (s4 chk l).2
def s6 (chk : Bool) (l : List UInt8) : List ByteArray × St := termsS chk (s5 chk l).1 (s5 chk l).2
def s7 (chk : Bool) (l : List UInt8) : List UInt8 × St := textS chk (s6 chk l).2
def decM (chk : Bool) (l : List UInt8) : Msg := ⟨(s1 l).1, ba (s2 chk l).1, (s4 chk l).1, (s6 chk l).1, ba (s7 chk l).1, (recordsN (s7 chk l).2.l).1⟩
def decN (R : List UInt8 → Bool) (chk : Bool) (l : List UInt8) : Msg × Nat :=
  if 32768 < l.length then (no, 3) else
  if (s7 chk l).2.bad = true ∨ (recordsN (s7 chk l).2.l).2 ≠ 0 ∨ mayN R (decM chk l) = false then (no, 80) else (decM chk l, 0)

/-! ### What is bad stays bad; so it is the same whether bad is looked at first -/
theorem take_bad (n : Nat) (s : St) (h : s.bad = true) : (takeS n s).2.bad = true := by unfold takeS; rw [if_pos (.inl h)]
/-! ### There and back -/
theorem ba_back (s : ByteArray) : ba s.data.toList = s := by cases s; rfl
theorem ba_size (l : List UInt8) : (ba l).size = l.length := by simp [ba, ByteArray.size]
theorem nat64_lt (x : Int) : nat64 x < 18446744073709551616 := by unfold nat64; omega
theorem i64_nat64 (x : Int) (h : -9223372036854775808 ≤ x ∧ x < 9223372036854775808) : i64 (nat64 x) = x := by
  unfold nat64 i64 IntKind.wrap
  have e1 : (2 : Int) ^ IntKind.i64.bits = 18446744073709551616 := by decide
  have e2 : (2 : Int) ^ (IntKind.i64.bits - 1) = 9223372036854775808 := by decide
  simp [IntKind.signed, e1, e2]
  split <;> omega
/-- what is written fits its place -/
structure VM (m : Msg) : Prop where
  kind : m.kind < 65536
  nums : ∀ x ∈ m.nums, -9223372036854775808 ≤ x ∧ x < 9223372036854775808
  ln : m.nums.length < 18446744073709551616
  lt : m.terms.length < 18446744073709551616
  terms : ∀ t ∈ m.terms, t.size < 18446744073709551616
  chan : m.chan.size < 18446744073709551616
  text : m.text.size < 18446744073709551616
theorem take_dec (x r : List UInt8) (n : Nat) (h : x.length = n) : takeS n ⟨x ++ r, false⟩ = (x, ⟨r, false⟩) := by
  subst h
  unfold takeS
  rw [if_neg (by simp)]
  simp
theorem count_dec (c : Bool) (n : Nat) (h : n < 18446744073709551616) (r : List UInt8) : countS c ⟨putN n ++ r, false⟩ = (n, ⟨r, false⟩) := by
  unfold countS
  rw [get_put n h r]
  rw [if_neg (by simp)]
  simp
theorem text_dec (c : Bool) (s : ByteArray) (h : s.size < 18446744073709551616) (r : List UInt8) : textS c ⟨tx s ++ r, false⟩ = (s.data.toList, ⟨r, false⟩) := by
  unfold textS tx
  rw [List.append_assoc, count_dec c s.size h]
  exact take_dec _ _ _ (by cases s; rfl)
theorem num_dec (k n : Nat) (h : n < 256 ^ k) (r : List UInt8) : numS k ⟨be k n ++ r, false⟩ = (n, ⟨r, false⟩) := by
  unfold numS
  rw [take_dec _ _ _ (be_length k n), val_be, Nat.mod_eq_of_lt h]
theorem nums_dec : ∀ (l : List Int) (_ : ∀ x ∈ l, -9223372036854775808 ≤ x ∧ x < 9223372036854775808) (r : List UInt8), numsS l.length ⟨nb l ++ r, false⟩ = (l, ⟨r, false⟩)
  | [], _, _ => rfl
  | x :: l, h, r => by
    have e : nb (x :: l) ++ r = be 8 (nat64 x) ++ (nb l ++ r) := by simp [nb]
    rw [e, List.length_cons]
    unfold numsS
    rw [if_neg (fun h => by cases h), num_dec 8 _ (by have := nat64_lt x; omega)]
    dsimp only
    rw [nums_dec l (fun y hy => h y (List.mem_cons_of_mem _ hy)) r, i64_nat64 x (h x (List.mem_cons_self ..))]
theorem terms_dec (c : Bool) : ∀ (l : List ByteArray) (_ : ∀ t ∈ l, t.size < 18446744073709551616) (r : List UInt8), termsS c l.length ⟨l.flatMap tx ++ r, false⟩ = (l, ⟨r, false⟩)
  | [], _, _ => rfl
  | x :: l, h, r => by
    have e : (x :: l).flatMap tx ++ r = tx x ++ (l.flatMap tx ++ r) := by simp
    rw [e, List.length_cons]
    unfold termsS
    rw [if_neg (fun h => by cases h), text_dec c x (h x (List.mem_cons_self ..))]
    dsimp only
    rw [terms_dec c l (fun y hy => h y (List.mem_cons_of_mem _ hy)) r, ba_back]
theorem all_dec (c : Bool) (m : Msg) (h : VM m) (r : List UInt8) : s7 c (hd m ++ r) = (m.text.data.toList, ⟨r, false⟩) ∧ decM c (hd m ++ r) = { m with more := (recordsN r).1 } := by
  have e0 : hd m ++ r = be 2 m.kind ++ (tx m.chan ++ (putN m.nums.length ++ (nb m.nums ++ (putN m.terms.length ++ (m.terms.flatMap tx ++ (tx m.text ++ r)))))) := by simp [hd]
  have e1 : s1 (hd m ++ r) = (m.kind, ⟨tx m.chan ++ (putN m.nums.length ++ (nb m.nums ++ (putN m.terms.length ++ (m.terms.flatMap tx ++ (tx m.text ++ r))))), false⟩) := by unfold s1; rw [e0, num_dec 2 _ (by have := h.kind; omega)]
  have e2 : s2 c (hd m ++ r) = (m.chan.data.toList, ⟨putN m.nums.length ++ (nb m.nums ++ (putN m.terms.length ++ (m.terms.flatMap tx ++ (tx m.text ++ r)))), false⟩) := by unfold s2; rw [e1, text_dec c _ h.chan]
  have e3 : s3 c (hd m ++ r) = (m.nums.length, ⟨nb m.nums ++ (putN m.terms.length ++ (m.terms.flatMap tx ++ (tx m.text ++ r))), false⟩) := by unfold s3; rw [e2, count_dec c _ h.ln]
  have e4 : s4 c (hd m ++ r) = (m.nums, ⟨putN m.terms.length ++ (m.terms.flatMap tx ++ (tx m.text ++ r)), false⟩) := by unfold s4; rw [e3, nums_dec _ h.nums]
  have e5 : s5 c (hd m ++ r) = (m.terms.length, ⟨m.terms.flatMap tx ++ (tx m.text ++ r), false⟩) := by unfold s5; rw [e4, count_dec c _ h.lt]
  have e6 : s6 c (hd m ++ r) = (m.terms, ⟨tx m.text ++ r, false⟩) := by unfold s6; rw [e5, terms_dec c _ h.terms]
  have e7 : s7 c (hd m ++ r) = (m.text.data.toList, ⟨r, false⟩) := by unfold s7; rw [e6, text_dec c _ h.text]
  refine ⟨e7, ?_⟩
  unfold decM
  rw [e1, e2, e4, e6, e7, ba_back, ba_back]
/-! ### The laws -/
variable (R : List UInt8 → Bool)
theorem enc_ok {m : Msg} (h : (encN R m).2 = 0) : mayN R m = true ∧ encN R m = (encB m, 0) ∧ (encB m).length ≤ 32768 := by
  unfold encN at h ⊢
  split at h
  · rename_i h1
    rw [if_pos h1]
    split at h
    · cases h
    · rename_i h2; rw [if_neg h2]; exact ⟨h1, rfl, by omega⟩
  · cases h
theorem may_stream {m : Msg} (h : mayN R m = true) : (streamN m.more).2 = 0 := by
  simp [mayN] at h; exact h.1.2
theorem dec_enc (m : Msg) (hv : VM m) (ht : ∀ r ∈ m.more, r.t < 18446744073709551616) (h : (encN R m).2 = 0) : decN R false (encN R m).1 = (m, 0) := by
  obtain ⟨h1, h2, h3⟩ := enc_ok R h
  have hs := may_stream R h1
  have hr := records_stream m.more hs ht
  obtain ⟨a, b⟩ := all_dec false m hv (streamN m.more).1
  rw [h2]
  unfold decN
  show (if 32768 < (encB m).length then _ else _) = _
  rw [if_neg (by omega)]
  unfold encB
  rw [a, b, hr, if_neg]
  rintro (h | h | h)
  · cases h
  · exact h rfl
  · exact absurd (h.symm.trans h1) (by decide)
theorem tx_len (s : ByteArray) : (tx s).length ≤ s.size + 9 := by
  have := (putN_pos s.size).2
  have e : s.data.toList.length = s.size := by cases s; rfl
  unfold tx
  rw [List.length_append, e]
  omega
def tsum (l : List ByteArray) : Nat := (l.map fun t => t.size).sum
theorem nb_len : ∀ l : List Int, (nb l).length = 8 * l.length
  | [] => rfl
  | x :: l => by
    have h := nb_len l
    have e : nb (x :: l) = be 8 (nat64 x) ++ nb l := by simp [nb]
    rw [e, List.length_append, be_length, h, List.length_cons]
    omega
theorem look_max : ∀ (l : List (Nat × Nat × Nat)), (∀ x ∈ l, x.2.1 ≤ 9 ∧ x.2.2 ≤ 8) → ∀ k, (look l k).1 ≤ 9 ∧ (look l k).2.1 ≤ 8
  | [], _, _ => ⟨Nat.zero_le _, Nat.zero_le _⟩
  | (a, b, c) :: r, h, k => by
    unfold look
    split
    · exact h _ (List.mem_cons_self ..)
    · exact look_max r (fun x hx => h x (List.mem_cons_of_mem _ hx)) k
theorem counts_max (k : Nat) : (countsN k).1 ≤ 9 ∧ (countsN k).2.1 ≤ 8 := look_max rows (by decide) k
theorem may_len {m : Msg} (h : mayN R m = true) : m.nums.length ≤ 32 ∧ m.terms.length ≤ 32 ∧ m.chan.size ≤ 100 ∧ m.text.size ≤ 4096 := by
  have hc := counts_max m.kind
  simp [mayN, fitN] at h
  have h1 := h.1.1.1.1.1
  refine ⟨?_, ?_, h.1.1.1.1.2, h.1.1.1.2⟩
  · split at h1
    · omega
    · exact h1.1.2
  · split at h1
    · omega
    · exact h1.2
end Wire
