/- What messages are as bytes, plainly: no program in sight. -/
import Derived.Test.YtakfhoodjcfpcaaDoorPl
namespace Wire
open Tlv Go
structure Msg where
  kind : Nat
  chan : ByteArray
  nums : List Int
  terms : List ByteArray
  text : ByteArray
  more : List Rec
def rows : List (Nat × Nat × Nat) := [(16, 1, 0), (17, 0, 0), (18, 1, 0), (19, 1, 0), (32, 9, 6), (33, 9, 6), (34, 1, 1), (35, 0, 1), (36, 0, 1), (38, 0, 1), (39, 1, 1), (128, 3, 2), (130, 1, 1), (131, 1, 1), (132, 1, 1), (133, 1, 2), (136, 2, 2), (256, 1, 8), (257, 1, 2), (258, 7, 2)]
def look : List (Nat × Nat × Nat) → Nat → Nat × Nat × Bool
  | [], _ => (0, 0, false)
  | (k, n, t) :: r, x => if k = x then (n, t, true) else look r x
def countsN (k : Nat) : Nat × Nat × Bool := look rows k
def unk (L : List Rec) : Bool := L.any fun r => r.t % 2 == 0
/-- do the numbers of parts fit the kind? -/
def fitN (m : Msg) : Bool := if (countsN m.kind).2.2 then m.nums.length == (countsN m.kind).1 && m.terms.length == (countsN m.kind).2.1 else m.kind % 2 == 1 && decide (m.nums.length ≤ 32) && decide (m.terms.length ≤ 32)
def mayN (R : List UInt8 → Bool) (m : Msg) : Bool := fitN m && decide (m.chan.size ≤ 100) && decide (m.text.size ≤ 4096) && !unk m.more && (streamN m.more).2 == 0 && m.terms.all fun t => R t.data.toList
def tx (s : ByteArray) : List UInt8 := putN s.size ++ s.data.toList
def nat64 (x : Int) : Nat := (x % 18446744073709551616).toNat
def i64 (n : Nat) : Int := IntKind.i64.wrap n
def ba (l : List UInt8) : ByteArray := ⟨l.toArray⟩
def nb (l : List Int) : List UInt8 := l.flatMap fun x => be 8 (nat64 x)
def hd (m : Msg) : List UInt8 := be 2 m.kind ++ (tx m.chan ++ (putN m.nums.length ++ (nb m.nums ++ (putN m.terms.length ++ (m.terms.flatMap tx ++ tx m.text)))))
def encB (m : Msg) : List UInt8 := hd m ++ (streamN m.more).1
def encN (R : List UInt8 → Bool) (m : Msg) : List UInt8 × Nat := if mayN R m = true then (if 32768 < (encB m).length then ([], 3) else (encB m, 0)) else ([], 80)
structure St where
  l : List UInt8
  bad : Bool
def takeS (n : Nat) (s : St) : List UInt8 × St := if s.bad = true ∨ s.l.length < n then ([], ⟨s.l, true⟩) else (s.l.take n, ⟨s.l.drop n, false⟩)
def countS (chk : Bool) (s : St) : Nat × St := if (chk && s.bad) = true ∨ (getN s.l).2.2 ≠ 0 then (0, ⟨s.l, true⟩) else ((getN s.l).1, ⟨s.l.drop (getN s.l).2.1, s.bad⟩)
def textS (chk : Bool) (s : St) : List UInt8 × St := takeS (countS chk s).1 (countS chk s).2
def numS (many : Nat) (s : St) : Nat × St := (val (takeS many s).1, (takeS many s).2)
def numsS : Nat → St → List Int × St
  | 0, s => ([], s)
  | n + 1, s => if s.bad = true then ([], s) else (i64 (numS 8 s).1 :: (numsS n (numS 8 s).2).1, (numsS n (numS 8 s).2).2)
def termsS (chk : Bool) : Nat → St → List ByteArray × St
  | 0, s => ([], s)
  | n + 1, s => if s.bad = true then ([], s) else (ba (textS chk s).1 :: (termsS chk n (textS chk s).2).1, (termsS chk n (textS chk s).2).2)
def no : Msg := ⟨0, ⟨#[]⟩, [], [], ⟨#[]⟩, []⟩
def s1 (l : List UInt8) : Nat × St := numS 2 ⟨l, false⟩
def s2 (chk : Bool) (l : List UInt8) : List UInt8 × St := textS chk (s1 l).2
def s3 (chk : Bool) (l : List UInt8) : Nat × St := countS chk (s2 chk l).2
def s4 (chk : Bool) (l : List UInt8) : List Int × St := numsS (s3 chk l).1 (s3 chk l).2
def s5 (chk : Bool) (l : List UInt8) : Nat × St := countS chk (s4 chk l).2
def s6 (chk : Bool) (l : List UInt8) : List ByteArray × St := termsS chk (s5 chk l).1 (s5 chk l).2
def s7 (chk : Bool) (l : List UInt8) : List UInt8 × St := textS chk (s6 chk l).2
def decM (chk : Bool) (l : List UInt8) : Msg := ⟨(s1 l).1, ba (s2 chk l).1, (s4 chk l).1, (s6 chk l).1, ba (s7 chk l).1, (recordsN (s7 chk l).2.l).1⟩
def decN (R : List UInt8 → Bool) (chk : Bool) (l : List UInt8) : Msg × Nat :=
  if 32768 < l.length then (no, 3) else
  if (s7 chk l).2.bad = true ∨ (recordsN (s7 chk l).2.l).2 ≠ 0 ∨ mayN R (decM chk l) = false then (no, 80) else (decM chk l, 0)

/-! ### What is bad stays bad; so it is the same whether bad is looked at first -/
theorem take_bad (n : Nat) (s : St) (h : s.bad = true) : (takeS n s).2.bad = true := by unfold takeS; rw [if_pos (.inl h)]
theorem count_bad (c : Bool) (s : St) (h : s.bad = true) : (countS c s).2.bad = true := by 
  unfold countS
  split
  · rfl
  · exact h
theorem text_bad (c : Bool) (s : St) (h : s.bad = true) : (textS c s).2.bad = true := take_bad _ _ (count_bad c s h)
theorem nums_bad (n : Nat) (s : St) (h : s.bad = true) : (numsS n s).2.bad = true := by
  cases n with
  | zero => exact h
  | succ n => unfold numsS; rw [if_pos h]; exact h
theorem terms_bad (c : Bool) (n : Nat) (s : St) (h : s.bad = true) : (termsS c n s).2.bad = true := by
  cases n with
  | zero => exact h
  | succ n => unfold termsS; rw [if_pos h]; exact h
theorem count_ok (c : Bool) (s : St) (h : s.bad = false) : countS c s = countS false s := by unfold countS; rw [h]; cases c <;> rfl
theorem text_ok (c : Bool) (s : St) (h : s.bad = false) : textS c s = textS false s := by unfold textS; rw [count_ok c s h]
theorem terms_ok (c : Bool) : ∀ (n : Nat) (s : St), s.bad = false → termsS c n s = termsS false n s ∨ ((termsS c n s).2.bad = true ∧ (termsS false n s).2.bad = true)
  | 0, _, _ => .inl rfl
  | n + 1, s, h => by
    unfold termsS
    rw [if_neg (by rw [h]; decide), if_neg (by rw [h]; decide), text_ok c s h]
    cases hb : (textS false s).2.bad with
    | true => exact .inr ⟨terms_bad c n _ hb, terms_bad false n _ hb⟩
    | false =>
      rcases terms_ok c n _ hb with e | e
      · rw [e]; exact .inl rfl
      · exact .inr e
theorem s2_bad (c : Bool) (l : List UInt8) (h : (s1 l).2.bad = true) : (s2 c l).2.bad = true := by unfold s2; exact text_bad _ _ h
theorem s3_bad (c : Bool) (l : List UInt8) (h : (s2 c l).2.bad = true) : (s3 c l).2.bad = true := by unfold s3; exact count_bad _ _ h
theorem s4_bad (c : Bool) (l : List UInt8) (h : (s3 c l).2.bad = true) : (s4 c l).2.bad = true := by unfold s4; exact nums_bad _ _ h
theorem s5_bad (c : Bool) (l : List UInt8) (h : (s4 c l).2.bad = true) : (s5 c l).2.bad = true := by unfold s5; exact count_bad _ _ h
theorem s6_bad (c : Bool) (l : List UInt8) (h : (s5 c l).2.bad = true) : (s6 c l).2.bad = true := by unfold s6; exact terms_bad _ _ _ h
theorem s7_bad (c : Bool) (l : List UInt8) (h : (s6 c l).2.bad = true) : (s7 c l).2.bad = true := by unfold s7; exact text_bad _ _ h
theorem b57 (c : Bool) (l : List UInt8) (h : (s5 c l).2.bad = true) : (s7 c l).2.bad = true := s7_bad c l (s6_bad c l h)
theorem b47 (c : Bool) (l : List UInt8) (h : (s4 c l).2.bad = true) : (s7 c l).2.bad = true := b57 c l (s5_bad c l h)
theorem b27 (c : Bool) (l : List UInt8) (h : (s2 c l).2.bad = true) : (s7 c l).2.bad = true := b47 c l (s4_bad c l (s3_bad c l h))
theorem s7_ok (c : Bool) (l : List UInt8) : ((s7 c l).2.bad = true ∧ (s7 false l).2.bad = true) ∨ (s7 c l = s7 false l ∧ decM c l = decM false l) := by
  cases b1 : (s1 l).2.bad with
  | true => exact .inl ⟨b27 c l (s2_bad c l b1), b27 false l (s2_bad false l b1)⟩
  | false =>
    have e2 : s2 c l = s2 false l := by unfold s2; exact text_ok c _ b1
    cases b2 : (s2 false l).2.bad with
    | true => exact .inl ⟨b27 c l (by rw [e2]; exact b2), b27 false l b2⟩
    | false =>
      have e3 : s3 c l = s3 false l := by unfold s3; rw [e2]; exact count_ok c _ b2
      have e4 : s4 c l = s4 false l := by unfold s4; rw [e3]
      cases b4 : (s4 false l).2.bad with
      | true => exact .inl ⟨b47 c l (by rw [e4]; exact b4), b47 false l b4⟩
      | false =>
        have e5 : s5 c l = s5 false l := by unfold s5; rw [e4]; exact count_ok c _ b4
        cases b5 : (s5 false l).2.bad with
        | true => exact .inl ⟨b57 c l (by rw [e5]; exact b5), b57 false l b5⟩
        | false =>
          rcases terms_ok c (s5 false l).1 _ b5 with e6 | ⟨b6, b6'⟩
          · have e6' : s6 c l = s6 false l := by unfold s6; rw [e5]; exact e6
            cases b6 : (s6 false l).2.bad with
            | true => exact .inl ⟨s7_bad c l (by rw [e6']; exact b6), s7_bad false l b6⟩
            | false =>
              have e7 : s7 c l = s7 false l := by unfold s7; rw [e6']; exact text_ok c _ b6
              refine .inr ⟨e7, ?_⟩
              unfold decM
              rw [e2, e4, e6', e7]
          · exact .inl ⟨s7_bad c l (by unfold s6; rw [e5]; exact b6), s7_bad false l (by unfold s6; exact b6')⟩
theorem dec_chk (R : List UInt8 → Bool) (c : Bool) (l : List UInt8) : decN R c l = decN R false l := by
  unfold decN
  rcases s7_ok c l with ⟨h1, h2⟩ | ⟨h1, h2⟩
  · rw [h1, h2]; simp
  · rw [h1, h2]

/-! ### There and back -/
theorem ba_list (l : List UInt8) : (ba l).data.toList = l := rfl
theorem ba_back (s : ByteArray) : ba s.data.toList = s := by cases s; rfl
theorem ba_size (l : List UInt8) : (ba l).size = l.length := by simp [ba, ByteArray.size]
theorem nat64_lt (x : Int) : nat64 x < 18446744073709551616 := by unfold nat64; omega
theorem nat64_i64 (n : Nat) (h : n < 18446744073709551616) : nat64 (i64 n) = n := by
  unfold nat64 i64 IntKind.wrap
  have e1 : (2 : Int) ^ IntKind.i64.bits = 18446744073709551616 := by decide
  have e2 : (2 : Int) ^ (IntKind.i64.bits - 1) = 9223372036854775808 := by decide
  simp [IntKind.signed, e1, e2]
  split <;> omega
theorem i64_nat64 (x : Int) (h : -9223372036854775808 ≤ x ∧ x < 9223372036854775808) : i64 (nat64 x) = x := by
  unfold nat64 i64 IntKind.wrap
  have e1 : (2 : Int) ^ IntKind.i64.bits = 18446744073709551616 := by decide
  have e2 : (2 : Int) ^ (IntKind.i64.bits - 1) = 9223372036854775808 := by decide
  simp [IntKind.signed, e1, e2]
  split <;> omega
theorem i64_range (n : Nat) : -9223372036854775808 ≤ i64 n ∧ i64 n < 9223372036854775808 := by
  unfold i64 IntKind.wrap
  have e1 : (2 : Int) ^ IntKind.i64.bits = 18446744073709551616 := by decide
  have e2 : (2 : Int) ^ (IntKind.i64.bits - 1) = 9223372036854775808 := by decide
  simp [IntKind.signed, e1, e2]
  split <;> omega
/-- what is written fits its place -/
structure VM (m : Msg) : Prop where
  kind : m.kind < 65536
  nums : ∀ x ∈ m.nums, -9223372036854775808 ≤ x ∧ x < 9223372036854775808
  ln : m.nums.length < 18446744073709551616
  lt : m.terms.length < 18446744073709551616
  terms : ∀ t ∈ m.terms, t.size < 18446744073709551616
  chan : m.chan.size < 18446744073709551616
  text : m.text.size < 18446744073709551616
theorem take_dec (x r : List UInt8) (n : Nat) (h : x.length = n) : takeS n ⟨x ++ r, false⟩ = (x, ⟨r, false⟩) := by
  subst h
  unfold takeS
  rw [if_neg (by simp)]
  simp
theorem count_dec (c : Bool) (n : Nat) (h : n < 18446744073709551616) (r : List UInt8) : countS c ⟨putN n ++ r, false⟩ = (n, ⟨r, false⟩) := by
  unfold countS
  rw [get_put n h r]
  rw [if_neg (by simp)]
  simp
theorem text_dec (c : Bool) (s : ByteArray) (h : s.size < 18446744073709551616) (r : List UInt8) : textS c ⟨tx s ++ r, false⟩ = (s.data.toList, ⟨r, false⟩) := by
  unfold textS tx
  rw [List.append_assoc, count_dec c s.size h]
  exact take_dec _ _ _ (by cases s; rfl)
theorem num_dec (k n : Nat) (h : n < 256 ^ k) (r : List UInt8) : numS k ⟨be k n ++ r, false⟩ = (n, ⟨r, false⟩) := by
  unfold numS
  rw [take_dec _ _ _ (be_length k n), val_be, Nat.mod_eq_of_lt h]
theorem nums_dec : ∀ (l : List Int) (_ : ∀ x ∈ l, -9223372036854775808 ≤ x ∧ x < 9223372036854775808) (r : List UInt8), numsS l.length ⟨nb l ++ r, false⟩ = (l, ⟨r, false⟩)
  | [], _, _ => rfl
  | x :: l, h, r => by
    have e : nb (x :: l) ++ r = be 8 (nat64 x) ++ (nb l ++ r) := by simp [nb]
    rw [e, List.length_cons]
    unfold numsS
    rw [if_neg (fun h => by cases h), num_dec 8 _ (by have := nat64_lt x; omega)]
    dsimp only
    rw [nums_dec l (fun y hy => h y (List.mem_cons_of_mem _ hy)) r, i64_nat64 x (h x (List.mem_cons_self ..))]
theorem terms_dec (c : Bool) : ∀ (l : List ByteArray) (_ : ∀ t ∈ l, t.size < 18446744073709551616) (r : List UInt8), termsS c l.length ⟨l.flatMap tx ++ r, false⟩ = (l, ⟨r, false⟩)
  | [], _, _ => rfl
  | x :: l, h, r => by
    have e : (x :: l).flatMap tx ++ r = tx x ++ (l.flatMap tx ++ r) := by simp
    rw [e, List.length_cons]
    unfold termsS
    rw [if_neg (fun h => by cases h), text_dec c x (h x (List.mem_cons_self ..))]
    dsimp only
    rw [terms_dec c l (fun y hy => h y (List.mem_cons_of_mem _ hy)) r, ba_back]
theorem all_dec (c : Bool) (m : Msg) (h : VM m) (r : List UInt8) : s7 c (hd m ++ r) = (m.text.data.toList, ⟨r, false⟩) ∧ decM c (hd m ++ r) = { m with more := (recordsN r).1 } := by
  have e0 : hd m ++ r = be 2 m.kind ++ (tx m.chan ++ (putN m.nums.length ++ (nb m.nums ++ (putN m.terms.length ++ (m.terms.flatMap tx ++ (tx m.text ++ r)))))) := by simp [hd]
  have e1 : s1 (hd m ++ r) = (m.kind, ⟨tx m.chan ++ (putN m.nums.length ++ (nb m.nums ++ (putN m.terms.length ++ (m.terms.flatMap tx ++ (tx m.text ++ r))))), false⟩) := by unfold s1; rw [e0, num_dec 2 _ (by have := h.kind; omega)]
  have e2 : s2 c (hd m ++ r) = (m.chan.data.toList, ⟨putN m.nums.length ++ (nb m.nums ++ (putN m.terms.length ++ (m.terms.flatMap tx ++ (tx m.text ++ r)))), false⟩) := by unfold s2; rw [e1, text_dec c _ h.chan]
  have e3 : s3 c (hd m ++ r) = (m.nums.length, ⟨nb m.nums ++ (putN m.terms.length ++ (m.terms.flatMap tx ++ (tx m.text ++ r))), false⟩) := by unfold s3; rw [e2, count_dec c _ h.ln]
  have e4 : s4 c (hd m ++ r) = (m.nums, ⟨putN m.terms.length ++ (m.terms.flatMap tx ++ (tx m.text ++ r)), false⟩) := by unfold s4; rw [e3, nums_dec _ h.nums]
  have e5 : s5 c (hd m ++ r) = (m.terms.length, ⟨m.terms.flatMap tx ++ (tx m.text ++ r), false⟩) := by unfold s5; rw [e4, count_dec c _ h.lt]
  have e6 : s6 c (hd m ++ r) = (m.terms, ⟨tx m.text ++ r, false⟩) := by unfold s6; rw [e5, terms_dec c _ h.terms]
  have e7 : s7 c (hd m ++ r) = (m.text.data.toList, ⟨r, false⟩) := by unfold s7; rw [e6, text_dec c _ h.text]
  refine ⟨e7, ?_⟩
  unfold decM
  rw [e1, e2, e4, e6, e7, ba_back, ba_back]
theorem take_enc (n : Nat) (s : St) (h : (takeS n s).2.bad = false) : s.bad = false ∧ s.l = (takeS n s).1 ++ (takeS n s).2.l ∧ (takeS n s).1.length = n := by
  unfold takeS at h ⊢
  split at h
  · cases h
  · rename_i h1
    rw [if_neg h1]
    have hb : s.bad = false := by cases hq : s.bad with | false => rfl | true => exact absurd (.inl hq) h1
    have hl : n ≤ s.l.length := Nat.le_of_not_lt fun h => h1 (.inr h)
    exact ⟨hb, (List.take_append_drop n s.l).symm, by simp; omega⟩
theorem count_enc (c : Bool) (s : St) (h : (countS c s).2.bad = false) : s.bad = false ∧ s.l = putN (countS c s).1 ++ (countS c s).2.l ∧ (countS c s).1 < 18446744073709551616 := by
  have hb : s.bad = false := by cases hq : s.bad with | false => rfl | true => rw [count_bad c s hq] at h; cases h
  unfold countS at h ⊢
  split at h
  · cases h
  · rename_i h1
    rw [if_neg h1]
    have he : (getN s.l).2.2 = 0 := by
      rcases Nat.eq_zero_or_pos (getN s.l).2.2 with h0 | h0
      · exact h0
      · exact absurd (.inr (by omega)) h1
    obtain ⟨a, b, c, d⟩ := get_ok s.l (getN s.l).1 (getN s.l).2.1 (by rw [← he])
    refine ⟨hb, ?_, a⟩
    dsimp only
    rw [← d, List.take_append_drop]
theorem text_enc (c : Bool) (s : St) (h : (textS c s).2.bad = false) : s.bad = false ∧ s.l = tx (ba (textS c s).1) ++ (textS c s).2.l ∧ (ba (textS c s).1).size < 18446744073709551616 := by
  unfold textS at h ⊢
  obtain ⟨h1, h2, h3⟩ := take_enc _ _ h
  obtain ⟨g1, g2, g3⟩ := count_enc _ _ h1
  refine ⟨g1, ?_, by rw [ba_size, h3]; exact g3⟩
  unfold tx
  rw [ba_size, h3, ba_list, List.append_assoc, ← h2]
  exact g2
theorem num_enc (k : Nat) (s : St) (h : (numS k s).2.bad = false) : s.bad = false ∧ s.l = be k (numS k s).1 ++ (numS k s).2.l ∧ (numS k s).1 < 256 ^ k := by
  unfold numS at h ⊢
  obtain ⟨h1, h2, h3⟩ := take_enc _ _ h
  have hb := be_val (takeS k s).1
  have hv := val_lt (takeS k s).1
  rw [h3] at hb hv
  refine ⟨h1, ?_, hv⟩
  dsimp only
  rw [hb]
  exact h2
theorem nums_enc : ∀ (n : Nat) (s : St), (numsS n s).2.bad = false → s.bad = false ∧ s.l = nb (numsS n s).1 ++ (numsS n s).2.l ∧ (numsS n s).1.length = n ∧ ∀ x ∈ (numsS n s).1, -9223372036854775808 ≤ x ∧ x < 9223372036854775808
  | 0, s, h => ⟨h, rfl, rfl, fun x hx => by cases hx⟩
  | n + 1, s, h => by
    unfold numsS at h ⊢
    split at h
    · rename_i hb; exact absurd (h.symm.trans hb) (by decide)
    · rename_i hb
      rw [if_neg hb]
      dsimp only at h ⊢
      obtain ⟨h1, h2, h3, h4⟩ := nums_enc n _ h
      obtain ⟨g1, g2, g3⟩ := num_enc 8 _ h1
      refine ⟨g1, ?_, by rw [List.length_cons, h3], fun x hx => ?_⟩
      · have e : ∀ (a : Int) (l : List Int), nb (a :: l) = be 8 (nat64 a) ++ nb l := fun a l => by simp [nb]
        rw [e, nat64_i64 _ (by omega), List.append_assoc, ← h2]
        exact g2
      · rcases List.mem_cons.1 hx with rfl | hx
        · exact i64_range _
        · exact h4 x hx
theorem terms_enc (c : Bool) : ∀ (n : Nat) (s : St), (termsS c n s).2.bad = false → s.bad = false ∧ s.l = (termsS c n s).1.flatMap tx ++ (termsS c n s).2.l ∧ (termsS c n s).1.length = n ∧ ∀ t ∈ (termsS c n s).1, t.size < 18446744073709551616
  | 0, s, h => ⟨h, rfl, rfl, fun x hx => by cases hx⟩
  | n + 1, s, h => by
    unfold termsS at h ⊢
    split at h
    · rename_i hb; exact absurd (h.symm.trans hb) (by decide)
    · rename_i hb
      rw [if_neg hb]
      dsimp only at h ⊢
      obtain ⟨h1, h2, h3, h4⟩ := terms_enc c n _ h
      obtain ⟨g1, g2, g3⟩ := text_enc c _ h1
      refine ⟨g1, ?_, by rw [List.length_cons, h3], fun x hx => ?_⟩
      · rw [List.flatMap_cons, List.append_assoc, ← h2]
        exact g2
      · rcases List.mem_cons.1 hx with rfl | hx
        · exact g3
        · exact h4 x hx
theorem all_enc (c : Bool) (l : List UInt8) (h : (s7 c l).2.bad = false) : l = hd (decM c l) ++ (s7 c l).2.l ∧ VM (decM c l) := by
  obtain ⟨a7, b7, c7⟩ := text_enc c (s6 c l).2 h
  obtain ⟨a6, b6, c6, d6⟩ := terms_enc c (s5 c l).1 (s5 c l).2 a7
  obtain ⟨a5, b5, c5⟩ := count_enc c (s4 c l).2 a6
  obtain ⟨a4, b4, c4, d4⟩ := nums_enc (s3 c l).1 (s3 c l).2 a5
  obtain ⟨a3, b3, c3⟩ := count_enc c (s2 c l).2 a4
  obtain ⟨a2, b2, c2⟩ := text_enc c (s1 l).2 a3
  obtain ⟨a1, b1, c1⟩ := num_enc 2 ⟨l, false⟩ a2
  change (s6 c l).1.length = (s5 c l).1 at c6
  change (s4 c l).1.length = (s3 c l).1 at c4
  change (s6 c l).2.l = tx (ba (s7 c l).1) ++ (s7 c l).2.l at b7
  change (s5 c l).2.l = (s6 c l).1.flatMap tx ++ (s6 c l).2.l at b6
  change (s4 c l).2.l = putN (s5 c l).1 ++ (s5 c l).2.l at b5
  change (s3 c l).2.l = nb (s4 c l).1 ++ (s4 c l).2.l at b4
  change (s2 c l).2.l = putN (s3 c l).1 ++ (s3 c l).2.l at b3
  change (s1 l).2.l = tx (ba (s2 c l).1) ++ (s2 c l).2.l at b2
  change l = be 2 (s1 l).1 ++ (s1 l).2.l at b1
  change (s5 c l).1 < _ at c5
  change (s3 c l).1 < _ at c3
  change (s1 l).1 < _ at c1
  refine ⟨?_, ⟨by show (s1 l).1 < _; omega, d4, by show (s4 c l).1.length < _; rw [c4]; exact c3, by show (s6 c l).1.length < _; rw [c6]; exact c5, d6, c2, c7⟩⟩
  have e : hd (decM c l) = be 2 (s1 l).1 ++ (tx (ba (s2 c l).1) ++ (putN (s3 c l).1 ++ (nb (s4 c l).1 ++ (putN (s5 c l).1 ++ ((s6 c l).1.flatMap tx ++ tx (ba (s7 c l).1)))))) := by
    unfold hd decM
    dsimp only
    rw [c4, c6]
  rw [e]
  simp only [List.append_assoc]
  rw [← b7, ← b6, ← b5, ← b4, ← b3, ← b2]
  exact b1

/-! ### The laws -/
variable (R : List UInt8 → Bool)
theorem enc_no (m : Msg) (h : (encN R m).2 ≠ 0) : (encN R m).1 = [] := by
  unfold encN at h ⊢
  split
  · rename_i h1
    rw [if_pos h1] at h
    split
    · rfl
    · rename_i h2; rw [if_neg h2] at h; exact absurd rfl h
  · rfl
theorem enc_ok {m : Msg} (h : (encN R m).2 = 0) : mayN R m = true ∧ encN R m = (encB m, 0) ∧ (encB m).length ≤ 32768 := by
  unfold encN at h ⊢
  split at h
  · rename_i h1
    rw [if_pos h1]
    split at h
    · cases h
    · rename_i h2; rw [if_neg h2]; exact ⟨h1, rfl, by omega⟩
  · cases h
theorem may_stream {m : Msg} (h : mayN R m = true) : (streamN m.more).2 = 0 := by
  simp [mayN] at h; exact h.1.2
theorem dec_enc (m : Msg) (hv : VM m) (ht : ∀ r ∈ m.more, r.t < 18446744073709551616) (h : (encN R m).2 = 0) : decN R false (encN R m).1 = (m, 0) := by
  obtain ⟨h1, h2, h3⟩ := enc_ok R h
  have hs := may_stream R h1
  have hr := records_stream m.more hs ht
  obtain ⟨a, b⟩ := all_dec false m hv (streamN m.more).1
  rw [h2]
  unfold decN
  show (if 32768 < (encB m).length then _ else _) = _
  rw [if_neg (by omega)]
  unfold encB
  rw [a, b, hr, if_neg]
  rintro (h | h | h)
  · cases h
  · exact h rfl
  · exact absurd (h.symm.trans h1) (by decide)
theorem dec_no (c : Bool) (b : List UInt8) (h : (decN R c b).2 ≠ 0) : (decN R c b).1 = no := by
  unfold decN at h ⊢
  split
  · rfl
  · rename_i h1
    rw [if_neg h1] at h
    split
    · rfl
    · rename_i h2; rw [if_neg h2] at h; exact absurd rfl h
theorem dec_ok {c : Bool} {b : List UInt8} (h : (decN R c b).2 = 0) : b.length ≤ 32768 ∧ (s7 c b).2.bad = false ∧ (recordsN (s7 c b).2.l).2 = 0 ∧ mayN R (decM c b) = true ∧ decN R c b = (decM c b, 0) := by
  unfold decN at h ⊢
  split at h
  · cases h
  · rename_i h1
    rw [if_neg h1]
    split at h
    · cases h
    · rename_i h2
      rw [if_neg h2]
      refine ⟨by omega, ?_, ?_, ?_, rfl⟩
      · cases hq : (s7 c b).2.bad with | false => rfl | true => exact absurd (.inl hq) h2
      · exact Nat.eq_zero_of_not_pos fun h0 => h2 (.inr (.inl (by omega)))
      · cases hq : mayN R (decM c b) with | true => rfl | false => exact absurd (.inr (.inr hq)) h2
theorem enc_dec (b : List UInt8) (h : (decN R false b).2 = 0) : encN R (decN R false b).1 = (b, 0) := by
  obtain ⟨h1, h2, h3, h4, h5⟩ := dec_ok R h
  rw [h5]
  obtain ⟨e1, e2⟩ := all_enc false b h2
  have hs := (stream_records _ h3).1
  have hm : (decM false b).more = (recordsN (s7 false b).2.l).1 := by unfold decM; rfl
  have hb : encB (decM false b) = b := by
    unfold encB
    rw [hm, hs]
    exact e1.symm
  show encN R (decM false b) = _
  unfold encN
  rw [if_pos h4, hb, if_neg (by omega)]
theorem cut_less (m : Msg) (hv : VM m) (hm : m.more = []) (h : (encN R m).2 = 0) (k : Nat) (hk : k < (encN R m).1.length) : decN R false ((encN R m).1.take k) = (no, 80) := by
  obtain ⟨h1, h2, h3⟩ := enc_ok R h
  have hB : encB m = hd m ++ [] := by unfold encB; rw [hm]; rfl
  rw [h2] at hk ⊢
  dsimp only at hk ⊢
  rw [hB] at hk ⊢ h3
  unfold decN
  rw [if_neg (by rw [List.length_take]; omega)]
  have hbad : (s7 false ((hd m ++ []).take k)).2.bad = true := by
    cases hq : (s7 false ((hd m ++ []).take k)).2.bad with
    | true => rfl
    | false =>
      exfalso
      obtain ⟨e1, e2⟩ := all_enc false _ hq
      obtain ⟨g1, _⟩ := all_dec false _ e2 ((s7 false ((hd m ++ []).take k)).2.l ++ (hd m ++ []).drop k)
      rw [← List.append_assoc, ← e1, List.take_append_drop, (all_dec false m hv []).1] at g1
      have := congrArg (fun q => q.2.l.length) g1
      simp at this hk
      omega
  rw [if_pos (.inl hbad)]
theorem cut_more (m : Msg) (hv : VM m) (hm : m.more = []) (h : (encN R m).2 = 0) (hl : (encN R m).1.length < 32768) : decN R false ((encN R m).1 ++ [1]) = (no, 80) := by
  obtain ⟨h1, h2, h3⟩ := enc_ok R h
  have hB : encB m = hd m ++ [] := by unfold encB; rw [hm]; rfl
  rw [h2] at hl ⊢
  dsimp only at hl ⊢
  rw [hB] at hl ⊢
  rw [List.append_assoc, List.nil_append]
  unfold decN
  rw [if_neg (by simp at hl ⊢; omega), (all_dec false m hv [1]).1]
  rw [if_pos (.inr (.inl (show (recordsN [1]).2 ≠ 0 by decide)))]
theorem enc_pos (m : Msg) : 2 ≤ (encB m).length := by
  unfold encB hd
  simp [be_length]
theorem tx_len (s : ByteArray) : (tx s).length ≤ s.size + 9 := by
  have := (putN_pos s.size).2
  have e : s.data.toList.length = s.size := by cases s; rfl
  unfold tx
  rw [List.length_append, e]
  omega
def tsum (l : List ByteArray) : Nat := (l.map fun t => t.size).sum
theorem txs_len : ∀ l : List ByteArray, (l.flatMap tx).length ≤ tsum l + 9 * l.length
  | [] => by simp [tsum]
  | t :: l => by
    have h := txs_len l
    have h1 := tx_len t
    have e : tsum (t :: l) = t.size + tsum l := by simp [tsum]
    rw [List.flatMap_cons, List.length_append, e, List.length_cons]
    omega
theorem nb_len : ∀ l : List Int, (nb l).length = 8 * l.length
  | [] => rfl
  | x :: l => by
    have h := nb_len l
    have e : nb (x :: l) = be 8 (nat64 x) ++ nb l := by simp [nb]
    rw [e, List.length_append, be_length, h, List.length_cons]
    omega
theorem look_max : ∀ (l : List (Nat × Nat × Nat)), (∀ x ∈ l, x.2.1 ≤ 9 ∧ x.2.2 ≤ 8) → ∀ k, (look l k).1 ≤ 9 ∧ (look l k).2.1 ≤ 8
  | [], _, _ => ⟨Nat.zero_le _, Nat.zero_le _⟩
  | (a, b, c) :: r, h, k => by
    unfold look
    split
    · exact h _ (List.mem_cons_self ..)
    · exact look_max r (fun x hx => h x (List.mem_cons_of_mem _ hx)) k
theorem counts_max (k : Nat) : (countsN k).1 ≤ 9 ∧ (countsN k).2.1 ≤ 8 := look_max rows (by decide) k
theorem may_len {m : Msg} (h : mayN R m = true) : m.nums.length ≤ 32 ∧ m.terms.length ≤ 32 ∧ m.chan.size ≤ 100 ∧ m.text.size ≤ 4096 := by
  have hc := counts_max m.kind
  simp [mayN, fitN] at h
  have h1 := h.1.1.1.1.1
  refine ⟨?_, ?_, h.1.1.1.1.2, h.1.1.1.2⟩
  · split at h1
    · omega
    · exact h1.1.2
  · split at h1
    · omega
    · exact h1.2
theorem enc_short (m : Msg) (hm : m.more = []) (h : mayN R m = true) (hs : tsum m.terms ≤ 20000) : (encB m).length < 32768 := by
  obtain ⟨a, b, c, d⟩ := may_len R h
  have e1 := tx_len m.chan
  have e2 := tx_len m.text
  have e3 := txs_len m.terms
  have e4 := nb_len m.nums
  have e5 := (putN_pos m.nums.length).2
  have e6 := (putN_pos m.terms.length).2
  have e7 : (streamN m.more).1 = [] := by rw [hm]; rfl
  unfold encB hd
  rw [e7]
  simp only [List.length_append, be_length, List.length_nil]
  omega
end Wire
