/- What numbers, streams and records are, plainly: no program in sight. -/
import Derived.Calls
namespace Tlv

/-- a number's lowest bytes, the highest first -/
def be : Nat → Nat → List UInt8
  | 0, _ => []
  | m + 1, n => UInt8.ofNat (n / 256 ^ m) :: be m n
def least (m : Nat) : Nat := if m = 8 then 4294967296 else if m = 4 then 65536 else if m = 2 then 253 else 0
def putN (n : Nat) : List UInt8 := if n < 253 then be 1 n else if n < 65536 then 253 :: be 2 n else if n < 4294967296 then 254 :: be 4 n else 255 :: be 8 n
def val (l : List UInt8) : Nat := l.foldl (fun a c => a * 256 + c.toNat) 0
def more (c : UInt8) : Nat := if c = 253 then 2 else if c = 254 then 4 else if c = 255 then 8 else 0
/-- number, size, error -/
def getN : List UInt8 → Nat × Nat × Nat
  | [] => (0, 0, 51)
  | c :: r => if more c = 0 then (c.toNat, 1, 0) else if r.length < more c then (0, 0, 51) else
      if val (r.take (more c)) < least (more c) then (0, 0, 50) else (val (r.take (more c)), 1 + more c, 0)

theorem be_length : ∀ m n, (be m n).length = m
  | 0, _ => rfl
  | m + 1, n => by simp [be, be_length m n]
theorem val_snoc (l : List UInt8) (c : UInt8) : val (l ++ [c]) = val l * 256 + c.toNat := by simp [val, List.foldl_append]
theorem foldl_val (l : List UInt8) : ∀ a, l.foldl (fun a c => a * 256 + c.toNat) a = a * 256 ^ l.length + val l := by
  induction l with
  | nil => intro a; simp [val]
  | cons c r ih =>
    intro a
    have h0 : val (c :: r) = (0 * 256 + c.toNat) * 256 ^ r.length + val r := by unfold val; rw [List.foldl_cons, ih]; rfl
    rw [List.foldl_cons, ih, h0, List.length_cons, Nat.pow_succ]
    generalize 256 ^ r.length = p
    rw [Nat.add_mul, Nat.zero_mul, Nat.zero_add, Nat.mul_assoc, Nat.mul_comm 256 p, Nat.add_assoc]
theorem val_cons (c : UInt8) (r : List UInt8) : val (c :: r) = c.toNat * 256 ^ r.length + val r := by
  have h := foldl_val r (0 * 256 + c.toNat)
  have e : 0 * 256 + c.toNat = c.toNat := by omega
  unfold val at h ⊢
  rw [List.foldl_cons, h, e]
theorem val_lt : ∀ l : List UInt8, val l < 256 ^ l.length
  | [] => by simp [val]
  | c :: r => by
    have h := val_lt r
    have hc := c.toNat_lt
    rw [val_cons, List.length_cons, Nat.pow_succ]
    generalize 256 ^ r.length = p at *
    have : c.toNat * p + p ≤ 256 * p := by
      have : (c.toNat + 1) * p ≤ 256 * p := Nat.mul_le_mul_right _ (by omega)
      rw [Nat.add_mul] at this; omega
    rw [Nat.mul_comm p]; omega
theorem val_be : ∀ m n, val (be m n) = n % 256 ^ m
  | 0, n => by simp [val, be, Nat.mod_one]
  | m + 1, n => by
    have h1 := Nat.mod_mul (x := n) (a := 256 ^ m) (b := 256)
    rw [be, val_cons, be_length, val_be m n, UInt8.toNat_ofNat', show (256 : Nat) ^ (m + 1) = 256 ^ m * 256 from Nat.pow_succ .., h1, Nat.add_comm, Nat.mul_comm (256 ^ m)]
theorem be_val : ∀ l : List UInt8, be l.length (val l) = l
  | [] => rfl
  | c :: r => by
    have hv := val_lt r
    have hp : 0 < 256 ^ r.length := Nat.pow_pos (by omega)
    have hm : ∀ m n k, m ≤ k → be m (n % 256 ^ k) = be m n := by
      intro m
      induction m with
      | zero => intros; rfl
      | succ m ih =>
        intro n k hk
        have e : UInt8.ofNat (n % 256 ^ k / 256 ^ m) = UInt8.ofNat (n / 256 ^ m) := by
          apply UInt8.toNat_inj.1
          rw [UInt8.toNat_ofNat', UInt8.toNat_ofNat']
          obtain ⟨j, rfl⟩ : ∃ j, k = m + 1 + j := ⟨k - (m + 1), by omega⟩
          rw [show (256 : Nat) ^ (m + 1 + j) = 256 ^ m * (256 * 256 ^ j) by rw [Nat.pow_add, Nat.pow_succ, Nat.mul_assoc], Nat.mod_mul_right_div_self]
          show (n / 256 ^ m) % (256 * 256 ^ j) % 256 = _
          rw [Nat.mod_mul_right_mod]
        simp only [be, e, ih n k (by omega)]
    rw [List.length_cons, be, val_cons]
    have e1 : (c.toNat * 256 ^ r.length + val r) / 256 ^ r.length = c.toNat := by
      rw [Nat.mul_comm, Nat.mul_add_div hp, Nat.div_eq_of_lt hv, Nat.add_zero]
    have e2 : be r.length (c.toNat * 256 ^ r.length + val r) = r := by
      rw [← hm r.length _ r.length (Nat.le_refl _), Nat.mul_comm, Nat.mul_add_mod, Nat.mod_eq_of_lt hv, be_val r]
    rw [e1, e2, UInt8.ofNat_toNat]
theorem putN_length (n : Nat) : (putN n).length = if n < 253 then 1 else if n < 65536 then 3 else if n < 4294967296 then 5 else 9 := by
  unfold putN; (repeat' split) <;> simp [be_length]
theorem putN_pos (n : Nat) : 1 ≤ (putN n).length ∧ (putN n).length ≤ 9 := by rw [putN_length]; (repeat' split) <;> omega

theorem more_253 : more 253 = 2 := rfl
theorem more_254 : more 254 = 4 := rfl
theorem more_255 : more 255 = 8 := rfl
theorem more_ofNat (n : Nat) (h : n < 253) : more (UInt8.ofNat n) = 0 := by
  have e : (UInt8.ofNat n).toNat = n := by rw [UInt8.toNat_ofNat']; omega
  have ne : ∀ k : UInt8, 253 ≤ k.toNat → UInt8.ofNat n ≠ k := by intro k hk h'; rw [h'] at e; omega
  unfold more
  rw [if_neg (ne _ (by decide)), if_neg (ne _ (by decide)), if_neg (ne _ (by decide))]
/-- what Get tells of a number's bytes, whatever stands behind -/
theorem get_put (n : Nat) (h : n < 18446744073709551616) (r : List UInt8) : getN (putN n ++ r) = (n, (putN n).length, 0) := by
  have key : ∀ (c : UInt8) (m : Nat), more c = m → m ≠ 0 → n % 256 ^ m = n → least m ≤ n → getN (c :: be m n ++ r) = (n, (c :: be m n).length, 0) := by
    intro c m hm h0 hn hl
    have hlen := be_length m n
    simp only [List.cons_append, getN, hm, if_neg h0, List.length_append, hlen]
    rw [if_neg (by omega), List.take_left' hlen, val_be, hn, if_neg (by omega), List.length_cons, hlen, Nat.add_comm]
  unfold putN
  split
  · rename_i h1
    simp only [be, List.cons_append, List.nil_append, getN, Nat.pow_zero, Nat.div_one, more_ofNat n h1, if_true]
    rw [UInt8.toNat_ofNat']
    have : n % 2 ^ 8 = n := Nat.mod_eq_of_lt (by omega)
    rw [this]; rfl
  · split
    · exact key 253 2 rfl (by decide) (Nat.mod_eq_of_lt (by omega)) (by show 253 ≤ n; omega)
    · split
      · exact key 254 4 rfl (by decide) (Nat.mod_eq_of_lt (by omega)) (by show 65536 ≤ n; omega)
      · exact key 255 8 rfl (by decide) (Nat.mod_eq_of_lt (by omega)) (by show 4294967296 ≤ n; omega)
theorem more_cases (c : UInt8) : (more c = 0 ∧ c.toNat < 253) ∨ (c = 253 ∧ more c = 2) ∨ (c = 254 ∧ more c = 4) ∨ (c = 255 ∧ more c = 8) := by
  unfold more
  by_cases h1 : c = 253
  · subst h1; simp
  · by_cases h2 : c = 254
    · subst h2; simp
    · by_cases h3 : c = 255
      · subst h3; simp
      · left
        rw [if_neg h1, if_neg h2, if_neg h3]
        refine ⟨rfl, ?_⟩
        have := c.toNat_lt
        have n1 : c.toNat ≠ 253 := fun e => h1 (UInt8.toNat_inj.1 e)
        have n2 : c.toNat ≠ 254 := fun e => h2 (UInt8.toNat_inj.1 e)
        have n3 : c.toNat ≠ 255 := fun e => h3 (UInt8.toNat_inj.1 e)
        omega
/-- what was read begins the bytes, written anew -/
theorem get_ok (l : List UInt8) (n k : Nat) (h : getN l = (n, k, 0)) : n < 18446744073709551616 ∧ k = (putN n).length ∧ k ≤ l.length ∧ l.take k = putN n := by
  cases l with
  | nil => simp [getN] at h
  | cons c r =>
    have key : ∀ m, more c = m → m ≠ 0 → (∀ x, least m ≤ x → x < 256 ^ m → putN x = c :: be m x) → 256 ^ m ≤ 18446744073709551616 → n < 18446744073709551616 ∧ k = (putN n).length ∧ k ≤ (c :: r).length ∧ (c :: r).take k = putN n := by
      intro m hm h0 hp hb
      simp only [getN, hm, if_neg h0] at h
      split at h
      · simp at h
      · rename_i hl
        split at h
        · simp at h
        · rename_i hv
          simp only [Prod.mk.injEq] at h
          obtain ⟨rfl, rfl, _⟩ := h
          have htl : (r.take m).length = m := by rw [List.length_take]; omega
          have hlt := val_lt (r.take m)
          rw [htl] at hlt
          have hpn := hp (val (r.take m)) (by omega) hlt
          have hbe : be m (val (r.take m)) = r.take m := by have := be_val (r.take m); rw [htl] at this; exact this
          rw [hpn, hbe]
          refine ⟨by omega, by simp [htl, Nat.add_comm], by simp; omega, ?_⟩
          rw [Nat.add_comm, List.take_succ_cons]
    rcases more_cases c with ⟨hm, hc⟩ | ⟨rfl, hm⟩ | ⟨rfl, hm⟩ | ⟨rfl, hm⟩
    · simp only [getN, hm, if_true, Prod.mk.injEq] at h
      obtain ⟨rfl, rfl, _⟩ := h
      have : putN c.toNat = [c] := by
        unfold putN
        rw [if_pos hc]
        simp [be]
      rw [this]
      exact ⟨by omega, rfl, by simp, by simp⟩
    · refine key 2 hm (by decide) (fun x h1 h2 => ?_) (by decide)
      have h1' : 253 ≤ x := h1
      unfold putN; rw [if_neg (by omega), if_pos (by omega)]
    · refine key 4 hm (by decide) (fun x h1 h2 => ?_) (by decide)
      have h1' : 65536 ≤ x := h1
      unfold putN; rw [if_neg (by omega), if_neg (by omega), if_pos (by omega)]
    · refine key 8 hm (by decide) (fun x h1 h2 => ?_) (by decide)
      have h1' : 4294967296 ≤ x := h1
      unfold putN; rw [if_neg (by omega), if_neg (by omega), if_neg (by omega)]
/-! ### Records -/
structure Rec where
  t : Nat
  body : List UInt8
def Rec.enc (r : Rec) : List UInt8 := putN r.t ++ putN r.body.length ++ r.body
def rising : List Rec → Bool
  | [] => true
  | [_] => true
  | a :: b :: r => decide (a.t < b.t) && rising (b :: r)
def encAll (l : List Rec) : List UInt8 := l.flatMap Rec.enc
/-- bytes, error -/
def streamN (l : List Rec) : List UInt8 × Nat :=
  if 64 < l.length then ([], 3) else if rising l = false then ([], 50) else if 32768 < (encAll l).length then ([], 3) else (encAll l, 0)
def lastLe (acc : List Rec) (t : Nat) : Bool := match acc.getLast? with | some r => decide (t ≤ r.t) | none => false
/-- the records of bytes, by rounds: those that are there, what is left -/
def recsN : Nat → List Rec → List UInt8 → List Rec × Nat
  | 0, _, _ => ([], 0)
  | f + 1, acc, b =>
    if b = [] then (acc, 0) else
    if (getN b).2.2 ≠ 0 then ([], (getN b).2.2) else
    if lastLe acc (getN b).1 = true then ([], 50) else
    if acc.length = 64 then ([], 3) else
    if (getN (b.drop (getN b).2.1)).2.2 ≠ 0 then ([], (getN (b.drop (getN b).2.1)).2.2) else
    let c := (b.drop (getN b).2.1).drop (getN (b.drop (getN b).2.1)).2.1
    let n := (getN (b.drop (getN b).2.1)).1
    if c.length < n then ([], 51) else recsN f (acc ++ [⟨(getN b).1, c.take n⟩]) (c.drop n)
def recordsN (b : List UInt8) : List Rec × Nat := if 32768 < b.length then ([], 3) else recsN (b.length + 1) [] b
theorem rising_at : ∀ {L : List Rec}, rising L = true → ∀ (i : Nat) (a b : Rec), L[i]? = some a → L[i + 1]? = some b → a.t < b.t
  | [], _, i, a, b, h, _ => by simp at h
  | [_], _, i, a, b, _, h => by simp at h
  | x :: y :: r, h, i, a, b, ha, hb => by
    simp only [rising, Bool.and_eq_true, decide_eq_true_eq] at h
    cases i with
    | zero => simp at ha hb; subst ha hb; exact h.1
    | succ i => exact rising_at h.2 i a b (by simpa using ha) (by simpa using hb)
theorem rising_of : ∀ {L : List Rec}, (∀ (i : Nat) (a b : Rec), L[i]? = some a → L[i + 1]? = some b → a.t < b.t) → rising L = true
  | [], _ => rfl
  | [_], _ => rfl
  | x :: y :: r, h => by
    simp only [rising, Bool.and_eq_true, decide_eq_true_eq]
    exact ⟨h 0 x y rfl rfl, rising_of fun i a b ha hb => h (i + 1) a b (by simpa using ha) (by simpa using hb)⟩
def bodies (L : List Rec) : Nat := (L.map fun r => r.body.length).sum
theorem bodies_take (L : List Rec) (k : Nat) (r : Rec) (h : L[k]? = some r) : bodies (L.take (k + 1)) = bodies (L.take k) + r.body.length := by
  have hk := (List.getElem?_eq_some_iff.1 h).1
  rw [List.take_succ_eq_append_getElem hk]
  have : L[k] = r := by rw [List.getElem?_eq_getElem hk] at h; exact Option.some.inj h
  simp [bodies, this]
theorem bodies_mono (L : List Rec) (k : Nat) : bodies (L.take k) ≤ bodies L := by
  have h : bodies L = bodies (L.take k) + bodies (L.drop k) := by
    unfold bodies
    rw [← List.sum_append, ← List.map_append, List.take_append_drop]
  omega
theorem encAll_take (L : List Rec) (k : Nat) (r : Rec) (h : L[k]? = some r) : encAll (L.take (k + 1)) = encAll (L.take k) ++ putN r.t ++ putN r.body.length ++ r.body := by
  have hk := (List.getElem?_eq_some_iff.1 h).1
  rw [List.take_succ_eq_append_getElem hk]
  have : L[k] = r := by rw [List.getElem?_eq_getElem hk] at h; exact Option.some.inj h
  simp [encAll, Rec.enc, this]
theorem encAll_len (L : List Rec) : bodies L ≤ (encAll L).length ∧ (encAll L).length ≤ bodies L + 18 * L.length := by
  induction L with
  | nil => simp [bodies, encAll]
  | cons r L ih =>
    have h1 := putN_pos r.t
    have h2 := putN_pos r.body.length
    have e1 : encAll (r :: L) = r.enc ++ encAll L := rfl
    have e2 : bodies (r :: L) = r.body.length + bodies L := by simp [bodies]
    rw [e1, e2]
    simp only [List.length_append, Rec.enc, List.length_cons]
    omega
open Go

theorem lastLe_false {acc R : List Rec} {r : Rec} (h : rising (acc ++ r :: R) = true) : lastLe acc r.t = false := by
  unfold lastLe
  cases hl : acc.getLast? with
  | none => rfl
  | some p =>
    have hne : acc ≠ [] := by intro e; rw [e] at hl; simp at hl
    have hp : acc[acc.length - 1]? = some p := by rw [← List.getLast?_eq_getElem?]; exact hl
    have hpos : 0 < acc.length := List.length_pos_iff.2 hne
    have := rising_at h (acc.length - 1) p r (by rw [List.getElem?_append_left (by omega)]; exact hp) (by rw [show acc.length - 1 + 1 = acc.length by omega, List.getElem?_append_right (Nat.le_refl _), Nat.sub_self]; rfl)
    simp; omega
theorem recs_enc : ∀ (R acc : List Rec) (f : Nat), R.length < f → rising (acc ++ R) = true → (acc ++ R).length ≤ 64 → (∀ r ∈ R, r.t < 18446744073709551616 ∧ r.body.length < 18446744073709551616) → recsN f acc (encAll R) = (acc ++ R, 0) := by
  intro R
  induction R with
  | nil =>
    intro acc f hf _ _ _
    obtain ⟨f', rfl⟩ : ∃ f', f = f' + 1 := ⟨f - 1, by omega⟩
    simp [recsN, encAll]
  | cons r R ih =>
    intro acc f hf hr hl ht
    obtain ⟨f', rfl⟩ : ∃ f', f = f' + 1 := ⟨f - 1, by omega⟩
    have hb : encAll (r :: R) = putN r.t ++ (putN r.body.length ++ (r.body ++ encAll R)) := by
      show r.enc ++ encAll R = _
      simp [Rec.enc]
    have hne : encAll (r :: R) ≠ [] := by
      intro e; rw [hb] at e
      have := (putN_pos r.t).1
      simp at e; rw [e.1] at this; simp at this
    have hm := ht r (List.mem_cons_self ..)
    have hg := get_put r.t hm.1 (putN r.body.length ++ (r.body ++ encAll R))
    have hg2 := get_put r.body.length hm.2 (r.body ++ encAll R)
    have hd : (putN r.t ++ (putN r.body.length ++ (r.body ++ encAll R))).drop (putN r.t).length = putN r.body.length ++ (r.body ++ encAll R) := List.drop_left' rfl
    have hd2 : (putN r.body.length ++ (r.body ++ encAll R)).drop (putN r.body.length).length = r.body ++ encAll R := List.drop_left' rfl
    have hlen : acc.length ≠ 64 := by simp at hl; omega
    have hlast := lastLe_false hr
    rw [hb] at hne ⊢
    simp only [recsN, if_neg hne, hg, hd, hg2, hd2]
    rw [if_neg (by simp), hlast, if_neg (by simp), if_neg hlen, if_neg (by simp), if_neg (by simp)]
    have h1 : (r.body ++ encAll R).take r.body.length = r.body := List.take_left' rfl
    have h2 : (r.body ++ encAll R).drop r.body.length = encAll R := List.drop_left' rfl
    rw [h1, h2, ih (acc ++ [r]) f' (by simp at hf; omega) (by simpa using hr) (by simpa using hl) (fun x hx => ht x (List.mem_cons_of_mem _ hx))]
    simp
theorem enc_long (L : List Rec) : 2 * L.length ≤ (encAll L).length := by
  induction L with
  | nil => simp [encAll]
  | cons r L ih =>
    have h1 := (putN_pos r.t).1
    have h2 := (putN_pos r.body.length).1
    have e1 : encAll (r :: L) = r.enc ++ encAll L := rfl
    rw [e1, List.length_append]
    simp [Rec.enc]; omega
theorem body_le : ∀ {L : List Rec} {r : Rec}, r ∈ L → r.body.length ≤ bodies L
  | a :: L, r, h => by
    have e : bodies (a :: L) = a.body.length + bodies L := by simp [bodies]
    rcases List.mem_cons.1 h with rfl | h
    · omega
    · have := body_le h; omega
/-- records that are written are read -/
theorem records_stream (L : List Rec) (h : (streamN L).2 = 0) (ht : ∀ r ∈ L, r.t < 18446744073709551616) : recordsN (streamN L).1 = (L, 0) := by
  unfold streamN at h ⊢
  split at h
  · simp at h
  · split at h
    · simp at h
    · split at h
      · simp at h
      · rename_i h1 h2 h3
        rw [if_neg h1, if_neg h2, if_neg h3]
        have hr : rising L = true := by cases hq : rising L with | true => rfl | false => exact absurd hq h2
        have hb := (encAll_len L).1
        have hlong := enc_long L
        unfold recordsN
        rw [if_neg h3]
        have := recs_enc L [] ((encAll L).length + 1) (by omega) (by simpa using hr) (by simp; omega) (fun r hr => ⟨ht r hr, by
          have := body_le hr
          omega⟩)
        simpa using this
theorem recs_none : ∀ (f : Nat) (acc : List Rec) (b : List UInt8), (recsN f acc b).2 ≠ 0 → (recsN f acc b).1 = []
  | 0, _, _, h => absurd rfl h
  | f + 1, acc, b, h => by
    unfold recsN at h ⊢
    split at h
    · exact absurd rfl h
    · rename_i h1
      rw [if_neg h1]
      split at h
      · rename_i h2; rw [if_pos h2]
      · rename_i h2
        rw [if_neg h2]
        split at h
        · rename_i h3; rw [if_pos h3]
        · rename_i h3
          rw [if_neg h3]
          split at h
          · rename_i h4; rw [if_pos h4]
          · rename_i h4
            rw [if_neg h4]
            split at h
            · rename_i h5; rw [if_pos h5]
            · rename_i h5
              rw [if_neg h5]
              simp only at h ⊢
              split at h
              · rename_i h6; rw [if_pos h6]
              · rename_i h6
                rw [if_neg h6]
                exact recs_none f _ _ h
theorem records_none (b : List UInt8) (h : (recordsN b).2 ≠ 0) : (recordsN b).1 = [] := by
  unfold recordsN at h ⊢
  split
  · rfl
  · rename_i h1
    rw [if_neg h1] at h
    exact recs_none _ _ _ h
theorem lastLe_of {acc : List Rec} {t : Nat} (h : lastLe acc t = false) {p : Rec} (hp : acc.getLast? = some p) : p.t < t := by
  unfold lastLe at h; rw [hp] at h; simpa using h
theorem rising_snoc {acc : List Rec} {r : Rec} (h : rising acc = true) (hl : lastLe acc r.t = false) : rising (acc ++ [r]) = true := by
  refine rising_of fun i a b ha hb => ?_
  have hi := (List.getElem?_eq_some_iff.1 hb).1
  simp at hi
  rw [List.getElem?_append_left (by omega)] at ha
  rcases Nat.lt_or_ge (i + 1) acc.length with h1 | h1
  · rw [List.getElem?_append_left h1] at hb
    exact rising_at h i a b ha hb
  · have hlt := (List.getElem?_eq_some_iff.1 ha).1
    have e : i + 1 = acc.length := by omega
    rw [List.getElem?_append_right h1, show i + 1 - acc.length = 0 by omega] at hb
    simp at hb
    subst hb
    refine lastLe_of hl ?_
    rw [List.getLast?_eq_getElem?, show acc.length - 1 = i by omega]
    exact ha
theorem recs_back : ∀ (f : Nat) (acc : List Rec) (b : List UInt8) (L : List Rec), b.length < f → recsN f acc b = (L, 0) → rising acc = true → acc.length ≤ 64 → (∀ r ∈ acc, r.t < 18446744073709551616) →
    ∃ R, L = acc ++ R ∧ b = encAll R ∧ rising L = true ∧ L.length ≤ 64 ∧ ∀ r ∈ L, r.t < 18446744073709551616
  | 0, _, b, _, hf, _, _, _, _ => absurd hf (by omega)
  | f + 1, acc, b, L, hf, h, hr, hl, ht => by
    unfold recsN at h
    split at h
    · rename_i hb
      simp only [Prod.mk.injEq, and_true] at h
      subst h
      exact ⟨[], by simp, by simpa [encAll] using hb, hr, hl, ht⟩
    · rename_i hb
      split at h
      · rename_i h1; simp at h; exact absurd h.2 h1
      · rename_i h1
        split at h
        · simp at h
        · rename_i h2
          split at h
          · simp at h
          · rename_i h3
            split at h
            · rename_i h4; simp at h; exact absurd h.2 h4
            · rename_i h4
              simp only at h
              split at h
              · simp at h
              · rename_i h5
                obtain ⟨T, K, E, hG⟩ : ∃ T K E, getN b = (T, K, E) := ⟨_, _, _, rfl⟩
                rw [hG] at h1 h2 h4 h h5
                simp only at h1 h2 h4 h h5
                obtain ⟨N, J, E2, hG2⟩ : ∃ N J E2, getN (b.drop K) = (N, J, E2) := ⟨_, _, _, rfl⟩
                rw [hG2] at h4 h h5
                simp only at h4 h h5
                obtain rfl : E = 0 := by omega
                obtain rfl : E2 = 0 := by omega
                obtain ⟨hT, hK, hKl, hKt⟩ := get_ok b T K hG
                obtain ⟨hN, hJ, hJl, hJt⟩ := get_ok (b.drop K) N J hG2
                have hKp := (putN_pos T).1
                have hlast : lastLe acc T = false := by cases hq : lastLe acc T with | false => rfl | true => exact absurd hq h2
                have hbl : ((b.drop K).drop J).length = b.length - K - J := by simp; omega
                have hTl : (((b.drop K).drop J).take N).length = N := by rw [List.length_take]; omega
                obtain ⟨R, hR1, hR2, hR3, hR4, hR5⟩ := recs_back f (acc ++ [⟨T, ((b.drop K).drop J).take N⟩]) (((b.drop K).drop J).drop N) L (by simp; omega) h (rising_snoc hr hlast) (by simp; omega) (fun r hr' => by
                  rcases List.mem_append.1 hr' with h | h
                  · exact ht r h
                  · simp at h; subst h; exact hT)
                refine ⟨⟨T, ((b.drop K).drop J).take N⟩ :: R, by rw [hR1]; simp, ?_, hR3, hR4, hR5⟩
                have e1 : encAll (⟨T, ((b.drop K).drop J).take N⟩ :: R) = Rec.enc ⟨T, ((b.drop K).drop J).take N⟩ ++ encAll R := rfl
                rw [e1, ← hR2]
                unfold Rec.enc
                simp only
                rw [hTl, ← hKt, ← hJt, List.append_assoc, List.append_assoc, List.take_append_drop, List.take_append_drop, List.take_append_drop]
/-- what is read is written again -/
theorem stream_records (b : List UInt8) (h : (recordsN b).2 = 0) : streamN (recordsN b).1 = (b, 0) ∧ ∀ r ∈ (recordsN b).1, r.t < 18446744073709551616 := by
  obtain ⟨L, hL⟩ : ∃ L, recordsN b = (L, 0) := ⟨(recordsN b).1, by rw [← h]⟩
  rw [hL]
  unfold recordsN at hL
  split at hL
  · simp at hL
  · rename_i hb
    obtain ⟨R, hR1, hR2, hR3, hR4, hR5⟩ := recs_back _ [] b L (Nat.lt_succ_self _) hL rfl (by simp) (by simp)
    simp at hR1
    subst hR1
    refine ⟨?_, hR5⟩
    unfold streamN
    simp only
    rw [if_neg (by omega), hR3, if_neg (by decide), ← hR2, if_neg hb]

/-! ### The order of numbers -/
open Go (Op.bytesLess)
end Tlv
