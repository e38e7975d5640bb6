/- Terms as bytes: what is read of them. No program in sight. -/
import Derived.Test.YtlheoipengndnabDoorNum
namespace Go.Proofs.YtlheoipengndnabDoor

/-- what was read of a term: its op, number, text, parts; how deep it is -/
structure Sh where
  op : UInt8
  n : Nat
  text : List UInt8
  kids : List (List UInt8)
  deep : Nat

def isPub (l : List UInt8) : Bool := match l with
  | c :: _ => c == 80 || c == 87 || c == 76
  | [] => false
/-- is a text of bytes above another? -/
def bytesLt : List UInt8 → List UInt8 → Bool
  | _, [] => false
  | [], _ :: _ => true
  | a :: l, b :: r => if a < b then true else if b < a then false else bytesLt l r
def nth (l : List (List UInt8)) (i : Nat) : List UInt8 := l.getD i []
def fitsB (op : UInt8) (ks : List (List UInt8)) : Bool :=
  if op = 80 then !((nth ks 0).headD 0 == 86) && !((nth ks 0).headD 0 == 75)
  else if op = 88 then !(bytesLt (nth ks 1) (nth ks 0))
  else if op = 87 then isPub (nth ks 0) && isPub (nth ks 1)
  else if op = 76 then isPub (nth ks 0)
  else true
def arity (op : UInt8) : Option Nat :=
  if op = 80 ∨ op = 72 then some 1
  else if op = 83 ∨ op = 66 ∨ op = 88 ∨ op = 68 ∨ op = 86 ∨ op = 87 ∨ op = 75 ∨ op = 76 then some 2
  else none

/-- so many parts, one behind the other; the deepest of them, and one more -/
def kidsP (p : List UInt8 → Option (Sh × List UInt8)) : Nat → List UInt8 → Option (List (List UInt8) × Nat × List UInt8)
  | 0, l => some ([], 1, l)
  | k + 1, l => match p l with
    | none => none
    | some (x, r) => match kidsP p k r with
      | none => none
      | some (ks, d, t) => some (l.take (l.length - r.length) :: ks, max (x.deep + 1) d, t)

/-- how many parts stand behind an op, and where -/
def many (op : UInt8) (r : List UInt8) : Option (Nat × List UInt8) :=
  if op = 84 then match num 58 r with
    | none => none
    | some (k, t) => if k ≤ 32 then some (k, t) else none
  else match arity op with
    | none => none
    | some k => some (k, r)

/-- the term that bytes begin with, at most so deep, and what stands behind it -/
def parse : Nat → List UInt8 → Option (Sh × List UInt8)
  | 0, _ => none
  | _ + 1, [] => none
  | room + 1, op :: r =>
    if op = 110 then match num 59 r with
      | none => none
      | some (n, t) => some (⟨op, n, [], [], 1⟩, t)
    else if op = 116 then match num 58 r with
      | none => none
      | some (n, t) => if n ≤ 4096 ∧ n ≤ t.length then some (⟨op, 0, t.take n, [], 1⟩, t.drop n) else none
    else match many op r with
      | none => none
      | some (k, t) => match kidsP (parse room) k t with
        | none => none
        | some (ks, d, u) => if fitsB op ks then some (⟨op, 0, [], ks, d⟩, u) else none

/-! ### what is read stands in front, and hangs on nothing behind it -/
/-- a reader that takes a piece off the front, and does not look behind it -/
def Front {α : Type} (p : List UInt8 → Option (α × List UInt8)) : Prop :=
  ∀ l x r, p l = some (x, r) → ∃ c, l = c ++ r ∧ ∀ z, p (c ++ z) = some (x, z)

theorem numTail_front (e : UInt8) : ∀ n, Front (numTail e n) := by
  intro n l
  induction l generalizing n with
  | nil => intro x r h; simp [numTail] at h
  | cons c l ih =>
    intro x r h
    simp only [numTail] at h
    split at h
    · rename_i hc
      cases h
      exact ⟨[c], rfl, fun z => by simp [numTail, hc]⟩
    · rename_i hc
      split at h
      · rename_i hd
        obtain ⟨d, rfl, hz⟩ := ih _ x r h
        refine ⟨c :: d, rfl, fun z => ?_⟩
        simp only [List.cons_append, numTail, if_neg hc, if_pos hd]
        exact hz z
      · cases h
theorem num_front (e : UInt8) : Front (num e) := by
  intro l x r h
  cases l with
  | nil => simp [num] at h
  | cons c l =>
    simp only [num] at h
    split at h
    · rename_i hd
      obtain ⟨d, rfl, hz⟩ := numTail_front e _ l x r h
      refine ⟨c :: d, rfl, fun z => ?_⟩
      simp only [List.cons_append, num, if_pos hd]
      exact hz z
    · cases h

theorem kids_front (p : List UInt8 → Option (Sh × List UInt8)) (hp : Front p) : ∀ k, ∀ l ks d r, kidsP p k l = some (ks, d, r) → ∃ c, l = c ++ r ∧ ∀ z, kidsP p k (c ++ z) = some (ks, d, z) := by
  intro k
  induction k with
  | zero =>
    intro l ks d r h
    simp only [kidsP, Option.some.injEq, Prod.mk.injEq] at h
    obtain ⟨rfl, rfl, rfl⟩ := h
    exact ⟨[], rfl, fun z => rfl⟩
  | succ k ih =>
    intro l ks d r h
    simp only [kidsP] at h
    split at h
    · cases h
    · rename_i x t hx
      split at h
      · cases h
      · rename_i ks' d' u hk
        simp only [Option.some.injEq, Prod.mk.injEq] at h
        obtain ⟨rfl, rfl, rfl⟩ := h
        obtain ⟨c, rfl, hc⟩ := hp l x t hx
        obtain ⟨c', rfl, hc'⟩ := ih t ks' d' u hk
        refine ⟨c ++ c', by simp, fun z => ?_⟩
        have e1 : (c ++ (c' ++ u)).length - (c' ++ u).length = c.length := by simp
        have e2 : (c ++ (c' ++ z)).length - (c' ++ z).length = c.length := by simp
        simp only [List.append_assoc, kidsP, hc (c' ++ z), hc' z, e1, e2]
        simp

theorem many_front (op : UInt8) : Front (many op) := by
  intro l x r h
  unfold many at h ⊢
  split at h
  · rename_i hop
    split at h
    · cases h
    · rename_i k t hk
      split at h
      · rename_i h32
        cases h
        obtain ⟨c, rfl, hc⟩ := num_front 58 l _ _ hk
        refine ⟨c, rfl, fun z => ?_⟩
        simp only [if_pos hop, hc z, if_pos h32]
      · cases h
  · rename_i hop
    split at h
    · cases h
    · rename_i k hk
      cases h
      exact ⟨[], rfl, fun z => by simp only [if_neg hop, List.nil_append]⟩

theorem parse_front : ∀ room, Front (parse room) := by
  intro room
  induction room with
  | zero => intro l x r h; simp [parse] at h
  | succ room ih =>
    intro l x r h
    cases l with
    | nil => simp [parse] at h
    | cons op l =>
      simp only [parse] at h
      split at h
      · rename_i h1
        split at h
        · cases h
        · rename_i n t hn
          cases h
          obtain ⟨c, rfl, hc⟩ := num_front 59 l _ _ hn
          refine ⟨op :: c, rfl, fun z => ?_⟩
          simp only [List.cons_append, parse, if_pos h1, hc z]
      · rename_i h1
        split at h
        · rename_i h2
          split at h
          · cases h
          · rename_i n t hn
            split at h
            · rename_i hb
              cases h
              obtain ⟨c, rfl, hc⟩ := num_front 58 l n t hn
              refine ⟨op :: (c ++ t.take n), by simp, fun z => ?_⟩
              have hl : (t.take n).length = n := by rw [List.length_take]; omega
              simp only [List.cons_append, List.append_assoc, parse, if_neg h1, if_pos h2, hc (t.take n ++ z)]
              rw [if_pos ⟨hb.1, by rw [List.length_append]; omega⟩]
              congr 3
              · rw [List.take_append_of_le_length (by omega), List.take_take, Nat.min_self]
              · rw [List.drop_append_of_le_length (by omega), List.drop_of_length_le (by omega), List.nil_append]
            · cases h
        · rename_i h2
          split at h
          · cases h
          · rename_i k t hk
            split at h
            · cases h
            · rename_i ks d u hu
              split at h
              · rename_i hf
                cases h
                obtain ⟨c, rfl, hc⟩ := many_front op l _ _ hk
                obtain ⟨c', rfl, hc'⟩ := kids_front (parse room) ih k _ _ _ _ hu
                refine ⟨op :: (c ++ c'), by simp, fun z => ?_⟩
                simp only [List.cons_append, List.append_assoc, parse, if_neg h1, if_neg h2, hc (c' ++ z), hc' z, if_pos hf]
              · cases h

/-- what is read of a term is not nothing -/
theorem parse_cons {room : Nat} {l : List UInt8} {x : Sh} {r : List UInt8} (h : parse room l = some (x, r)) : ∃ c, l = x.op :: (c ++ r) := by
  obtain ⟨c, hl, hz⟩ := parse_front room l x r h
  cases room with
  | zero => simp [parse] at h
  | succ room =>
    have h0 := hz []
    cases c with
    | nil => simp [parse] at h0
    | cons op c =>
      refine ⟨c, ?_⟩
      rw [hl]
      have : x.op = op := by
        simp only [List.cons_append, parse] at h0
        repeat' split at h0
        all_goals first | (simp only [Option.some.injEq, Prod.mk.injEq] at h0; rw [← h0.1]) | cases h0
      rw [this]; rfl
/-! ### how deep -/
theorem kids_mono (p q : List UInt8 → Option (Sh × List UInt8)) (hpq : ∀ l y, p l = some y → q l = some y) : ∀ k l y, kidsP p k l = some y → kidsP q k l = some y := by
  intro k
  induction k with
  | zero => intro l y h; exact h
  | succ k ih =>
    intro l y h
    simp only [kidsP] at h ⊢
    split at h
    · cases h
    · rename_i x t hx
      split at h
      · cases h
      · rename_i ks d u hk
        rw [hpq _ _ hx]
        simp only [ih _ _ hk]
        exact h
theorem parse_mono : ∀ room l y, parse room l = some y → parse (room + 1) l = some y := by
  intro room
  induction room with
  | zero => intro l y h; simp [parse] at h
  | succ room ih =>
    intro l y h
    cases l with
    | nil => simp [parse] at h
    | cons op l =>
      rw [parse] at h ⊢
      split
      · rename_i h1; rw [if_pos h1] at h; exact h
      · rename_i h1
        rw [if_neg h1] at h
        split
        · rename_i h2; rw [if_pos h2] at h; exact h
        · rename_i h2
          rw [if_neg h2] at h
          split at h
          · cases h
          · rename_i k t hk
            split at h
            · cases h
            · rename_i ks d u hu
              simp only [kids_mono _ _ ih _ _ _ hu]
              exact h
theorem parse_le {a b : Nat} (hab : a ≤ b) {l : List UInt8} {y : Sh × List UInt8} (h : parse a l = some y) : parse b l = some y := by
  induction hab with
  | refl => exact h
  | step _ ih => exact parse_mono _ _ _ ih
theorem kids_deep (room : Nat) (hp : ∀ l x r, parse room l = some (x, r) → 1 ≤ x.deep ∧ x.deep ≤ room ∧ parse x.deep l = some (x, r)) :
    ∀ k l ks d r, kidsP (parse room) k l = some (ks, d, r) → 1 ≤ d ∧ d ≤ room + 1 ∧ kidsP (parse (d - 1)) k l = some (ks, d, r) := by
  intro k
  induction k with
  | zero =>
    intro l ks d r h
    simp only [kidsP, Option.some.injEq, Prod.mk.injEq] at h
    obtain ⟨rfl, rfl, rfl⟩ := h
    exact ⟨Nat.le_refl _, by omega, rfl⟩
  | succ k ih =>
    intro l ks d r h
    simp only [kidsP] at h
    split at h
    · cases h
    · rename_i x t hx
      split at h
      · cases h
      · rename_i ks' d' u hk
        simp only [Option.some.injEq, Prod.mk.injEq] at h
        obtain ⟨rfl, rfl, rfl⟩ := h
        obtain ⟨h1, h2, h3⟩ := hp _ _ _ hx
        obtain ⟨h4, h5, h6⟩ := ih _ _ _ _ hk
        refine ⟨by omega, by omega, ?_⟩
        have e1 : parse (max (x.deep + 1) d' - 1) l = some (x, t) := parse_le (by omega) h3
        have e2 : kidsP (parse (max (x.deep + 1) d' - 1)) k t = some (ks', d', u) := kids_mono _ _ (fun l y h => parse_le (by omega) h) _ _ _ h6
        simp only [kidsP, e1, e2]
theorem parse_deep : ∀ room l x r, parse room l = some (x, r) → 1 ≤ x.deep ∧ x.deep ≤ room ∧ parse x.deep l = some (x, r) := by
  intro room
  induction room with
  | zero => intro l x r h; simp [parse] at h
  | succ room ih =>
    intro l x r h
    cases l with
    | nil => simp [parse] at h
    | cons op l =>
      have h0 := h
      simp only [parse] at h
      split at h
      · rename_i h1
        split at h
        · cases h
        · rename_i n t hn
          simp only [Option.some.injEq, Prod.mk.injEq] at h
          obtain ⟨rfl, rfl⟩ := h
          refine ⟨Nat.le_refl _, by simp, ?_⟩
          simp only [parse, if_pos h1, hn]
      · rename_i h1
        split at h
        · rename_i h2
          split at h
          · cases h
          · rename_i n t hn
            split at h
            · rename_i hb
              simp only [Option.some.injEq, Prod.mk.injEq] at h
              obtain ⟨rfl, rfl⟩ := h
              refine ⟨Nat.le_refl _, by simp, ?_⟩
              simp only [parse, if_neg h1, if_pos h2, hn, if_pos hb]
            · cases h
        · rename_i h2
          split at h
          · cases h
          · rename_i k t hk
            split at h
            · cases h
            · rename_i ks d u hu
              split at h
              · rename_i hf
                simp only [Option.some.injEq, Prod.mk.injEq] at h
                obtain ⟨rfl, rfl⟩ := h
                obtain ⟨h4, h5, h6⟩ := kids_deep room ih _ _ _ _ _ hu
                refine ⟨h4, h5, ?_⟩
                obtain ⟨d, rfl⟩ : ∃ e, d = e + 1 := ⟨d - 1, by omega⟩
                rw [Nat.add_sub_cancel] at h6
                simp only [parse, if_neg h1, if_neg h2, hk, h6, if_pos hf]
              · cases h
/-- a reader's parts are right terms of their own -/
theorem kids_each (p : List UInt8 → Option (Sh × List UInt8)) (hp : Front p) : ∀ k l ks d r, kidsP p k l = some (ks, d, r) → ks.length = k ∧ l = ks.flatten ++ r ∧ ∀ c ∈ ks, ∃ x, p c = some (x, []) ∧ x.deep + 1 ≤ d := by
  intro k
  induction k with
  | zero =>
    intro l ks d r h
    simp only [kidsP, Option.some.injEq, Prod.mk.injEq] at h
    obtain ⟨rfl, rfl, rfl⟩ := h
    exact ⟨rfl, rfl, fun c hc => by cases hc⟩
  | succ k ih =>
    intro l ks d r h
    simp only [kidsP] at h
    split at h
    · cases h
    · rename_i x t hx
      split at h
      · cases h
      · rename_i ks' d' u hk
        simp only [Option.some.injEq, Prod.mk.injEq] at h
        obtain ⟨rfl, rfl, rfl⟩ := h
        obtain ⟨c, rfl, hc⟩ := hp l x t hx
        obtain ⟨h1, rfl, h3⟩ := ih _ _ _ _ hk
        have e1 : (c ++ (ks'.flatten ++ u)).take ((c ++ (ks'.flatten ++ u)).length - (ks'.flatten ++ u).length) = c := by
          have : (c ++ (ks'.flatten ++ u)).length - (ks'.flatten ++ u).length = c.length := by simp
          rw [this]; simp
        rw [e1]
        refine ⟨by simp [h1], by simp, fun z hz => ?_⟩
        rcases List.mem_cons.1 hz with rfl | hz
        · exact ⟨x, by simpa using hc [], by omega⟩
        · obtain ⟨y, h4, h5⟩ := h3 z hz
          exact ⟨y, h4, by omega⟩
end Go.Proofs.YtlheoipengndnabDoor
