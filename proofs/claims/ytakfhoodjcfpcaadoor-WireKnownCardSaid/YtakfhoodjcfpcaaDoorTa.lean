/- Terms as bytes: what is read of them. No program in sight. -/
import Derived.Lib.ParseIntB
import Derived.Lib.Bytealg
import Derived.Shelf.Small.Strs
import Derived.Shelf.Strconv.Itoa0
import Derived.Shelf.Strconv.ParseIntEmpty
import Derived.Shelf.LaysM
import Derived.Shelf.Strconv.Clone
import Derived.Shelf.Strconv.SyntaxError
import Derived.Shelf.LaysC
import Derived.Shelf.Strconv.ToError
import Derived.Shelf.Strconv.Lower
import Derived.Shelf.Strconv.ParseUint10
import Derived.Shelf.Strconv.ParseUint10Empty
import Derived.Shelf.Strconv.ParseUint10Any
import Derived.Shelf.Strconv.ParseInt10
import Derived.Shelf.Strconv.RangeError
import Derived.Shelf.Strconv.ToErrorRange
import Derived.Shelf.Strconv.ParseUintEmpty
import Derived.Shelf.Strconv.ParseUint10b64
import Derived.Shelf.Strconv.ParseUint10b32
import Derived.Shelf.Strconv.ParseUint10b16
import Derived.Shelf.Strconv.ParseUint10b8
import Derived.Shelf.Strconv.ParseUint10At
import Derived.Shelf.Strconv.ParseInt10At64
import Derived.Shelf.Strconv.ParseInt10At32
import Derived.Shelf.Strconv.ParseInt10At16
import Derived.Shelf.Strconv.ParseInt10At8
import Derived.Shelf.Strconv.ParseInt10All
import Derived.Shelf.Strconv.ParseIntPublic10
import Derived.Shelf.Strconv.ErrVarParseInt
import Derived.Shelf.Strings.Search1
import Derived.WalkKit
import Derived.WalkSpells
import Derived.WalkLawsBesides
import Derived.Handy
import Derived.Lib.Hide
import Derived.Deep.QuietTactic
import Derived.BigQuiet
import Derived.Deep.RegionHeld3
import Derived.Lib.Strings
import Derived.Lib.IndexBytes
import Derived.BigRegion
import Derived.Deep.RegionLaw
import Derived.Deep.AppendLies
import Derived.Deep.LoopGhost
import Derived.Deep.Onto
import Derived.Deep.WholeRow
import Derived.Deep.CutRange
import Derived.Test.YtakfhoodjcfpcaaDoorRows
import Derived.Test.YtakfhoodjcfpcaaDoorProg
import Derived.Test.YtakfhoodjcfpcaaDoorTlA
import Derived.Test.YtakfhoodjcfpcaaDoorTlF
import Derived.Test.YtakfhoodjcfpcaaDoorTlG
import Derived.Test.YtakfhoodjcfpcaaDoorTlH
import Derived.Test.YtakfhoodjcfpcaaDoorTlI
import Derived.Test.YtakfhoodjcfpcaaDoorTlP
import Derived.Test.YtakfhoodjcfpcaaDoorTlU
import Derived.Test.YtakfhoodjcfpcaaDoorNum
import Derived.Test.YtakfhoodjcfpcaaDoorNumA
import Derived.Test.YtakfhoodjcfpcaaDoorNumB
import Derived.Test.YtakfhoodjcfpcaaDoorNumC
namespace Go.Proofs.YtakfhoodjcfpcaaDoor

/-- what was read of a term: its op, number, text, parts; how deep it is -/
structure Sh where
  op : UInt8
  n : Nat
  text : List UInt8
  kids : List (List UInt8)
  deep : Nat

def isPub (l : List UInt8) : Bool := match l with
  | c :: _ => c == 80 || c == 87 || c == 76
  | [] => false
/-- is a text of bytes above another? -/
def bytesLt : List UInt8 → List UInt8 → Bool
  | _, [] => false
  | [], _ :: _ => true
  | a :: l, b :: r => if a < b then true else if b < a then false else bytesLt l r
def nth (l : List (List UInt8)) (i : Nat) : List UInt8 := l.getD i []
def fitsB (op : UInt8) (ks : List (List UInt8)) : Bool :=
  if op = 80 then !((nth ks 0).headD 0 == 86) && !((nth ks 0).headD 0 == 75)
  else if op = 88 then !(bytesLt (nth ks 1) (nth ks 0))
  else if op = 87 then isPub (nth ks 0) && isPub (nth ks 1)
  else if op = 76 then isPub (nth ks 0)
  else true
def arity (op : UInt8) : Option Nat :=
  if op = 80 ∨ op = 72 then some 1
  else if op = 83 ∨ op = 66 ∨ op = 88 ∨ op = 68 ∨ op = 86 ∨ op = 87 ∨ op = 75 ∨ op = 76 then some 2
  else none

/-- so many parts, one behind the other; the deepest of them, and one more -/
def kidsP (p : List UInt8 → Option (Sh × List UInt8)) : Nat → List UInt8 → Option (List (List UInt8) × Nat × List UInt8)
  | 0, l => some ([], 1, l)
  | k + 1, l => match p l with
    | none => none
    | some (x, r) => match kidsP p k r with
      | none => none
      | some (ks, d, t) => some (l.take (l.length - r.length) :: ks, max (x.deep + 1) d, t)

/-- how many parts stand behind an op, and where -/
def many (op : UInt8) (r : List UInt8) : Option (Nat × List UInt8) :=
  if op = 84 then match num 58 r with
    | none => none
    | some (k, t) => if k ≤ 32 then some (k, t) else none
  else match arity op with
    | none => none
    | some k => some (k, r)

/-- the term that bytes begin with, at most so deep, and what stands behind it -/
def parse : Nat → List UInt8 → Option (Sh × List UInt8)
  | 0, _ => none
  | _ + 1, [] => none
  | room + 1, op :: r =>
    if op = 110 then match num 59 r with
      | none => none
      | some (n, t) => some (⟨op, n, [], [], 1⟩, t)
    else if op = 116 then match num 58 r with
      | none => none
      | some (n, t) => if n ≤ 4096 ∧ n ≤ t.length then some (⟨op, 0, t.take n, [], 1⟩, t.drop n) else none
    else match many op r with
      | none => none
      | some (k, t) => match kidsP (parse room) k t with
        | none => none
        | some (ks, d, u) => if fitsB op ks then some (⟨op, 0, [], ks, d⟩, u) else none

/-! ### what is read stands in front, and hangs on nothing behind it -/
/-- a reader that takes a piece off the front, and does not look behind it -/
def Front {α : Type} (p : List UInt8 → Option (α × List UInt8)) : Prop :=
  ∀ l x r, p l = some (x, r) → ∃ c, l = c ++ r ∧ ∀ z, p (c ++ z) = some (x, z)

theorem numTail_front (e : UInt8) : ∀ n, Front (numTail e n) := by
  intro n l
  induction l generalizing n with
  | nil => intro x r h; simp [numTail] at h
  | cons c l ih =>
    intro x r h
    simp only [numTail] at h
    split at h
    · rename_i hc
      cases h
      exact ⟨[c], rfl, fun z => by simp [numTail, hc]⟩
    · rename_i hc
      split at h
      · rename_i hd
        obtain ⟨d, rfl, hz⟩ := ih _ x r h
        refine ⟨c :: d, rfl, fun z => ?_⟩
        simp only [List.cons_append, numTail, if_neg hc, if_pos hd]
        exact hz z
      · cases h
theorem num_front (e : UInt8) : Front (num e) := by
  intro l x r h
  cases l with
  | nil => simp [num] at h
  | cons c l =>
    simp only [num] at h
    split at h
    · rename_i hd
      obtain ⟨d, rfl, hz⟩ := numTail_front e _ l x r h
      refine ⟨c :: d, rfl, fun z => ?_⟩
      simp only [List.cons_append, num, if_pos hd]
      exact hz z
    · cases h

theorem kids_front (p : List UInt8 → Option (Sh × List UInt8)) (hp : Front p) : ∀ k, ∀ l ks d r, kidsP p k l = some (ks, d, r) → ∃ c, l = c ++ r ∧ ∀ z, kidsP p k (c ++ z) = some (ks, d, z) := by
  intro k
  induction k with
  | zero =>
    intro l ks d r h
    simp only [kidsP, Option.some.injEq, Prod.mk.injEq] at h
    obtain ⟨rfl, rfl, rfl⟩ := h
    exact ⟨[], rfl, fun z => rfl⟩
  | succ k ih =>
    intro l ks d r h
    simp only [kidsP] at h
    split at h
    · cases h
    · rename_i x t hx
      split at h
      · cases h
      · rename_i ks' d' u hk
        simp only [Option.some.injEq, Prod.mk.injEq] at h
        obtain ⟨rfl, rfl, rfl⟩ := h
        obtain ⟨c, rfl, hc⟩ := hp l x t hx
        obtain ⟨c', rfl, hc'⟩ := ih t ks' d' u hk
        refine ⟨c ++ c', by simp, fun z => ?_⟩
        have e1 : (c ++ (c' ++ u)).length - (c' ++ u).length = c.length := by simp
        have e2 : (c ++ (c' ++ z)).length - (c' ++ z).length = c.length := by simp
        simp only [List.append_assoc, kidsP, hc (c' ++ z), hc' z, e1, e2]
        simp

theorem many_front (op : UInt8) : Front (many op) := by
  intro l x r h
  unfold many at h ⊢
  split at h
  · rename_i hop
    split at h
    · cases h
    · rename_i k t hk
      split at h
      · rename_i h32
        cases h
        obtain ⟨c, rfl, hc⟩ := num_front 58 l _ _ hk
        refine ⟨c, rfl, fun z => ?_⟩
        simp only [if_pos hop, hc z, if_pos h32]
      · cases h
  · rename_i hop
    split at h
    · cases h
    · rename_i k hk
      cases h
      exact ⟨[], rfl, fun z => by simp only [if_neg hop, List.nil_append]⟩

theorem parse_front : ∀ room, Front (parse room) := by
  intro room
  induction room with
  | zero => intro l x r h; simp [parse] at h
  | succ room ih =>
    intro l x r h
    cases l with
    | nil => simp [parse] at h
    | cons op l =>
      simp only [parse] at h
      split at h
      · rename_i h1
        split at h
        · cases h
        · rename_i n t hn
          cases h
          obtain ⟨c, rfl, hc⟩ := num_front 59 l _ _ hn
          refine ⟨op :: c, rfl, fun z => ?_⟩
          simp only [List.cons_append, parse, if_pos h1, hc z]
      · rename_i h1
        split at h
        · rename_i h2
          split at h
          · cases h
          · rename_i n t hn
            split at h
            · rename_i hb
              cases h
              obtain ⟨c, rfl, hc⟩ := num_front 58 l n t hn
              refine ⟨op :: (c ++ t.take n), by simp, fun z => ?_⟩
              have hl : (t.take n).length = n := by rw [List.length_take]; omega
              simp only [List.cons_append, List.append_assoc, parse, if_neg h1, if_pos h2, hc (t.take n ++ z)]
              rw [if_pos ⟨hb.1, by rw [List.length_append]; omega⟩]
              congr 3
              · rw [List.take_append_of_le_length (by omega), List.take_take, Nat.min_self]
              · rw [List.drop_append_of_le_length (by omega), List.drop_of_length_le (by omega), List.nil_append]
            · cases h
        · rename_i h2
          split at h
          · cases h
          · rename_i k t hk
            split at h
            · cases h
            · rename_i ks d u hu
              split at h
              · rename_i hf
                cases h
                obtain ⟨c, rfl, hc⟩ := many_front op l _ _ hk
                obtain ⟨c', rfl, hc'⟩ := kids_front (parse room) ih k _ _ _ _ hu
                refine ⟨op :: (c ++ c'), by simp, fun z => ?_⟩
                simp only [List.cons_append, List.append_assoc, parse, if_neg h1, if_neg h2, hc (c' ++ z), hc' z, if_pos hf]
              · cases h

/-- what is read of a term is not nothing -/
theorem parse_cons {room : Nat} {l : List UInt8} {x : Sh} {r : List UInt8} (h : parse room l = some (x, r)) : ∃ c, l = x.op :: (c ++ r) := by
  obtain ⟨c, hl, hz⟩ := parse_front room l x r h
  cases room with
  | zero => simp [parse] at h
  | succ room =>
    have h0 := hz []
    cases c with
    | nil => simp [parse] at h0
    | cons op c =>
      refine ⟨c, ?_⟩
      rw [hl]
      have : x.op = op := by
        simp only [List.cons_append, parse] at h0
        repeat' split at h0
        all_goals first | (simp only [Option.some.injEq, Prod.mk.injEq] at h0; rw [← h0.1]) | cases h0
      rw [this]; rfl
/-! ### how deep -/
theorem kids_mono (p q : List UInt8 → Option (Sh × List UInt8)) (hpq : ∀ l y, p l = some y → q l = some y) : ∀ k l y, kidsP p k l = some y → kidsP q k l = some y := by
  intro k
  induction k with
  | zero => intro l y h; exact h
  | succ k ih =>
    intro l y h
    simp only [kidsP] at h ⊢
    split at h
    · cases h
    · rename_i x t hx
      split at h
      · cases h
      · rename_i ks d u hk
        rw [hpq _ _ hx]
        simp only [ih _ _ hk]
        exact h
theorem parse_mono : ∀ room l y, parse room l = some y → parse (room + 1) l = some y := by
  intro room
  induction room with
  | zero => intro l y h; simp [parse] at h
  | succ room ih =>
    intro l y h
    cases l with
    | nil => simp [parse] at h
    | cons op l =>
      rw [parse] at h ⊢
      split
      · rename_i h1; rw [if_pos h1] at h; exact h
      · rename_i h1
        rw [if_neg h1] at h
        split
        · rename_i h2; rw [if_pos h2] at h; exact h
        · rename_i h2
          rw [if_neg h2] at h
          split at h
          · cases h
          · rename_i k t hk
            split at h
            · cases h
            · rename_i ks d u hu
              simp only [kids_mono _ _ ih _ _ _ hu]
              exact h
theorem parse_le {a b : Nat} (hab : a ≤ b) {l : List UInt8} {y : Sh × List UInt8} (h : parse a l = some y) : parse b l = some y := by
  induction hab with
  | refl => exact h
  | step _ ih => exact parse_mono _ _ _ ih
theorem kids_deep (room : Nat) (hp : ∀ l x r, parse room l = some (x, r) → 1 ≤ x.deep ∧ x.deep ≤ room ∧ parse x.deep l = some (x, r)) :
    ∀ k l ks d r, kidsP (parse room) k l = some (ks, d, r) → 1 ≤ d ∧ d ≤ room + 1 ∧ kidsP (parse (d - 1)) k l = some (ks, d, r) := by
  intro k
  induction k with
  | zero =>
    intro l ks d r h
    simp only [kidsP, Option.some.injEq, Prod.mk.injEq] at h
    obtain ⟨rfl, rfl, rfl⟩ := h
    exact ⟨Nat.le_refl _, by omega, rfl⟩
  | succ k ih =>
    intro l ks d r h
    simp only [kidsP] at h
    split at h
    · cases h
    · rename_i x t hx
      split at h
      · cases h
      · rename_i ks' d' u hk
        simp only [Option.some.injEq, Prod.mk.injEq] at h
        obtain ⟨rfl, rfl, rfl⟩ := h
        obtain ⟨h1, h2, h3⟩ := hp _ _ _ hx
        obtain ⟨h4, h5, h6⟩ := ih _ _ _ _ hk
        refine ⟨by omega, by omega, ?_⟩
        have e1 : parse (max (x.deep + 1) d' - 1) l = some (x, t) := parse_le (by omega) h3
        have e2 : kidsP (parse (max (x.deep + 1) d' - 1)) k t = some (ks', d', u) := kids_mono _ _ (fun l y h => parse_le (by omega) h) _ _ _ h6
        simp only [kidsP, e1, e2]
theorem parse_deep : ∀ room l x r, parse room l = some (x, r) → 1 ≤ x.deep ∧ x.deep ≤ room ∧ parse x.deep l = some (x, r) := by
  intro room
  induction room with
  | zero => intro l x r h; simp [parse] at h
  | succ room ih =>
    intro l x r h
    cases l with
    | nil => simp [parse] at h
    | cons op l =>
      have h0 := h
      simp only [parse] at h
      split at h
      · rename_i h1
        split at h
        · cases h
        · rename_i n t hn
          simp only [Option.some.injEq, Prod.mk.injEq] at h
          obtain ⟨rfl, rfl⟩ := h
          refine ⟨Nat.le_refl _, by simp, ?_⟩
          simp only [parse, if_pos h1, hn]
      · rename_i h1
        split at h
        · rename_i h2
          split at h
          · cases h
          · rename_i n t hn
            split at h
            · rename_i hb
              simp only [Option.some.injEq, Prod.mk.injEq] at h
              obtain ⟨rfl, rfl⟩ := h
              refine ⟨Nat.le_refl _, by simp, ?_⟩
              simp only [parse, if_neg h1, if_pos h2, hn, if_pos hb]
            · cases h
        · rename_i h2
          split at h
          · cases h
          · rename_i k t hk
            split at h
            · cases h
            · rename_i ks d u hu
              split at h
              · rename_i hf
                simp only [Option.some.injEq, Prod.mk.injEq] at h
                obtain ⟨rfl, rfl⟩ := h
                obtain ⟨h4, h5, h6⟩ := kids_deep room ih _ _ _ _ _ hu
                refine ⟨h4, h5, ?_⟩
                obtain ⟨d, rfl⟩ : ∃ e, d = e + 1 := ⟨d - 1, by omega⟩
                rw [Nat.add_sub_cancel] at h6
                simp only [parse, if_neg h1, if_neg h2, hk, h6, if_pos hf]
              · cases h
/-- a reader's parts are right terms of their own -/
theorem kids_each (p : List UInt8 → Option (Sh × List UInt8)) (hp : Front p) : ∀ k l ks d r, kidsP p k l = some (ks, d, r) → ks.length = k ∧ l = ks.flatten ++ r ∧ ∀ c ∈ ks, ∃ x, p c = some (x, []) ∧ x.deep + 1 ≤ d := by
  intro k
  induction k with
  | zero =>
    intro l ks d r h
    simp only [kidsP, Option.some.injEq, Prod.mk.injEq] at h
    obtain ⟨rfl, rfl, rfl⟩ := h
    exact ⟨rfl, rfl, fun c hc => by cases hc⟩
  | succ k ih =>
    intro l ks d r h
    simp only [kidsP] at h
    split at h
    · cases h
    · rename_i x t hx
      split at h
      · cases h
      · rename_i ks' d' u hk
        simp only [Option.some.injEq, Prod.mk.injEq] at h
        obtain ⟨rfl, rfl, rfl⟩ := h
        obtain ⟨c, rfl, hc⟩ := hp l x t hx
        obtain ⟨h1, rfl, h3⟩ := ih _ _ _ _ hk
        have e1 : (c ++ (ks'.flatten ++ u)).take ((c ++ (ks'.flatten ++ u)).length - (ks'.flatten ++ u).length) = c := by
          have : (c ++ (ks'.flatten ++ u)).length - (ks'.flatten ++ u).length = c.length := by simp
          rw [this]; simp
        rw [e1]
        refine ⟨by simp [h1], by simp, fun z hz => ?_⟩
        rcases List.mem_cons.1 hz with rfl | hz
        · exact ⟨x, by simpa using hc [], by omega⟩
        · obtain ⟨y, h4, h5⟩ := h3 z hz
          exact ⟨y, h4, by omega⟩
end Go.Proofs.YtakfhoodjcfpcaaDoor
namespace Go.Proofs.YtakfhoodjcfpcaaDoor
open Go.RowKit

/-- of what was there, nothing has turned but the blocks of S -/
structure Fr (S : Nat → Prop) (w w' : World) : Prop where
  os : w'.os = w.os
  tape : w'.tape = w.tape
  output : w'.output = w.output
  size : w.heap.size ≤ w'.heap.size
  block : ∀ k, k < w.heap.size → ¬ S k → w'.heap[k]? = w.heap[k]?
theorem Fr.refl (S : Nat → Prop) (w : World) : Fr S w w := ⟨rfl, rfl, rfl, Nat.le_refl _, fun _ _ _ => rfl⟩
theorem Fr.trans {S : Nat → Prop} {a b c : World} (h : Fr S a b) (k : Fr S b c) : Fr S a c :=
  ⟨k.os.trans h.os, k.tape.trans h.tape, k.output.trans h.output, Nat.le_trans h.size k.size, fun i hi hr => (k.block i (Nat.lt_of_lt_of_le hi h.size) hr).trans (h.block i hi hr)⟩
theorem Fr.weak {S T : Nat → Prop} {a b : World} (h : Fr S a b) (hst : ∀ k, k < a.heap.size → S k → T k) : Fr T a b := ⟨h.os, h.tape, h.output, h.size, fun k hk hn => h.block k hk (fun s => hn (hst k hk s))⟩
theorem Fr.below {S : Nat → Prop} {a b : World} (h : Below a.heap.size a b) : Fr S a b := ⟨h.os, h.tape, h.output, h.size, fun k hk _ => h.block k hk⟩
theorem Fr.grown {S : Nat → Prop} {a b : World} {rb : Nat} (h : a.grownBy b (some rb)) (hs : S rb) : Fr S a b := ⟨h.os, h.tape, h.output, h.size, fun k hk hn => h.block k hk (fun e => by cases e; exact hn hs)⟩
theorem Fr.set {S : Nat → Prop} {a b : World} (h : Fr S a b) (rb o : Nat) (v : Value) (hs : S rb) : Fr S a (b.setCell ⟨rb, o, none⟩ v) :=
  h.trans ⟨rfl, rfl, rfl, by simp [World.setCell], fun k _ hr => Below.heap_setCell _ _ _ _ (fun e => hr (by rw [e]; exact hs))⟩
theorem Fr.drewN {S : Nat → Prop} {a b : World} (h : Fr S a b) (n : Nat) : Fr S a (b.drewN n) := h.trans (Fr.below (drewN_same b n).1)
theorem Fr.alloc {S : Nat → Prop} {a b : World} (h : Fr S a b) (o : Obj) : Fr S a (b.alloc o) := h.trans (Fr.below ((Below.refl _ _).alloc (Nat.le_refl _) o))
theorem Fr.toBelow {a b : World} (h : Fr (fun _ => False) a b) : Below a.heap.size a b := ⟨h.os, h.tape, h.output, h.size, fun k hk => h.block k hk (fun x => x)⟩
theorem Rd.fr {S : Nat → Prop} {rb : Nat} {s : ByteArray} {z : Int} {w w' : World} (h : Rd rb s z w) (hb : Fr S w w') (hs : ¬ S rb) : Rd rb s z w' := by
  rw [Rd, hb.block rb h.lt hs]; exact h
theorem LibOk.fr {S : Nat → Prop} {w w' : World} (h : LibOk w) (hb : Fr S w w') (h4 : ¬ S 1) (h5 : ¬ S 2) : LibOk w' := fun g hg => by
  obtain ⟨ev, h1, h2⟩ := h g hg
  refine ⟨ev, ?_, h2⟩
  rw [World.cell?_of_block (hb.block g (World.block_lt_of_cell? w ⟨g, 0, none⟩ h1) (by rcases hg with rfl | rfl <;> assumption))]
  exact h1

/-- what is being read of a term lies in block xb -/
def Xs (xb : Nat) (op n : Int) (t : ByteArray) (kv : Value) (d : Int) (w : World) : Prop := w.heap[xb]? = some (.cells #[.int .u8 op, .int .i64 n, .string t, kv, .int .i64 d] 102 (0, 0))
theorem Xs.lt {xb : Nat} {op n : Int} {t : ByteArray} {kv : Value} {d : Int} {w : World} (h : Xs xb op n t kv d w) : xb < w.heap.size := by
  rcases Nat.lt_or_ge xb w.heap.size with g | g
  · exact g
  · rw [Xs, Array.getElem?_eq_none g] at h; cases h
theorem Xs.fr {S : Nat → Prop} {xb : Nat} {op n : Int} {t : ByteArray} {kv : Value} {d : Int} {w w' : World} (h : Xs xb op n t kv d w) (hb : Fr S w w') (hs : ¬ S xb) : Xs xb op n t kv d w' := by
  rw [Xs, hb.block xb h.lt hs]; exact h
theorem Xs.f {xb : Nat} {op n : Int} {t : ByteArray} {kv : Value} {d : Int} {w : World} (h : Xs xb op n t kv d w) (o : Nat) : w.frozen? ⟨xb, o, none⟩ = false := by simp [World.frozen?, show w.heap[xb]? = _ from h]
theorem Xs.c {xb : Nat} {op n : Int} {t : ByteArray} {kv : Value} {d : Int} {w : World} (h : Xs xb op n t kv d w) :
    w.cell? ⟨xb, 0, none⟩ = some (.int .u8 op) ∧ w.cell? ⟨xb, 1, none⟩ = some (.int .i64 n) ∧ w.cell? ⟨xb, 2, none⟩ = some (.string t) ∧ w.cell? ⟨xb, 3, none⟩ = some kv ∧ w.cell? ⟨xb, 4, none⟩ = some (.int .i64 d) := by
  simp [World.cell?, show w.heap[xb]? = _ from h]
theorem Xs.setN {xb : Nat} {op n : Int} {t : ByteArray} {kv : Value} {d : Int} {w : World} (h : Xs xb op n t kv d w) (m : Int) : Xs xb op m t kv d (w.setCell ⟨xb, 1, none⟩ (.int .i64 m)) := by
  rw [Xs] at h ⊢; simp [World.setCell, Array.getElem?_modify, h]
theorem Xs.setT {xb : Nat} {op n : Int} {t : ByteArray} {kv : Value} {d : Int} {w : World} (h : Xs xb op n t kv d w) (m : ByteArray) : Xs xb op n m kv d (w.setCell ⟨xb, 2, none⟩ (.string m)) := by
  rw [Xs] at h ⊢; simp [World.setCell, Array.getElem?_modify, h]
theorem Xs.setK {xb : Nat} {op n : Int} {t : ByteArray} {kv : Value} {d : Int} {w : World} (h : Xs xb op n t kv d w) (m : Value) : Xs xb op n t m d (w.setCell ⟨xb, 3, none⟩ m) := by
  rw [Xs] at h ⊢; simp [World.setCell, Array.getElem?_modify, h]
theorem Xs.setD {xb : Nat} {op n : Int} {t : ByteArray} {kv : Value} {d : Int} {w : World} (h : Xs xb op n t kv d w) (m : Int) : Xs xb op n t kv m (w.setCell ⟨xb, 4, none⟩ (.int .i64 m)) := by
  rw [Xs] at h ⊢; simp [World.setCell, Array.getElem?_modify, h]
theorem Rd.setX {rb : Nat} {s : ByteArray} {z : Int} {w : World} (h : Rd rb s z w) {xb : Nat} (hx : xb ≠ rb) (o : Nat) (v : Value) : Rd rb s z (w.setCell ⟨xb, o, none⟩ v) := by
  rw [Rd, Below.heap_setCell _ _ _ _ (fun e => hx (by simpa using e.symm))]; exact h
theorem Xs.setR {xb : Nat} {op n : Int} {t : ByteArray} {kv : Value} {d : Int} {w : World} (h : Xs xb op n t kv d w) {rb : Nat} (hx : xb ≠ rb) (o : Nat) (v : Value) : Xs xb op n t kv d (w.setCell ⟨rb, o, none⟩ v) := by
  rw [Xs, Below.heap_setCell _ _ _ _ (fun e => hx (by simpa using e))]; exact h

def Two (rb xb : Nat) (k : Nat) : Prop := k = rb ∨ k = xb
/-- it was refused: the reader and what was being read hold something -/
def FailPost (rb xb : Nat) (s : ByteArray) (op : Int) (w : World) (e : Ending) (w' : World) : Prop :=
  e = .returned (.bool false) ∧ Fr (Two rb xb) w w' ∧ ∃ (z n d : Int) (t : ByteArray) (kv : Value), Rd rb s z w' ∧ Xs xb op n t kv d w'
def NamePost (rb xb : Nat) (s : ByteArray) (op : Int) (n : Nat) (a : Nat) (t : ByteArray) (kv : Value) (d : Int) (w : World) (e : Ending) (w' : World) : Prop :=
  e = .returned (.bool true) ∧ Fr (Two rb xb) w w' ∧ Rd rb s a w' ∧ Xs xb op n t kv d w'

set_option maxRecDepth 100000 in
set_option maxHeartbeats 1000000 in
theorem name_no (rb xb at_ : Nat) (s : ByteArray) (op n d : Int) (t : ByteArray) (kv room : Value) (w : World) (hs : s.size ≤ 16384) (ha : at_ ≤ s.size) (hR : Rd rb s at_ w) (hX : Xs xb op n t kv d w) (hL : LibOk w) (hne : xb ≠ rb)
    (hn : num 59 (s.data.toList.drop at_) = none) :
    Calls Tryd.prog 73 #[.pointer (some ⟨rb, 0, none⟩), .pointer (some ⟨xb, 0, none⟩), room] w (FailPost rb xb s op w) := by
  have HC := Lib.hid (number_any rb at_ s 59 59 rfl (by decide) w hs ha hR hL)
  have HN := Lib.hid hn; have HX := Lib.hid hX; clear hn hX hR
  go_enter Tryd.func73, Tryd.ntmps73
  go_wp2_with (go_at_call 79; (with_reducible refine Calls.mono HC.out ?_); rintro e w1 ⟨hg, ⟨z, hz⟩, hno, _⟩; obtain ⟨m, rfl⟩ := hno HN.out; clear hno; have hx1 := HX.out.fr (Fr.grown (S := fun k => k = rb) hg rfl) (fun h => hne h); have hxc := hx1.c.2.1; have hxf := hx1.f 1; have HX1 := Lib.hid hx1; have HG := Lib.hid hg; have HZ := Lib.hid hz; clear hx1 hg hz)
  go_ret
  exact ⟨rfl, (Fr.grown HG.out (.inl rfl)).set _ _ _ (.inr rfl), z, m, d, t, kv, HZ.out.setX hne _ _, HX1.out.setN m⟩
set_option maxRecDepth 100000 in
set_option maxHeartbeats 1000000 in
theorem name_yes (rb xb at_ : Nat) (s : ByteArray) (op n d : Int) (t : ByteArray) (kv room : Value) (w : World) (hs : s.size ≤ 16384) (ha : at_ ≤ s.size) (hR : Rd rb s at_ w) (hX : Xs xb op n t kv d w) (hL : LibOk w) (hne : xb ≠ rb)
    (m : Nat) (rest : List UInt8) (hn : num 59 (s.data.toList.drop at_) = some (m, rest)) :
    Calls Tryd.prog 73 #[.pointer (some ⟨rb, 0, none⟩), .pointer (some ⟨xb, 0, none⟩), room] w fun e w' => ∃ a : Nat, a ≤ s.size ∧ s.data.toList.drop a = rest ∧ NamePost rb xb s op m a t kv d w e w' := by
  have HC := Lib.hid (number_any rb at_ s 59 59 rfl (by decide) w hs ha hR hL)
  have HN := Lib.hid hn; have HX := Lib.hid hX; clear hn hX hR
  go_enter Tryd.func73, Tryd.ntmps73
  go_wp2_with (go_at_call 79; (with_reducible refine Calls.mono HC.out ?_); rintro e w1 ⟨hg, _, _, hyes⟩; obtain ⟨rfl, a, ha', hz, hd⟩ := hyes _ _ HN.out; clear hyes; have hx1 := HX.out.fr (Fr.grown (S := fun k => k = rb) hg rfl) (fun h => hne h); have hxc := hx1.c.2.1; have hxf := hx1.f 1; have HX1 := Lib.hid hx1; have HG := Lib.hid hg; have HZ := Lib.hid hz; have HD := Lib.hid hd; clear hx1 hg hz hd)
  go_ret
  exact ⟨a, ha', HD.out, rfl, (Fr.grown HG.out (.inl rfl)).set _ _ _ (.inr rfl), HZ.out.setX hne _ _, HX1.out.setN m⟩
end Go.Proofs.YtakfhoodjcfpcaaDoor
namespace Go.Proofs.YtakfhoodjcfpcaaDoor
open Go.RowKit

set_option maxRecDepth 100000 in
set_option maxHeartbeats 1000000 in
theorem text_no (rb xb at_ : Nat) (s : ByteArray) (op n d : Int) (t : ByteArray) (kv room : Value) (w : World) (hs : s.size ≤ 16384) (ha : at_ ≤ s.size) (hR : Rd rb s at_ w) (hX : Xs xb op n t kv d w) (hL : LibOk w) (hne : xb ≠ rb)
    (hn : num 58 (s.data.toList.drop at_) = none) :
    Calls Tryd.prog 74 #[.pointer (some ⟨rb, 0, none⟩), .pointer (some ⟨xb, 0, none⟩), room] w (FailPost rb xb s op w) := by
  have HC := Lib.hid (number_any rb at_ s 58 58 rfl (by decide) w hs ha hR hL)
  have HN := Lib.hid hn; have HX := Lib.hid hX; clear hn hX hR
  go_enter Tryd.func74, Tryd.ntmps74
  go_wp2_with (go_at_call 79; (with_reducible refine Calls.mono HC.out ?_); rintro e w1 ⟨hg, ⟨z, hz⟩, hno, _⟩; obtain ⟨m, rfl⟩ := hno HN.out; clear hno; have hx1 := HX.out.fr (Fr.grown (S := fun k => k = rb) hg rfl) (fun h => hne h); have HX1 := Lib.hid hx1; have HG := Lib.hid hg; have HZ := Lib.hid hz; clear hx1 hg hz)
  go_quiet (fail)
  go_wp2
  go_ret
  exact ⟨rfl, (Fr.grown HG.out (.inl rfl)).drewN _, z, n, d, t, kv, HZ.out.below (drewN_same _ _).1, HX1.out.fr (Fr.below (S := fun _ => False) (drewN_same _ _).1) (fun h => h)⟩
set_option maxRecDepth 100000 in
set_option maxHeartbeats 1000000 in
theorem text_many (rb xb at_ : Nat) (s : ByteArray) (op n d : Int) (t : ByteArray) (kv room : Value) (w : World) (hs : s.size ≤ 16384) (ha : at_ ≤ s.size) (hR : Rd rb s at_ w) (hX : Xs xb op n t kv d w) (hL : LibOk w) (hne : xb ≠ rb)
    (m : Nat) (rest : List UInt8) (hn : num 58 (s.data.toList.drop at_) = some (m, rest)) (hm : (4096 : Int) < m) :
    Calls Tryd.prog 74 #[.pointer (some ⟨rb, 0, none⟩), .pointer (some ⟨xb, 0, none⟩), room] w (FailPost rb xb s op w) := by
  have HC := Lib.hid (number_any rb at_ s 58 58 rfl (by decide) w hs ha hR hL)
  have HN := Lib.hid hn; have HX := Lib.hid hX; clear hn hX hR
  have q1 := decB (4096 < (m : Int)) hm
  go_enter Tryd.func74, Tryd.ntmps74
  go_wp2_with (go_at_call 79; (with_reducible refine Calls.mono HC.out ?_); rintro e w1 ⟨hg, _, _, hyes⟩; obtain ⟨rfl, a, ha', hz, hd⟩ := hyes _ _ HN.out; clear hyes; have hx1 := HX.out.fr (Fr.grown (S := fun k => k = rb) hg rfl) (fun h => hne h); have hxc := hx1.c.2.2.1; have hxf := hx1.f 2; have hzc0 := hz.c0; have hzc1 := hz.c1; have hzf := hz.f 1; have HX1 := Lib.hid hx1; have HG := Lib.hid hg; have HZ := Lib.hid hz; have HD := Lib.hid hd; clear hx1 hg hz hd)
  go_quiet (fail)
  go_wp2
  go_ret
  exact ⟨rfl, (Fr.grown HG.out (.inl rfl)).drewN _, a, n, d, t, kv, HZ.out.below (drewN_same _ _).1, HX1.out.fr (Fr.below (S := fun _ => False) (drewN_same _ _).1) (fun h => h)⟩
set_option maxRecDepth 100000 in
set_option maxHeartbeats 1000000 in
theorem text_short (rb xb at_ : Nat) (s : ByteArray) (op n d : Int) (t : ByteArray) (kv room : Value) (w : World) (hs : s.size ≤ 16384) (ha : at_ ≤ s.size) (hR : Rd rb s at_ w) (hX : Xs xb op n t kv d w) (hL : LibOk w) (hne : xb ≠ rb)
    (m : Nat) (rest : List UInt8) (hn : num 58 (s.data.toList.drop at_) = some (m, rest)) (hm : (m : Int) ≤ 4096) (hr : rest.length < m) :
    Calls Tryd.prog 74 #[.pointer (some ⟨rb, 0, none⟩), .pointer (some ⟨xb, 0, none⟩), room] w (FailPost rb xb s op w) := by
  have HC := Lib.hid (number_any rb at_ s 58 58 rfl (by decide) w hs ha hR hL)
  have HN := Lib.hid hn; have HX := Lib.hid hX; clear hn hX hR
  have q1 := decN (4096 < (m : Int)) (by omega)
  have hsz : s.data.toList.length = s.size := by show s.data.toList.length = s.data.size; rw [Array.length_toList]
  have HS := Lib.hid hsz; clear hsz
  go_enter Tryd.func74, Tryd.ntmps74
  go_wp2_with (go_at_call 79; (with_reducible refine Calls.mono HC.out ?_); rintro e w1 ⟨hg, _, _, hyes⟩; obtain ⟨rfl, a, ha', hz, hd⟩ := hyes _ _ HN.out; clear hyes; have hx1 := HX.out.fr (Fr.grown (S := fun k => k = rb) hg rfl) (fun h => hne h); have hxc := hx1.c.2.2.1; have hxf := hx1.f 2; have hzc0 := hz.c0; have hzc1 := hz.c1; have hzf := hz.f 1; have HX1 := Lib.hid hx1; have HG := Lib.hid hg; have HZ := Lib.hid hz; have HD := Lib.hid hd; clear hx1 hg hz hd; have q2 : decide ((s.size : Int) - (a : Int) < (m : Int)) = true := decB _ (by rw [← HD.out, List.length_drop, HS.out] at hr; omega))
  go_quiet (fail)
  go_wp2
  go_ret
  exact ⟨rfl, (Fr.grown HG.out (.inl rfl)).drewN _, a, n, d, t, kv, HZ.out.below (drewN_same _ _).1, HX1.out.fr (Fr.below (S := fun _ => False) (drewN_same _ _).1) (fun h => h)⟩
set_option maxRecDepth 100000 in
set_option maxHeartbeats 1000000 in
theorem text_yes (rb xb at_ : Nat) (s : ByteArray) (op n d : Int) (t : ByteArray) (kv room : Value) (w : World) (hs : s.size ≤ 16384) (ha : at_ ≤ s.size) (hR : Rd rb s at_ w) (hX : Xs xb op n t kv d w) (hL : LibOk w) (hne : xb ≠ rb)
    (m : Nat) (rest : List UInt8) (hn : num 58 (s.data.toList.drop at_) = some (m, rest)) (hm : (m : Int) ≤ 4096) (hr : m ≤ rest.length) :
    Calls Tryd.prog 74 #[.pointer (some ⟨rb, 0, none⟩), .pointer (some ⟨xb, 0, none⟩), room] w fun e w' => ∃ (a : Nat) (u : ByteArray), a ≤ s.size ∧ s.data.toList.drop a = rest.drop m ∧ u.data.toList = rest.take m ∧ e = .returned (.bool true) ∧ Fr (Two rb xb) w w' ∧ Rd rb s a w' ∧ Xs xb op n u kv d w' := by
  have HC := Lib.hid (number_any rb at_ s 58 58 rfl (by decide) w hs ha hR hL)
  have HN := Lib.hid hn; have HX := Lib.hid hX; clear hn hX hR
  have q1 := decN (4096 < (m : Int)) (by omega)
  have hsz : s.data.toList.length = s.size := by show s.data.toList.length = s.data.size; rw [Array.length_toList]
  have HS := Lib.hid hsz; clear hsz
  go_enter Tryd.func74, Tryd.ntmps74
  go_wp2_with (go_at_call 79; (with_reducible refine Calls.mono HC.out ?_); rintro e w1 ⟨hg, _, _, hyes⟩; obtain ⟨rfl, a, ha', hz, hd⟩ := hyes _ _ HN.out; clear hyes; have hx1 := HX.out.fr (Fr.grown (S := fun k => k = rb) hg rfl) (fun h => hne h); have hxc := hx1.c.2.2.1; have hxf := hx1.f 2; have hzc0 := hz.c0; have hzc1 := hz.c1; have hzf := hz.f 1; have HX1 := Lib.hid hx1; have HG := Lib.hid hg; have HZ := Lib.hid hz; have HD := Lib.hid hd; clear hx1 hg hz hd; have hle : a + m ≤ s.size := (by rw [← HD.out, List.length_drop, HS.out] at hr; omega); have q2 : decide ((s.size : Int) - (a : Int) < (m : Int)) = false := decN _ (by omega))
  go_quiet (fail)
  have b1 : (0 : Int) ≤ (a : Int) := by omega
  have b2 : (a : Int) + (m : Int) ≤ (s.size : Int) := by omega
  have b3 : IntKind.i64.wrap ((a : Int) + (m : Int)) = (a : Int) + (m : Int) := IntWalk.i64_in _ (by omega)
  have b4 : ((a : Int) + (m : Int)).toNat = a + m := by omega
  have b5 : (a : Int) ≤ (a : Int) + (m : Int) := by omega
  have b6 : a ≤ a + m := by omega
  have b8 : (0 : Int) ≤ (a : Int) + (m : Int) := by omega
  go_wp2_with fail
  go_region
  go_wp2
  go_ret
  refine ⟨a + m, s.extract a (a + m), hle, ?_, ?_, rfl, ?_, ?_, ?_⟩
  · rw [← HD.out, List.drop_drop]
  · rw [Lib.extract_data, HD.out]; congr 1; omega
  · exact (((Fr.grown HG.out (.inl rfl)).drewN _).set _ _ _ (.inr rfl)).set _ _ _ (.inl rfl)
  · rw [show ((a + m : Nat) : Int) = (a : Int) + (m : Int) by omega]
    exact ((HZ.out.below (drewN_same _ _).1).setX hne _ _).set _
  · exact ((HX1.out.fr (Fr.below (S := fun _ => False) (drewN_same _ _).1) (fun h => h)).setT _).setR hne _ _

end Go.Proofs.YtakfhoodjcfpcaaDoor
namespace Go.Proofs.YtakfhoodjcfpcaaDoor
open Go.RowKit

/-- the parts, from the first on -/
def kidsF (p : List UInt8 → Option (Sh × List UInt8)) : Nat → List (List UInt8) → Nat → List UInt8 → Option (List (List UInt8) × Nat × List UInt8)
  | 0, acc, d, l => some (acc, d, l)
  | k + 1, acc, d, l => match p l with
    | none => none
    | some (x, r) => kidsF p k (acc ++ [l.take (l.length - r.length)]) (max d (x.deep + 1)) r
theorem kidsF_eq (p : List UInt8 → Option (Sh × List UInt8)) : ∀ k acc d l, 1 ≤ d → kidsF p k acc d l = match kidsP p k l with
    | none => none
    | some (ks, e, t) => some (acc ++ ks, max d e, t) := by
  intro k
  induction k with
  | zero =>
    intro acc d l hd
    have : max d 1 = d := by omega
    simp only [kidsF, kidsP, List.append_nil, this]
  | succ k ih =>
    intro acc d l hd
    simp only [kidsF, kidsP]
    cases hp : p l with
    | none => rfl
    | some y =>
      obtain ⟨x, r⟩ := y
      simp only []
      rw [ih _ _ _ (by omega)]
      cases hk : kidsP p k r with
      | none => rfl
      | some z =>
        obtain ⟨ks, e, t⟩ := z
        have : max (max d (x.deep + 1)) e = max d (max (x.deep + 1) e) := by omega
        simp only [List.append_assoc, List.singleton_append, this]

theorem Tryd.info49 : (Tryd.prog.info? 49).map (fun i => (i.zero, i.size, i.bytes)) = some (some (.string ⟨#[]⟩), 1, 16) := by kernel_rfl
/-- the parts lie in a row of the call's own -/
def KidsAt (base : Nat) (kv : Value) (ks : List (List UInt8)) (w : World) : Prop :=
  ∃ vs : List ByteArray, vs.map (fun v => v.data.toList) = ks ∧ w.ownsRow base 49 1 kv vs.length (vs.map Value.string)
/-- what reader.term leaves -/
def TermPost (rb : Nat) (s : ByteArray) (o : Option (Sh × List UInt8)) (w : World) (e : Ending) (w' : World) : Prop :=
  w.grownBy w' (some rb) ∧ (∃ z, Rd rb s z w') ∧
    (o = none → e = .returned (.tuple #[.agg #[.int .u8 0, .int .i64 0, .string ⟨#[]⟩, .slice none 0 0, .int .i64 0], .bool false])) ∧
    (∀ x rest, o = some (x, rest) → ∃ (a : Nat) (u : ByteArray) (ko : Option Addr) (km kc : Nat), e = .returned (.tuple #[.agg #[.int .u8 x.op.toNat, .int .i64 x.n, .string u, .slice ko km kc, .int .i64 x.deep], .bool true]) ∧
      u.data.toList = x.text ∧ a ≤ s.size ∧ Rd rb s a w' ∧ s.data.toList.drop a = rest ∧ KidsAt w.heap.size (.slice ko km kc) x.kids w')

theorem Xs.grown {xb : Nat} {op n : Int} {t : ByteArray} {kv : Value} {d : Int} {w w' : World} {row : Option Nat} (h : Xs xb op n t kv d w) (hg : w.grownBy w' row) (hr : row ≠ some xb) : Xs xb op n t kv d w' := by
  rw [Xs, hg.block xb h.lt (fun e => hr e.symm)]; exact h
theorem alloc2_at (w : World) (o o' : Obj) : ((w.alloc o).alloc o').drew.heap[w.heap.size + 1]? = some o' := by
  show ((w.heap.push o).push o')[w.heap.size + 1]? = some o'
  rw [Array.getElem?_push, if_pos (by simp)]
theorem alloc2_first (w : World) (o o' : Obj) : ((w.alloc o).alloc o').drew.heap[w.heap.size]? = some o := by
  show ((w.heap.push o).push o')[w.heap.size]? = some o
  rw [Array.getElem?_push, if_neg (by simp), Array.getElem?_push, if_pos rfl]
theorem own_ge {w : World} {base : Nat} {e : TypeId} {v : Value} {n : Nat} {xs : List Value} (h : w.ownsRow base e 1 v n xs) : ∀ g, v.ownBlock = some g → base ≤ g := fun g hg => (h.lt g hg).1
theorem Fr.own {S : Nat → Prop} {a b c : World} {row : Option Nat} (h : Fr S a b) (k : b.grownBy c row) (hr : ∀ g, row = some g → a.heap.size ≤ g) : Fr S a c :=
  ⟨k.os.trans h.os, k.tape.trans h.tape, k.output.trans h.output, Nat.le_trans h.size k.size, fun i hi hn => (k.block i (Nat.lt_of_lt_of_le hi h.size) (fun e => by have := hr i e.symm; omega)).trans (h.block i hi hn)⟩
theorem below2 (w : World) (o o' : Obj) : Below w.heap.size w ((w.alloc o).alloc o').drew := (((Below.refl _ _).alloc (Nat.le_refl _) _).alloc (by simp) _).drew
theorem Rd.grown2 {rb : Nat} {s : ByteArray} {z : Int} {w w' : World} {row : Option Nat} (h : Rd rb s z w) (hg : w.grownBy w' row) (hr : row ≠ some rb) : Rd rb s z w' := by
  rw [Rd, hg.block rb h.lt (fun e => hr e.symm)]; exact h
theorem kids_next {R k j a a' dacc : Nat} {s : ByteArray} {acc : List (List UInt8)} {x : Sh} {rest : List UInt8} {res : Option (List (List UInt8) × Nat × List UInt8)}
    (h : kidsF (parse R) (k - j) acc dacc (s.data.toList.drop a) = res) (hj : j < k) (hp : parse R (s.data.toList.drop a) = some (x, rest)) (hd : s.data.toList.drop a' = rest) (_ha' : a' ≤ s.size) (haa : a ≤ a') (hsz : s.data.toList.length = s.size) :
    kidsF (parse R) (k - (j + 1)) (acc ++ [(s.data.toList.drop a).take (a' - a)]) (max dacc (x.deep + 1)) (s.data.toList.drop a') = res := by
  rw [show k - j = (k - (j + 1)) + 1 by omega] at h
  simp only [kidsF, hp] at h
  have e : (s.data.toList.drop a).length - rest.length = a' - a := by
    rw [← hd, List.length_drop, List.length_drop, hsz]; omega
  rw [e, ← hd] at h
  exact h
theorem Xs.below2 {xb : Nat} {op n : Int} {t : ByteArray} {kv : Value} {d : Int} {w : World} (h : Xs xb op n t kv d w) (o o' : Obj) : Xs xb op n t kv d ((w.alloc o).alloc o').drew := by
  have hb : Below w.heap.size w ((w.alloc o).alloc o').drew := (((Below.refl _ _).alloc (Nat.le_refl _) _).alloc (by simp) _).drew
  exact h.fr (Fr.below (S := fun _ => False) hb) (fun h => h)
set_option maxRecDepth 100000 in
set_option maxHeartbeats 8000000 in
theorem kids_any (rb xb at_ R k : Nat) (s : ByteArray) (op n : Int) (t : ByteArray) (w : World) (hs : s.size ≤ 16384) (hk : k ≤ 32) (hRR : R ≤ 64) (ha : at_ ≤ s.size) (hR : Rd rb s at_ w) (hX : Xs xb op n t (.slice none 0 0) 1 w) (hL : LibOk w) (hne : xb ≠ rb) (h6 : 3 ≤ rb) (h6' : 3 ≤ xb)
    (hT : ∀ (a : Nat) (W : World), a ≤ s.size → Rd rb s a W → LibOk W → Calls Tryd.prog 65 #[.pointer (some ⟨rb, 0, none⟩), .int .i64 R] W (TermPost rb s (parse R (s.data.toList.drop a)) W))
    (res : Option (List (List UInt8) × Nat × List UInt8)) (hres : kidsF (parse R) k [] 1 (s.data.toList.drop at_) = res) :
    Calls Tryd.prog 80 #[.pointer (some ⟨rb, 0, none⟩), .pointer (some ⟨xb, 0, none⟩), .int .i64 k, .int .i64 (R + 1)] w fun e w' => Fr (Two rb xb) w w' ∧
      (res = none → e = .returned (.bool false) ∧ ∃ (z m d : Int) (u : ByteArray) (kv : Value), Rd rb s z w' ∧ Xs xb op m u kv d w') ∧
      (∀ ks d rest, res = some (ks, d, rest) → e = .returned (.bool true) ∧ ∃ (a : Nat) (kv : Value), a ≤ s.size ∧ s.data.toList.drop a = rest ∧ Rd rb s a w' ∧ Xs xb op n t kv d w' ∧ KidsAt w.heap.size kv ks w') := by
  obtain ⟨i0, hi0, hz0, hz1, hz2⟩ := info_parts Tryd.info49
  have HT := Lib.hid hT; have HRES := Lib.hid hres; have HR := Lib.hid hR; have HX := Lib.hid hX; clear hT hres hR hX
  go_enter Tryd.func80, Tryd.ntmps80
  go_wp2_with fail
  go_loopw [13] (fun i wr => ∃ (j a dacc : Nat) (acc : List (List UInt8)) (kv : Value), i = .int .i64 j ∧ j ≤ k ∧ a ≤ s.size ∧ Hid (kidsF (parse R) (k - j) acc dacc (s.data.toList.drop a) = res) ∧ Hid (Fr (Two rb xb) w wr) ∧ Hid (Rd rb s a wr) ∧ Hid (Xs xb op n t kv dacc wr) ∧ Hid (KidsAt w.heap.size kv acc wr) ∧ acc.length = j) (fun i _ => k - (intOf i).toNat)
  case atStart => exact ⟨0, at_, 1, [], .slice none 0 0, rfl, by omega, ha, HRES.out, Fr.refl _ _, HR.out, HX.out, ⟨[], rfl, World.ownsRow_nil _ _ _ _⟩, rfl⟩
  case round =>
    obtain ⟨j, a, dacc, acc, kv, rfl, hj, hja, hF, hFr, hRd, hXs, hK, hacc⟩ := hrel
    obtain ⟨vs, hvs, hown⟩ := hK.out
    obtain ⟨o0, m0, c0', rfl⟩ : ∃ o m c, kv = .slice o m c := by
      rcases hown.2 with ⟨h, _⟩ | ⟨g, cap, cur, h, _⟩
      · exact ⟨_, _, _, h⟩
      · exact ⟨_, _, _, h⟩
    have HO := Lib.hid hown; have HVS := Lib.hid hvs; clear hown hvs hK
    by_cases hlt : j < k
    · have hzc0 := hRd.out.c0
      have hzc1 := hRd.out.c1
      have hL' : Hid (LibOk wr) := hL.fr hFr.out (by unfold Two; omega) (by unfold Two; omega)
      cases hp : parse R (s.data.toList.drop a) with
      | none =>
        have HP := Lib.hid hp; clear hp
        have HN : Hid (res = none) := by
          have h := hF.out
          rw [show k - j = (k - (j + 1)) + 1 by omega] at h
          simp only [kidsF, HP.out] at h
          exact h.symm
        go_wp2_with (go_at_call 65; (with_reducible refine Calls.mono (HT.out _ _ hja hRd.out hL'.out) ?_); rintro e w1 ⟨hg, ⟨z, hz⟩, hno, _⟩; obtain rfl := hno HP.out; clear hno; have HG := Lib.hid hg; have HZ := Lib.hid hz; clear hg hz)
        go_ret
        refine ⟨(hFr.out.trans (Fr.grown HG.out (.inl rfl))).alloc _, fun _ => ⟨rfl, z, n, dacc, t, _, HZ.out.below ((Below.refl _ _).alloc (Nat.le_refl _) _), ((hXs.out.fr (Fr.grown (S := fun k => k = rb) HG.out rfl) (fun h => hne h)).fr (Fr.alloc (Fr.refl (fun _ => False) _) _) (fun h => h))⟩, fun ks d rest h => (by rw [HN.out] at h; cases h)⟩
      | some y =>
        obtain ⟨x, rest⟩ := y
        have HP := Lib.hid hp; clear hp
        go_wp2_with (go_at_call 65; (with_reducible refine Calls.mono (HT.out _ _ hja hRd.out hL'.out) ?_); rintro e w1 ⟨hg, _, _, hyes⟩; obtain ⟨a', u, ko, km, kc, rfl, hu, ha', hz, hd, hk'⟩ := hyes _ _ HP.out; clear hyes; have hx1 := hXs.out.fr (Fr.grown (S := fun k => k = rb) hg rfl) (fun h => hne h); have hxc := hx1.c; have hxf3 := hx1.f 3; have hxf4 := hx1.f 4; have hcz0 := hz.c0; have hcz1 := hz.c1; have hxl := hx1.lt; have hrl := hz.lt; have HX1 := Lib.hid hx1; have HG := Lib.hid hg; have HZ := Lib.hid hz; have HD := Lib.hid hd; have HU := Lib.hid hu; have HK1 := Lib.hid hk'; clear hx1 hg hz hd hu hk')
        have haa : a ≤ a' := by
          obtain ⟨c, hc⟩ := parse_cons HP.out
          have := congrArg List.length hc
          rw [← HD.out] at this
          simp only [List.length_drop, List.length_cons, List.length_append] at this
          omega
        have b1 : (0 : Int) ≤ (a : Int) := by omega
        have b2 : (a : Int) ≤ (a' : Int) := by omega
        have hob : (Value.slice o0 m0 c0').ownBlock = none ∨ (Value.slice o0 m0 c0').ownBlock ≠ some rb := by
          rcases HO.out.2 with ⟨h, _⟩ | ⟨g, cap, cur, h, hg, _⟩
          · rw [h]; exact .inl rfl
          · rw [h]; right; intro h'; simp only [Value.ownBlock, Option.some.injEq] at h'; have := HR.out.lt; omega
        have HO1 := Lib.hid (HO.out.kept HG.out hob)
        have hob2 : (Value.slice o0 m0 c0').ownBlock ≠ some xb := by
          rcases HO.out.2 with ⟨h, _⟩ | ⟨g, cap, cur, h, hg, _⟩
          · rw [h]; intro h'; cases h'
          · rw [h]; intro h'; simp only [Value.ownBlock, Option.some.injEq] at h'; have := HX.out.lt; omega
        have HOB := Lib.hid hob2; clear hob2
        have hdp := (parse_deep R _ _ _ HP.out).2.1
        have hdq : (x.deep : Int) ≤ 64 := by omega
        have hsz : s.data.toList.length = s.size := by show s.data.toList.length = s.data.size; rw [Array.length_toList]
        have HSZ := Lib.hid hsz; clear hsz
        have HORB : Hid ((Value.slice o0 m0 c0').ownBlock ≠ some rb) := fun h' => by
          have := own_ge HO.out _ h'; have := HR.out.lt; omega
        have HXL : Hid (xb < w.heap.size) := HX.out.lt
        have hoy : (Value.slice o0 m0 c0').ownBlock ≠ some w1.heap.size := by
          intro h'
          have := (HO1.out.lt _ h').2
          omega
        have HOY := Lib.hid hoy; clear hoy
        have hvl : vs.length = j := by rw [← hacc, ← HVS.out, List.length_map]
        have HVL := Lib.hid hvl; clear hvl hob
        have hwl : w.heap.size ≤ w1.heap.size := by have h1 := HG.out.size; have h2 := hFr.out.size; omega
        go_wp2_with fail
        go_region_law ((refine step_append_lies _ (by rfl) _ _ _ (by rfl) w.heap.size 49 i0 _ 1 16 Tryd.underlying24 hi0 hz0 hz1 hz2 rfl (by omega) (.slice o0 m0 c0') vs.length (vs.map Value.string) (by rfl) (((HO1.out.alloc _).alloc _).drew) ⟨w1.heap.size + 1, 0, none⟩ 1 1 [.string (s.extract a a')] (by rfl) (by rfl) (World.news_of_block (cs := #[.string (s.extract a a')]) (t := 49) (fr := (0, 0)) (alloc2_at w1 _ _)) (by simp [Value.oneCell']) (by omega) (by rw [HVL.out]; unfold maxLen; omega) (by rw [HVL.out]; omega) (by simp; omega) (w1.heap.size + 2) (by simp) ?_; intro g cap w2 hown2 hgrow hat hlt2; have hx2 := Xs.grown (HX1.out.below2 _ _) hgrow HOB.out; have hx2c := hx2.c.2.2.2.1; have hx2f := hx2.f 3; have hy2 : w2.heap[w1.heap.size]? = some (.cells #[.int .u8 x.op.toNat, .int .i64 x.n, .string u, .slice ko km kc, .int .i64 x.deep] 102 (0, 0)) := (hgrow.block _ (by simp; omega) (fun e => HOY.out e.symm)).trans (alloc2_first w1 _ _); have hy2c : w2.cell? ⟨w1.heap.size, 4, none⟩ = some (.int .i64 x.deep) := (by simp [World.cell?, hy2]); have hx2d := hx2.c.2.2.2.2; have hx2f4 := hx2.f 4; clear hy2; have HX2 := Lib.hid hx2; have HG2 := Lib.hid hgrow; have HO2 := Lib.hid hown2; clear hx2 hgrow hown2))
        all_goals go_wp2_with fail
        all_goals go_region
        all_goals go_wp2
        all_goals
          go_roundw
          case rel =>
            refine ⟨j + 1, a', max dacc (x.deep + 1), acc ++ [(s.data.toList.drop a).take (a' - a)], .slice (some ⟨g, 0, none⟩) (vs.length + 1) cap, by go_num, by omega, ha', ?_, ?_, ?_, ?_, ?_, by simp [hacc]⟩
            · exact kids_next hF.out (by omega) HP.out HD.out ha' haa HSZ.out
            · exact ((((hFr.out.trans (Fr.grown HG.out (.inl rfl))).alloc _).alloc _).drewN 1).own HG2.out (own_ge HO.out) |>.set _ _ _ (.inr rfl) |>.set _ _ _ (.inr rfl) |>.drewN 1
            · exact ((Rd.grown2 (Rd.below (HZ.out) (below2 w1 _ _)) HG2.out HORB.out).setX hne _ _).setX hne _ _
            · have := (HX2.out.setK (.slice (some ⟨g, 0, none⟩) (vs.length + 1) cap)).setD ((max dacc (x.deep + 1) : Nat) : Int)
              rw [show ((max dacc (x.deep + 1) : Nat) : Int) = max (dacc : Int) ((x.deep : Int) + 1) by omega] at this ⊢
              exact this
            · refine ⟨vs ++ [s.extract a a'], ?_, ?_⟩
              · rw [List.map_append, HVS.out, List.map_cons, List.map_nil, Lib.extract_data]
              · rw [List.length_append, List.map_append]
                exact (ownsRow_setCell_below (ownsRow_setCell_below HO2.out (a := ⟨xb, 3, none⟩) HXL.out _) (a := ⟨xb, 4, none⟩) HXL.out _).drew
          case measure => simp [intOf]; omega
    · obtain rfl : j = k := by omega
      have HN : Hid (res = some (acc, dacc, s.data.toList.drop a)) := by
        have h := hF.out
        rw [Nat.sub_self] at h
        exact h.symm
      go_wp2
      go_ret
      refine ⟨hFr.out, fun h => (by rw [HN.out] at h; cases h), fun ks d rest h => ?_⟩
      rw [HN.out] at h
      cases h
      exact ⟨rfl, a, _, hja, rfl, hRd.out, hXs.out, vs, HVS.out, HO.out⟩

end Go.Proofs.YtakfhoodjcfpcaaDoor
namespace Go.Proofs.YtakfhoodjcfpcaaDoor
open Go.RowKit

/-- the rest of a term: its number, text, parts, depth, and what stands behind it -/
abbrev Rest := Nat × List UInt8 × List (List UInt8) × Nat × List UInt8
/-- reader.term reads what parse reads, in so much room -/
def TermAt (rb R : Nat) (s : ByteArray) : Prop := ∀ (a : Nat) (W : World), a ≤ s.size → Rd rb s a W → LibOk W → Calls Tryd.prog 65 #[.pointer (some ⟨rb, 0, none⟩), .int .i64 R] W (TermPost rb s (parse R (s.data.toList.drop a)) W)
/-- what is left by the reading of a rest -/
def RestPost (rb xb : Nat) (s : ByteArray) (op : Int) (o : Option Rest) (w : World) (e : Ending) (w' : World) : Prop :=
  Fr (Two rb xb) w w' ∧
    (o = none → e = .returned (.bool false) ∧ ∃ (z m d : Int) (u : ByteArray) (kv : Value), Rd rb s z w' ∧ Xs xb op m u kv d w') ∧
    (∀ n t ks d rest, o = some (n, t, ks, d, rest) → e = .returned (.bool true) ∧ ∃ (a : Nat) (u : ByteArray) (kv : Value), a ≤ s.size ∧ s.data.toList.drop a = rest ∧ u.data.toList = t ∧ Rd rb s a w' ∧ Xs xb op n u kv d w' ∧ KidsAt w.heap.size kv ks w')
/-- so many parts -/
def kidsO (R k : Nat) (l : List UInt8) : Option Rest := match kidsP (parse R) k l with
  | none => none
  | some (ks, d, u) => some (0, [], ks, d, u)
theorem kids_deep1 (p : List UInt8 → Option (Sh × List UInt8)) : ∀ k l ks d r, kidsP p k l = some (ks, d, r) → 1 ≤ d := by
  intro k
  induction k with
  | zero => intro l ks d r h; simp only [kidsP, Option.some.injEq, Prod.mk.injEq] at h; omega
  | succ k ih =>
    intro l ks d r h
    simp only [kidsP] at h
    split at h
    · cases h
    · split at h
      · cases h
      · rename_i hk
        simp only [Option.some.injEq, Prod.mk.injEq] at h
        have := ih _ _ _ _ hk
        omega
theorem kids_rest (rb xb at_ R : Nat) (s : ByteArray) (op : Int) (w : World) (hs : s.size ≤ 16384) (hRR : R ≤ 64) (ha : at_ ≤ s.size) (hR : Rd rb s at_ w) (hX : Xs xb op 0 ⟨#[]⟩ (.slice none 0 0) 1 w) (hL : LibOk w) (hne : xb ≠ rb) (h6 : 3 ≤ rb) (h6' : 3 ≤ xb)
    (hT : TermAt rb R s) (k : Nat) (hk : k ≤ 32) :
    Calls Tryd.prog 80 #[.pointer (some ⟨rb, 0, none⟩), .pointer (some ⟨xb, 0, none⟩), .int .i64 k, .int .i64 (R + 1)] w (RestPost rb xb s op (kidsO R k (s.data.toList.drop at_)) w) := by
  refine Calls.mono (kids_any rb xb at_ R k s op 0 ⟨#[]⟩ w hs hk hRR ha hR hX hL hne h6 h6' hT _ rfl) ?_
  rintro e w' ⟨hf, hno, hyes⟩
  rw [kidsF_eq _ _ _ _ _ (Nat.le_refl _)] at hno hyes
  unfold RestPost kidsO
  cases hp : kidsP (parse R) k (s.data.toList.drop at_) with
  | none =>
    rw [hp] at hno
    exact ⟨hf, fun _ => hno rfl, fun n t ks d rest h => (by cases h)⟩
  | some y =>
    obtain ⟨ks, d, u⟩ := y
    rw [hp] at hyes
    have hd : 1 ≤ d := kids_deep1 _ _ _ _ _ _ hp
    refine ⟨hf, fun h => (by cases h), fun n t ks' d' rest h => ?_⟩
    simp only [Option.some.injEq, Prod.mk.injEq] at h
    obtain ⟨rfl, rfl, rfl, rfl, rfl⟩ := h
    obtain ⟨h1, a, kv, h2, h3, h4, h5, h6⟩ := hyes ks (max 1 d) u (by simp)
    rw [show max 1 d = d by omega] at h5
    exact ⟨h1, a, ⟨#[]⟩, kv, h2, h3, rfl, h4, h5, h6⟩

set_option maxRecDepth 100000 in
set_option maxHeartbeats 1000000 in
theorem one_calls (rb xb R : Nat) (s : ByteArray) (op : Int) (o : Option Rest) (w : World) (hc : Calls Tryd.prog 80 #[.pointer (some ⟨rb, 0, none⟩), .pointer (some ⟨xb, 0, none⟩), .int .i64 1, .int .i64 (R + 1)] w (RestPost rb xb s op o w)) :
    Calls Tryd.prog 76 #[.pointer (some ⟨rb, 0, none⟩), .pointer (some ⟨xb, 0, none⟩), .int .i64 (R + 1)] w (RestPost rb xb s op o w) := by
  have HC := Lib.hid hc; clear hc
  go_enter Tryd.func76, Tryd.ntmps76
  cases o with
  | none =>
    go_wp2_with (go_at_call 80; (with_reducible refine Calls.mono HC.out ?_); rintro e w1 hp; obtain ⟨rfl, _⟩ := hp.2.1 rfl; have HP := Lib.hid hp; clear hp)
    try go_ret
    exact HP.out
  | some y =>
    obtain ⟨n, t, ks, d, rest⟩ := y
    go_wp2_with (go_at_call 80; (with_reducible refine Calls.mono HC.out ?_); rintro e w1 hp; obtain ⟨rfl, _⟩ := hp.2.2 _ _ _ _ _ rfl; have HP := Lib.hid hp; clear hp)
    try go_ret
    exact HP.out
set_option maxRecDepth 100000 in
set_option maxHeartbeats 1000000 in
theorem two_calls (rb xb R : Nat) (s : ByteArray) (op : Int) (o : Option Rest) (w : World) (hc : Calls Tryd.prog 80 #[.pointer (some ⟨rb, 0, none⟩), .pointer (some ⟨xb, 0, none⟩), .int .i64 2, .int .i64 (R + 1)] w (RestPost rb xb s op o w)) :
    Calls Tryd.prog 77 #[.pointer (some ⟨rb, 0, none⟩), .pointer (some ⟨xb, 0, none⟩), .int .i64 (R + 1)] w (RestPost rb xb s op o w) := by
  have HC := Lib.hid hc; clear hc
  go_enter Tryd.func77, Tryd.ntmps77
  cases o with
  | none =>
    go_wp2_with (go_at_call 80; (with_reducible refine Calls.mono HC.out ?_); rintro e w1 hp; obtain ⟨rfl, _⟩ := hp.2.1 rfl; have HP := Lib.hid hp; clear hp)
    try go_ret
    exact HP.out
  | some y =>
    obtain ⟨n, t, ks, d, rest⟩ := y
    go_wp2_with (go_at_call 80; (with_reducible refine Calls.mono HC.out ?_); rintro e w1 hp; obtain ⟨rfl, _⟩ := hp.2.2 _ _ _ _ _ rfl; have HP := Lib.hid hp; clear hp)
    try go_ret
    exact HP.out
theorem one_any (rb xb at_ R : Nat) (s : ByteArray) (op : Int) (w : World) (hs : s.size ≤ 16384) (hRR : R ≤ 64) (ha : at_ ≤ s.size) (hR : Rd rb s at_ w) (hX : Xs xb op 0 ⟨#[]⟩ (.slice none 0 0) 1 w) (hL : LibOk w) (hne : xb ≠ rb) (h6 : 3 ≤ rb) (h6' : 3 ≤ xb)
    (hT : TermAt rb R s) :
    Calls Tryd.prog 76 #[.pointer (some ⟨rb, 0, none⟩), .pointer (some ⟨xb, 0, none⟩), .int .i64 (R + 1)] w (RestPost rb xb s op (kidsO R 1 (s.data.toList.drop at_)) w) := by
  have HC : Hid (Calls Tryd.prog 80 #[.pointer (some ⟨rb, 0, none⟩), .pointer (some ⟨xb, 0, none⟩), .int .i64 1, .int .i64 (R + 1)] w (RestPost rb xb s op (kidsO R 1 (s.data.toList.drop at_)) w)) := kids_rest rb xb at_ R s op w hs hRR ha hR hX hL hne h6 h6' hT 1 (by decide)
  obtain ⟨o, ho⟩ : ∃ o, kidsO R 1 (s.data.toList.drop at_) = o := ⟨_, rfl⟩
  rw [ho] at HC ⊢
  clear hT
  refine (one_calls rb xb R s op o w HC.out)
theorem two_any (rb xb at_ R : Nat) (s : ByteArray) (op : Int) (w : World) (hs : s.size ≤ 16384) (hRR : R ≤ 64) (ha : at_ ≤ s.size) (hR : Rd rb s at_ w) (hX : Xs xb op 0 ⟨#[]⟩ (.slice none 0 0) 1 w) (hL : LibOk w) (hne : xb ≠ rb) (h6 : 3 ≤ rb) (h6' : 3 ≤ xb)
    (hT : TermAt rb R s) :
    Calls Tryd.prog 77 #[.pointer (some ⟨rb, 0, none⟩), .pointer (some ⟨xb, 0, none⟩), .int .i64 (R + 1)] w (RestPost rb xb s op (kidsO R 2 (s.data.toList.drop at_)) w) := by
  have HC : Hid (Calls Tryd.prog 80 #[.pointer (some ⟨rb, 0, none⟩), .pointer (some ⟨xb, 0, none⟩), .int .i64 2, .int .i64 (R + 1)] w (RestPost rb xb s op (kidsO R 2 (s.data.toList.drop at_)) w)) := kids_rest rb xb at_ R s op w hs hRR ha hR hX hL hne h6 h6' hT 2 (by decide)
  obtain ⟨o, ho⟩ : ∃ o, kidsO R 2 (s.data.toList.drop at_) = o := ⟨_, rfl⟩
  rw [ho] at HC ⊢
  clear hT
  refine (two_calls rb xb R s op o w HC.out)
end Go.Proofs.YtakfhoodjcfpcaaDoor
namespace Go.Proofs.YtakfhoodjcfpcaaDoor
set_option linter.unusedVariables false
open Go.RowKit

theorem RestPost.after {rb xb : Nat} {s : ByteArray} {op : Int} {o : Option Rest} {w w1 w2 : World} {e : Ending} (h : RestPost rb xb s op o w1 e w2) (hg : Fr (Two rb xb) w w1) : RestPost rb xb s op o w e w2 := by
  refine ⟨hg.trans h.1, h.2.1, fun n t ks d rest ho => ?_⟩
  obtain ⟨h1, a, u, kv, h2, h3, h4, h5, h6, vs, h7, h8⟩ := h.2.2 n t ks d rest ho
  exact ⟨h1, a, u, kv, h2, h3, h4, h5, h6, vs, h7, h8.mono hg.size⟩
set_option maxRecDepth 100000 in
set_option maxHeartbeats 1000000 in
theorem tuple_no (rb xb at_ R : Nat) (s : ByteArray) (op : Int) (w : World) (hs : s.size ≤ 16384) (hRR : R ≤ 64) (ha : at_ ≤ s.size) (hR : Rd rb s at_ w) (hX : Xs xb op 0 ⟨#[]⟩ (.slice none 0 0) 1 w) (hL : LibOk w) (hne : xb ≠ rb) (h6 : 3 ≤ rb) (h6' : 3 ≤ xb)
    (hT : TermAt rb R s)
    (hn : num 58 (s.data.toList.drop at_) = none) :
    Calls Tryd.prog 75 #[.pointer (some ⟨rb, 0, none⟩), .pointer (some ⟨xb, 0, none⟩), .int .i64 (R + 1)] w (RestPost rb xb s op none w) := by
  have HC := Lib.hid (number_any rb at_ s 58 58 rfl (by decide) w hs ha hR hL)
  have HN := Lib.hid hn; have HX := Lib.hid hX; clear hn hX hR hT
  go_enter Tryd.func75, Tryd.ntmps75
  go_wp2_with (go_at_call 79; (with_reducible refine Calls.mono HC.out ?_); rintro e w1 ⟨hg, ⟨z, hz⟩, hno, _⟩; obtain ⟨m, rfl⟩ := hno HN.out; clear hno; have hx1 := HX.out.fr (Fr.grown (S := fun k => k = rb) hg rfl) (fun h => hne h); have HX1 := Lib.hid hx1; have HG := Lib.hid hg; have HZ := Lib.hid hz; clear hx1 hg hz)
  all_goals (try go_ret)
  exact ⟨(Fr.grown HG.out (.inl rfl)), fun _ => ⟨rfl, z, 0, 1, ⟨#[]⟩, _, HZ.out, HX1.out⟩, fun n t ks d rest h => (by cases h)⟩
set_option maxRecDepth 100000 in
set_option maxHeartbeats 1000000 in
theorem tuple_many (rb xb at_ R : Nat) (s : ByteArray) (op : Int) (w : World) (hs : s.size ≤ 16384) (hRR : R ≤ 64) (ha : at_ ≤ s.size) (hR : Rd rb s at_ w) (hX : Xs xb op 0 ⟨#[]⟩ (.slice none 0 0) 1 w) (hL : LibOk w) (hne : xb ≠ rb) (h6 : 3 ≤ rb) (h6' : 3 ≤ xb)
    (hT : TermAt rb R s)
    (m : Nat) (rest : List UInt8) (hn : num 58 (s.data.toList.drop at_) = some (m, rest)) (hm : (32 : Int) < m) :
    Calls Tryd.prog 75 #[.pointer (some ⟨rb, 0, none⟩), .pointer (some ⟨xb, 0, none⟩), .int .i64 (R + 1)] w (RestPost rb xb s op none w) := by
  have HC := Lib.hid (number_any rb at_ s 58 58 rfl (by decide) w hs ha hR hL)
  have HN := Lib.hid hn; have HX := Lib.hid hX; clear hn hX hR hT
  have q1 := decN ((m : Int) ≤ 32) (by omega)
  go_enter Tryd.func75, Tryd.ntmps75
  go_wp2_with (go_at_call 79; (with_reducible refine Calls.mono HC.out ?_); rintro e w1 ⟨hg, _, _, hyes⟩; obtain ⟨rfl, a, ha', hz, hd⟩ := hyes _ _ HN.out; clear hyes; have hx1 := HX.out.fr (Fr.grown (S := fun k => k = rb) hg rfl) (fun h => hne h); have HX1 := Lib.hid hx1; have HG := Lib.hid hg; have HZ := Lib.hid hz; clear hx1 hg hz; clear hd)
  all_goals (try go_ret)
  exact ⟨(Fr.grown HG.out (.inl rfl)), fun _ => ⟨rfl, a, 0, 1, ⟨#[]⟩, _, HZ.out, HX1.out⟩, fun n t ks d rest h => (by cases h)⟩
set_option maxRecDepth 100000 in
set_option maxHeartbeats 1000000 in
theorem tuple_yes (rb xb at_ R : Nat) (s : ByteArray) (op : Int) (w : World) (hs : s.size ≤ 16384) (hRR : R ≤ 64) (ha : at_ ≤ s.size) (hR : Rd rb s at_ w) (hX : Xs xb op 0 ⟨#[]⟩ (.slice none 0 0) 1 w) (hL : LibOk w) (hne : xb ≠ rb) (h6 : 3 ≤ rb) (h6' : 3 ≤ xb)
    (hT : TermAt rb R s)
    (m : Nat) (rest : List UInt8) (hn : num 58 (s.data.toList.drop at_) = some (m, rest)) (hm : (m : Int) ≤ 32) :
    Calls Tryd.prog 75 #[.pointer (some ⟨rb, 0, none⟩), .pointer (some ⟨xb, 0, none⟩), .int .i64 (R + 1)] w (RestPost rb xb s op (kidsO R m rest) w) := by
  have HC := Lib.hid (number_any rb at_ s 58 58 rfl (by decide) w hs ha hR hL)
  have HN := Lib.hid hn; have HX := Lib.hid hX; have HT := Lib.hid hT; clear hn hX hR hT
  have q1 := decB ((m : Int) ≤ 32) hm
  obtain ⟨o, ho⟩ : ∃ o, kidsO R m rest = o := ⟨_, rfl⟩
  have HO := Lib.hid ho
  rw [ho]; clear ho
  cases o with
  | none =>
    go_enter Tryd.func75, Tryd.ntmps75
    go_wp2_with (first | (go_at_call 79; (with_reducible refine Calls.mono HC.out ?_); rintro e w1 ⟨hg, _, _, hyes⟩; obtain ⟨rfl, a, ha', hz, hd⟩ := hyes _ _ HN.out; clear hyes; have hx1 := HX.out.fr (Fr.grown (S := fun k => k = rb) hg rfl) (fun h => hne h); have HX1 := Lib.hid hx1; have HG := Lib.hid hg; have HZ := Lib.hid hz; clear hx1 hg hz; have HD := Lib.hid hd; clear hd) | (go_at_call 80; (with_reducible refine Calls.mono (kids_rest rb xb a R s op w1 hs hRR ha' HZ.out HX1.out (hL.fr (Fr.grown (S := fun k => k = rb) HG.out rfl) (by omega) (by omega)) hne h6 h6' HT.out m (by omega)) ?_); rintro e w2 hp; rw [HD.out, HO.out] at hp; obtain ⟨rfl, _⟩ := hp.2.1 rfl; have HP := Lib.hid hp; clear hp))
    all_goals (try go_ret)
    exact HP.out.after (Fr.grown HG.out (.inl rfl))
  | some y =>
    obtain ⟨n, t, ks, d, u⟩ := y
    go_enter Tryd.func75, Tryd.ntmps75
    go_wp2_with (first | (go_at_call 79; (with_reducible refine Calls.mono HC.out ?_); rintro e w1 ⟨hg, _, _, hyes⟩; obtain ⟨rfl, a, ha', hz, hd⟩ := hyes _ _ HN.out; clear hyes; have hx1 := HX.out.fr (Fr.grown (S := fun k => k = rb) hg rfl) (fun h => hne h); have HX1 := Lib.hid hx1; have HG := Lib.hid hg; have HZ := Lib.hid hz; clear hx1 hg hz; have HD := Lib.hid hd; clear hd) | (go_at_call 80; (with_reducible refine Calls.mono (kids_rest rb xb a R s op w1 hs hRR ha' HZ.out HX1.out (hL.fr (Fr.grown (S := fun k => k = rb) HG.out rfl) (by omega) (by omega)) hne h6 h6' HT.out m (by omega)) ?_); rintro e w2 hp; rw [HD.out, HO.out] at hp; obtain ⟨rfl, _⟩ := hp.2.2 _ _ _ _ _ rfl; have HP := Lib.hid hp; clear hp))
    all_goals (try go_ret)
    exact HP.out.after (Fr.grown HG.out (.inl rfl))
end Go.Proofs.YtakfhoodjcfpcaaDoor
namespace Go.Proofs.YtakfhoodjcfpcaaDoor
set_option linter.unusedVariables false
open Go.RowKit

def nameO (r : List UInt8) : Option Rest := match num 59 r with
  | none => none
  | some (n, t) => some (n, [], [], 1, t)
def textO (r : List UInt8) : Option Rest := match num 58 r with
  | none => none
  | some (n, t) => if n ≤ 4096 ∧ n ≤ t.length then some (0, t.take n, [], 1, t.drop n) else none
def tupleO (R : Nat) (r : List UInt8) : Option Rest := match num 58 r with
  | none => none
  | some (k, t) => if k ≤ 32 then kidsO R k t else none
/-- the rest of a term behind its op -/
def restP (R : Nat) (op : UInt8) (r : List UInt8) : Option Rest :=
  if op = 110 then nameO r else if op = 116 then textO r else if op = 84 then tupleO R r
  else match arity op with
    | none => none
    | some k => kidsO R k r
theorem parse_rest (R : Nat) (op : UInt8) (r : List UInt8) : parse (R + 1) (op :: r) = match restP R op r with
    | none => none
    | some (n, t, ks, d, u) => if fitsB op ks then some (⟨op, n, t, ks, d⟩, u) else none := by
  simp only [parse, restP]
  by_cases h1 : op = 110
  · subst h1
    simp only [if_true, nameO]
    cases num 59 r with
    | none => rfl
    | some y => rfl
  · simp only [if_neg h1]
    by_cases h2 : op = 116
    · subst h2
      simp only [if_true, textO]
      cases num 58 r with
      | none => rfl
      | some y =>
        obtain ⟨n, t⟩ := y
        simp only []
        split <;> rfl
    · simp only [if_neg h2, many]
      by_cases h3 : op = 84
      · subst h3
        simp only [if_true, tupleO]
        cases num 58 r with
        | none => rfl
        | some y =>
          obtain ⟨k, t⟩ := y
          simp only []
          by_cases h4 : k ≤ 32
          · simp only [if_pos h4, kidsO]
            cases kidsP (parse R) k t <;> rfl
          · simp only [if_neg h4]
      · simp only [if_neg h3]
        cases arity op with
        | none => rfl
        | some k =>
          simp only [kidsO]
          cases kidsP (parse R) k r <;> rfl

theorem RestPost.none {rb xb : Nat} {s : ByteArray} {op : Int} {w w' : World} {e : Ending} (h : FailPost rb xb s op w e w') : RestPost rb xb s op none w e w' :=
  ⟨h.2.1, fun _ => ⟨h.1, by obtain ⟨z, n, d, t, kv, h1, h2⟩ := h.2.2; exact ⟨z, n, d, t, kv, h1, h2⟩⟩, fun _ _ _ _ _ h => (by cases h)⟩
theorem name_rest (rb xb at_ R : Nat) (s : ByteArray) (op : Int) (w : World) (hs : s.size ≤ 16384) (ha : at_ ≤ s.size) (hR : Rd rb s at_ w) (hX : Xs xb op 0 ⟨#[]⟩ (.slice none 0 0) 1 w) (hL : LibOk w) (hne : xb ≠ rb) :
    Calls Tryd.prog 73 #[.pointer (some ⟨rb, 0, none⟩), .pointer (some ⟨xb, 0, none⟩), .int .i64 (R + 1)] w (RestPost rb xb s op (nameO (s.data.toList.drop at_)) w) := by
  unfold nameO
  cases hn : num 59 (s.data.toList.drop at_) with
  | none => exact (name_no rb xb at_ s op 0 1 _ _ _ w hs ha hR hX hL hne hn).mono (fun _ _ h => RestPost.none h)
  | some y =>
    obtain ⟨m, rest⟩ := y
    refine (name_yes rb xb at_ s op 0 1 _ _ _ w hs ha hR hX hL hne m rest hn).mono ?_
    rintro e w' ⟨a, h1, h2, h3, h4, h5, h6⟩
    refine ⟨h4, fun h => (by cases h), fun n t ks d u h => ?_⟩
    simp only [Option.some.injEq, Prod.mk.injEq] at h
    obtain ⟨rfl, rfl, rfl, rfl, rfl⟩ := h
    exact ⟨h3, a, ⟨#[]⟩, _, h1, h2, rfl, h5, h6, [], rfl, World.ownsRow_nil _ _ _ _⟩
theorem text_rest (rb xb at_ R : Nat) (s : ByteArray) (op : Int) (w : World) (hs : s.size ≤ 16384) (ha : at_ ≤ s.size) (hR : Rd rb s at_ w) (hX : Xs xb op 0 ⟨#[]⟩ (.slice none 0 0) 1 w) (hL : LibOk w) (hne : xb ≠ rb) :
    Calls Tryd.prog 74 #[.pointer (some ⟨rb, 0, none⟩), .pointer (some ⟨xb, 0, none⟩), .int .i64 (R + 1)] w (RestPost rb xb s op (textO (s.data.toList.drop at_)) w) := by
  unfold textO
  cases hn : num 58 (s.data.toList.drop at_) with
  | none => exact (text_no rb xb at_ s op 0 1 _ _ _ w hs ha hR hX hL hne hn).mono (fun _ _ h => RestPost.none h)
  | some y =>
    obtain ⟨m, rest⟩ := y
    simp only []
    by_cases h1 : m ≤ 4096
    · by_cases h2 : m ≤ rest.length
      · rw [if_pos ⟨h1, h2⟩]
        refine (text_yes rb xb at_ s op 0 1 _ _ _ w hs ha hR hX hL hne m rest hn (by omega) h2).mono ?_
        rintro e w' ⟨a, u, h1, h2, h3, h4, h5, h6, h7⟩
        refine ⟨h5, fun h => (by cases h), fun n t ks d u' h => ?_⟩
        simp only [Option.some.injEq, Prod.mk.injEq] at h
        obtain ⟨rfl, rfl, rfl, rfl, rfl⟩ := h
        exact ⟨h4, a, u, _, h1, h2, h3, h6, h7, [], rfl, World.ownsRow_nil _ _ _ _⟩
      · rw [if_neg (fun h => h2 h.2)]
        exact (text_short rb xb at_ s op 0 1 _ _ _ w hs ha hR hX hL hne m rest hn (by omega) (by omega)).mono (fun _ _ h => RestPost.none h)
    · rw [if_neg (fun h => h1 h.1)]
      exact (text_many rb xb at_ s op 0 1 _ _ _ w hs ha hR hX hL hne m rest hn (by omega)).mono (fun _ _ h => RestPost.none h)
theorem tuple_rest (rb xb at_ R : Nat) (s : ByteArray) (op : Int) (w : World) (hs : s.size ≤ 16384) (ha : at_ ≤ s.size) (hR : Rd rb s at_ w) (hX : Xs xb op 0 ⟨#[]⟩ (.slice none 0 0) 1 w) (hL : LibOk w) (hne : xb ≠ rb) (hRR : R ≤ 64) (h6 : 3 ≤ rb) (h6' : 3 ≤ xb) (hT : TermAt rb R s) :
    Calls Tryd.prog 75 #[.pointer (some ⟨rb, 0, none⟩), .pointer (some ⟨xb, 0, none⟩), .int .i64 (R + 1)] w (RestPost rb xb s op (tupleO R (s.data.toList.drop at_)) w) := by
  unfold tupleO
  cases hn : num 58 (s.data.toList.drop at_) with
  | none => exact tuple_no rb xb at_ R s op w hs hRR ha hR hX hL hne h6 h6' hT hn
  | some y =>
    obtain ⟨m, rest⟩ := y
    simp only []
    by_cases h1 : m ≤ 32
    · rw [if_pos h1]
      exact tuple_yes rb xb at_ R s op w hs hRR ha hR hX hL hne h6 h6' hT m rest hn (by omega)
    · rw [if_neg h1]
      exact tuple_many rb xb at_ R s op w hs hRR ha hR hX hL hne h6 h6' hT m rest hn (by omega)

/-- how the rest is read -/
def formOf (c : UInt8) : Option Nat :=
  if c = 110 then some 73 else if c = 116 then some 74 else if c = 84 then some 75 else if c = 80 then some 76 else if c = 72 then some 76 else if c = 83 then some 77 else if c = 66 then some 77 else if c = 88 then some 77 else if c = 68 then some 77 else if c = 86 then some 77 else if c = 87 then some 77 else if c = 75 then some 77 else if c = 76 then some 77 else none
def formV (rb : Nat) : Option Nat → Value
  | none => Value.nilFunc
  | some f => .func (.func f) #[.pointer (some ⟨rb, 0, .none⟩)] #[]
set_option maxRecDepth 100000 in
set_option maxHeartbeats 1000000 in
theorem form_110 (rb : Nat) (w : World) : Calls Tryd.prog 70 #[.pointer (some ⟨rb, 0, none⟩), .int .u8 110] w (fun e w' => w' = w ∧ e = .returned (formV rb (some 73))) := by
  go_enter Tryd.func70, Tryd.ntmps70
  go_wp2
  go_ret
  exact ⟨rfl, rfl⟩
set_option maxRecDepth 100000 in
set_option maxHeartbeats 1000000 in
theorem form_116 (rb : Nat) (w : World) : Calls Tryd.prog 70 #[.pointer (some ⟨rb, 0, none⟩), .int .u8 116] w (fun e w' => w' = w ∧ e = .returned (formV rb (some 74))) := by
  go_enter Tryd.func70, Tryd.ntmps70
  go_wp2
  go_ret
  exact ⟨rfl, rfl⟩
set_option maxRecDepth 100000 in
set_option maxHeartbeats 1000000 in
theorem form_84 (rb : Nat) (w : World) : Calls Tryd.prog 70 #[.pointer (some ⟨rb, 0, none⟩), .int .u8 84] w (fun e w' => w' = w ∧ e = .returned (formV rb (some 75))) := by
  go_enter Tryd.func70, Tryd.ntmps70
  go_wp2
  go_ret
  exact ⟨rfl, rfl⟩
set_option maxRecDepth 100000 in
set_option maxHeartbeats 1000000 in
theorem form_80 (rb : Nat) (w : World) : Calls Tryd.prog 70 #[.pointer (some ⟨rb, 0, none⟩), .int .u8 80] w (fun e w' => w' = w ∧ e = .returned (formV rb (some 76))) := by
  go_enter Tryd.func70, Tryd.ntmps70
  go_wp2
  go_ret
  exact ⟨rfl, rfl⟩
set_option maxRecDepth 100000 in
set_option maxHeartbeats 1000000 in
theorem form_72 (rb : Nat) (w : World) : Calls Tryd.prog 70 #[.pointer (some ⟨rb, 0, none⟩), .int .u8 72] w (fun e w' => w' = w ∧ e = .returned (formV rb (some 76))) := by
  go_enter Tryd.func70, Tryd.ntmps70
  go_wp2
  go_ret
  exact ⟨rfl, rfl⟩
set_option maxRecDepth 100000 in
set_option maxHeartbeats 1000000 in
theorem form_83 (rb : Nat) (w : World) : Calls Tryd.prog 70 #[.pointer (some ⟨rb, 0, none⟩), .int .u8 83] w (fun e w' => w' = w ∧ e = .returned (formV rb (some 77))) := by
  go_enter Tryd.func70, Tryd.ntmps70
  go_wp2
  go_ret
  exact ⟨rfl, rfl⟩
set_option maxRecDepth 100000 in
set_option maxHeartbeats 1000000 in
theorem form_66 (rb : Nat) (w : World) : Calls Tryd.prog 70 #[.pointer (some ⟨rb, 0, none⟩), .int .u8 66] w (fun e w' => w' = w ∧ e = .returned (formV rb (some 77))) := by
  go_enter Tryd.func70, Tryd.ntmps70
  go_wp2
  go_ret
  exact ⟨rfl, rfl⟩
set_option maxRecDepth 100000 in
set_option maxHeartbeats 1000000 in
theorem form_88 (rb : Nat) (w : World) : Calls Tryd.prog 70 #[.pointer (some ⟨rb, 0, none⟩), .int .u8 88] w (fun e w' => w' = w ∧ e = .returned (formV rb (some 77))) := by
  go_enter Tryd.func70, Tryd.ntmps70
  go_wp2
  go_ret
  exact ⟨rfl, rfl⟩
set_option maxRecDepth 100000 in
set_option maxHeartbeats 1000000 in
theorem form_68 (rb : Nat) (w : World) : Calls Tryd.prog 70 #[.pointer (some ⟨rb, 0, none⟩), .int .u8 68] w (fun e w' => w' = w ∧ e = .returned (formV rb (some 77))) := by
  go_enter Tryd.func70, Tryd.ntmps70
  go_wp2
  go_ret
  exact ⟨rfl, rfl⟩
set_option maxRecDepth 100000 in
set_option maxHeartbeats 1000000 in
theorem form_86 (rb : Nat) (w : World) : Calls Tryd.prog 70 #[.pointer (some ⟨rb, 0, none⟩), .int .u8 86] w (fun e w' => w' = w ∧ e = .returned (formV rb (some 77))) := by
  go_enter Tryd.func70, Tryd.ntmps70
  go_wp2
  go_ret
  exact ⟨rfl, rfl⟩
set_option maxRecDepth 100000 in
set_option maxHeartbeats 1000000 in
theorem form_87 (rb : Nat) (w : World) : Calls Tryd.prog 70 #[.pointer (some ⟨rb, 0, none⟩), .int .u8 87] w (fun e w' => w' = w ∧ e = .returned (formV rb (some 77))) := by
  go_enter Tryd.func70, Tryd.ntmps70
  go_wp2
  go_ret
  exact ⟨rfl, rfl⟩
set_option maxRecDepth 100000 in
set_option maxHeartbeats 1000000 in
theorem form_75 (rb : Nat) (w : World) : Calls Tryd.prog 70 #[.pointer (some ⟨rb, 0, none⟩), .int .u8 75] w (fun e w' => w' = w ∧ e = .returned (formV rb (some 77))) := by
  go_enter Tryd.func70, Tryd.ntmps70
  go_wp2
  go_ret
  exact ⟨rfl, rfl⟩
set_option maxRecDepth 100000 in
set_option maxHeartbeats 1000000 in
theorem form_76 (rb : Nat) (w : World) : Calls Tryd.prog 70 #[.pointer (some ⟨rb, 0, none⟩), .int .u8 76] w (fun e w' => w' = w ∧ e = .returned (formV rb (some 77))) := by
  go_enter Tryd.func70, Tryd.ntmps70
  go_wp2
  go_ret
  exact ⟨rfl, rfl⟩
set_option maxRecDepth 100000 in
set_option maxHeartbeats 1000000 in
theorem form_no (rb : Nat) (w : World) (c : Int) (h0 : 0 ≤ c) (h1 : c ≤ 255) (n110 : c ≠ 110) (n116 : c ≠ 116) (n84 : c ≠ 84) (n80 : c ≠ 80) (n72 : c ≠ 72) (n83 : c ≠ 83) (n66 : c ≠ 66) (n88 : c ≠ 88) (n68 : c ≠ 68) (n86 : c ≠ 86) (n87 : c ≠ 87) (n75 : c ≠ 75) (n76 : c ≠ 76) : Calls Tryd.prog 70 #[.pointer (some ⟨rb, 0, none⟩), .int .u8 c] w (fun e w' => w' = w ∧ e = .returned Value.nilFunc) := by
  go_enter Tryd.func70, Tryd.ntmps70
  go_wp2
  go_ret
  exact ⟨rfl, rfl⟩
theorem form_any (rb : Nat) (w : World) (c : UInt8) : Calls Tryd.prog 70 #[.pointer (some ⟨rb, 0, none⟩), .int .u8 c.toNat] w (fun e w' => w' = w ∧ e = .returned (formV rb (formOf c))) := by
  unfold formOf
  by_cases n110 : c = 110
  · subst n110; exact form_110 rb w
  simp only [if_neg n110]
  by_cases n116 : c = 116
  · subst n116; exact form_116 rb w
  simp only [if_neg n116]
  by_cases n84 : c = 84
  · subst n84; exact form_84 rb w
  simp only [if_neg n84]
  by_cases n80 : c = 80
  · subst n80; exact form_80 rb w
  simp only [if_neg n80]
  by_cases n72 : c = 72
  · subst n72; exact form_72 rb w
  simp only [if_neg n72]
  by_cases n83 : c = 83
  · subst n83; exact form_83 rb w
  simp only [if_neg n83]
  by_cases n66 : c = 66
  · subst n66; exact form_66 rb w
  simp only [if_neg n66]
  by_cases n88 : c = 88
  · subst n88; exact form_88 rb w
  simp only [if_neg n88]
  by_cases n68 : c = 68
  · subst n68; exact form_68 rb w
  simp only [if_neg n68]
  by_cases n86 : c = 86
  · subst n86; exact form_86 rb w
  simp only [if_neg n86]
  by_cases n87 : c = 87
  · subst n87; exact form_87 rb w
  simp only [if_neg n87]
  by_cases n75 : c = 75
  · subst n75; exact form_75 rb w
  simp only [if_neg n75]
  by_cases n76 : c = 76
  · subst n76; exact form_76 rb w
  simp only [if_neg n76]
  have hc : (c.toNat : Int) ≤ 255 := by have := c.toNat_lt; omega
  have ne : ∀ k : UInt8, c ≠ k → (c.toNat : Int) ≠ (k.toNat : Int) := fun k h h' => h (UInt8.toNat_inj.mp (by omega))
  exact form_no rb w c.toNat (by omega) hc (ne 110 n110) (ne 116 n116) (ne 84 n84) (ne 80 n80) (ne 72 n72) (ne 83 n83) (ne 66 n66) (ne 88 n88) (ne 68 n68) (ne 86 n86) (ne 87 n87) (ne 75 n75) (ne 76 n76)
end Go.Proofs.YtakfhoodjcfpcaaDoor
namespace Go.Proofs.YtakfhoodjcfpcaaDoor
open Go.RowKit
theorem beq_u8 (a b : UInt8) : ((a.toNat : Int) == (b.toNat : Int)) = (a == b) := by
  rw [Bool.eq_iff_iff]
  simp only [beq_iff_eq]
  exact ⟨fun h => UInt8.toNat_inj.mp (by omega), fun h => (by rw [h])⟩
theorem first_byte (t : ByteArray) (c : UInt8) (l : List UInt8) (ht : t.data.toList = c :: l) (h0 : 0 < t.size) : t[0] = c := by
  have e : t.data.toList[0]? = some c := by rw [ht]; rfl
  have : t.data[0]? = some c := by simpa using e
  exact (Array.getElem?_eq_some_iff.mp this).2
set_option maxRecDepth 100000 in
set_option maxHeartbeats 1000000 in
theorem public_any (t : ByteArray) (w : World) (c : UInt8) (l : List UInt8) (ht : t.data.toList = c :: l) :
    Calls Tryd.prog 78 #[.string t] w (fun e w' => w' = w ∧ e = .returned (.bool (c == 80 || c == 87 || c == 76))) := by
  have hsz : t.size = l.length + 1 := by
    have : t.data.toList.length = t.size := by show _ = t.data.size; rw [Array.length_toList]
    rw [← this, ht]; rfl
  have h0 : 0 < t.size := by omega
  have hf := Lib.hid (first_byte t c l ht h0)
  rw [← beq_u8 c 80, ← beq_u8 c 87, ← beq_u8 c 76]
  obtain ⟨x, hx⟩ : ∃ x : Int, (c.toNat : Int) = x := ⟨_, rfl⟩
  have HX : Hid ((t[0].toNat : Int) = x) := by rw [hf.out]; exact hx
  rw [hx]
  obtain ⟨o, ho⟩ : ∃ o, (x == ((80 : UInt8).toNat : Int) || x == ((87 : UInt8).toNat : Int) || x == ((76 : UInt8).toNat : Int)) = o := ⟨_, rfl⟩
  have HO := Lib.hid ho
  rw [ho]; clear ho hx hf
  go_enter Tryd.func78, Tryd.ntmps78
  go_wp2
  all_goals go_ret
  all_goals refine ⟨rfl, ?_⟩
  all_goals have hX := HX.out
  all_goals have hO := HO.out
  all_goals clear HX HO
  all_goals subst hO
  all_goals subst hX
  all_goals (first | rfl | (simp_all; done))
end Go.Proofs.YtakfhoodjcfpcaaDoor
namespace Go.Proofs.YtakfhoodjcfpcaaDoor
open Go.RowKit
theorem size_of_list (t : ByteArray) (c : UInt8) (l : List UInt8) (ht : t.data.toList = c :: l) : 0 < t.size := by
  have : t.data.toList.length = t.size := by show _ = t.data.size; rw [Array.length_toList]
  rw [← this, ht]; simp
set_option maxRecDepth 100000 in
set_option maxHeartbeats 1000000 in
theorem fits_80 (n d : Int) (u k0 : ByteArray) (g km kc : Nat) (w : World) (hg : g < w.heap.size) (hkm : 0 < km) (hk0 : w.cell? ⟨g, 0, none⟩ = some (.string k0)) (c : UInt8) (l : List UInt8) (ht : k0.data.toList = c :: l) :
    Calls Tryd.prog 71 #[.agg #[.int .u8 80, .int .i64 n, .string u, .slice (some ⟨g, 0, none⟩) km kc, .int .i64 d]] w (fun e w' => Below w.heap.size w w' ∧ e = .returned (.bool (!(c == 86) && !(c == 75)))) := by
  have h0 := size_of_list k0 c l ht
  have hf := Lib.hid (first_byte k0 c l ht h0)
  rw [← beq_u8 c 86, ← beq_u8 c 75]
  obtain ⟨x, hx⟩ : ∃ x : Int, (c.toNat : Int) = x := ⟨_, rfl⟩
  have HX : Hid ((k0[0].toNat : Int) = x) := by rw [hf.out]; exact hx
  rw [hx]
  obtain ⟨o, ho⟩ : ∃ o, (!(x == ((86 : UInt8).toNat : Int)) && !(x == ((75 : UInt8).toNat : Int))) = o := ⟨_, rfl⟩
  have HO := Lib.hid ho
  rw [ho]; clear ho hx hf ht
  go_enter Tryd.func71, Tryd.ntmps71
  go_wp2
  all_goals go_ret
  all_goals refine ⟨(Below.refl _ _).alloc (Nat.le_refl _) _, ?_⟩
  all_goals have hX := HX.out
  all_goals have hO := HO.out
  all_goals clear HX HO
  all_goals subst hO
  all_goals subst hX
  all_goals (first | rfl | (simp_all; done))
set_option maxRecDepth 100000 in
set_option maxHeartbeats 1000000 in
theorem fits_no (n d c : Int) (u : ByteArray) (kv : Value) (w : World) (h80 : c ≠ 80) (h88 : c ≠ 88) (h87 : c ≠ 87) (h76 : c ≠ 76) :
    Calls Tryd.prog 71 #[.agg #[.int .u8 c, .int .i64 n, .string u, kv, .int .i64 d]] w (fun e w' => Below w.heap.size w w' ∧ e = .returned (.bool true)) := by
  go_enter Tryd.func71, Tryd.ntmps71
  go_wp2
  go_ret
  exact ⟨(Below.refl _ _).alloc (Nat.le_refl _) _, rfl⟩
set_option maxRecDepth 100000 in
set_option maxHeartbeats 1000000 in
theorem fits_76 (n d : Int) (u k0 : ByteArray) (g km kc : Nat) (w : World) (hg : g < w.heap.size) (hkm : 0 < km) (hk0 : w.cell? ⟨g, 0, none⟩ = some (.string k0)) (c : UInt8) (l : List UInt8) (ht : k0.data.toList = c :: l) :
    Calls Tryd.prog 71 #[.agg #[.int .u8 76, .int .i64 n, .string u, .slice (some ⟨g, 0, none⟩) km kc, .int .i64 d]] w (fun e w' => Below w.heap.size w w' ∧ e = .returned (.bool (c == 80 || c == 87 || c == 76))) := by
  have HP : ∀ W, Hid (Calls Tryd.prog 78 #[.string k0] W _) := fun W => public_any k0 W c l ht
  obtain ⟨o, ho⟩ : ∃ o, (c == 80 || c == 87 || c == 76) = o := ⟨_, rfl⟩
  rw [ho] at HP ⊢
  clear ho ht
  go_enter Tryd.func71, Tryd.ntmps71
  go_wp2_with (go_at_call 78; (with_reducible refine Calls.mono (HP _).out ?_); rintro e w1 ⟨rfl, rfl⟩)
  go_ret
  exact ⟨(Below.refl _ _).alloc (Nat.le_refl _) _, rfl⟩
set_option maxRecDepth 100000 in
set_option maxHeartbeats 1000000 in
theorem fits_87 (n d : Int) (u k0 k1 : ByteArray) (g km kc : Nat) (w : World) (hg : g < w.heap.size) (hkm : 1 < km) (hk0 : w.cell? ⟨g, 0, none⟩ = some (.string k0)) (hk1 : w.cell? ⟨g, 1, none⟩ = some (.string k1)) (c c' : UInt8) (l l' : List UInt8) (ht : k0.data.toList = c :: l) (ht' : k1.data.toList = c' :: l') :
    Calls Tryd.prog 71 #[.agg #[.int .u8 87, .int .i64 n, .string u, .slice (some ⟨g, 0, none⟩) km kc, .int .i64 d]] w (fun e w' => Below w.heap.size w w' ∧ e = .returned (.bool ((c == 80 || c == 87 || c == 76) && (c' == 80 || c' == 87 || c' == 76)))) := by
  have HP : ∀ W, Hid (Calls Tryd.prog 78 #[.string k0] W _) := fun W => public_any k0 W c l ht
  have HQ : ∀ W, Hid (Calls Tryd.prog 78 #[.string k1] W _) := fun W => public_any k1 W c' l' ht'
  obtain ⟨o, ho⟩ : ∃ o, (c == 80 || c == 87 || c == 76) = o := ⟨_, rfl⟩
  obtain ⟨o', ho'⟩ : ∃ o, (c' == 80 || c' == 87 || c' == 76) = o := ⟨_, rfl⟩
  rw [ho] at HP ⊢
  rw [ho'] at HQ ⊢
  clear ho ht ho' ht'
  cases o with
  | false =>
    go_enter Tryd.func71, Tryd.ntmps71
    go_wp2_with (go_at_call 78; (with_reducible refine Calls.mono (HP _).out ?_); rintro e w1 ⟨rfl, rfl⟩)
    go_ret
    exact ⟨(Below.refl _ _).alloc (Nat.le_refl _) _, rfl⟩
  | true =>
    go_enter Tryd.func71, Tryd.ntmps71
    go_wp2_with (first | (go_at_call 78; (with_reducible refine Calls.mono (HP _).out ?_); rintro e w1 ⟨rfl, rfl⟩) | (go_at_call 78; (with_reducible refine Calls.mono (HQ _).out ?_); rintro e w1 ⟨rfl, rfl⟩))
    go_ret
    exact ⟨(Below.refl _ _).alloc (Nat.le_refl _) _, rfl⟩
end Go.Proofs.YtakfhoodjcfpcaaDoor
namespace Go.Proofs.YtakfhoodjcfpcaaDoor
open Go.RowKit
theorem leq_not_lt : ∀ a b : List UInt8, (Op.bytesLess a b || a == b) = !(bytesLt b a) := by
  intro a
  induction a with
  | nil => intro b; cases b <;> rfl
  | cons x a ih =>
    intro b
    cases b with
    | nil => rfl
    | cons y b =>
      have h := ih b
      simp only [bytesLt, Op.bytesLess]
      rw [show ((x :: a) == (y :: b)) = (x == y && a == b) from rfl]
      by_cases h1 : x < y
      · have h2 : ¬ y < x := by rw [UInt8.lt_iff_toNat_lt] at *; omega
        simp [h1, h2]
      · by_cases h2 : y < x
        · have h3 : x ≠ y := by rintro rfl; exact h1 h2
          simp [h1, h2, h3]
        · have h3 : x = y := UInt8.toNat_inj.mp (by rw [UInt8.lt_iff_toNat_lt] at *; omega)
          subst h3
          simp only [h1, if_false, decide_false, Bool.false_or, beq_self_eq_true, Bool.true_and]
          exact h
set_option maxRecDepth 100000 in
set_option maxHeartbeats 1000000 in
theorem fits_88 (n d : Int) (u k0 k1 : ByteArray) (g km kc : Nat) (w : World) (hg : g < w.heap.size) (hkm : 1 < km) (hk0 : w.cell? ⟨g, 0, none⟩ = some (.string k0)) (hk1 : w.cell? ⟨g, 1, none⟩ = some (.string k1)) :
    Calls Tryd.prog 71 #[.agg #[.int .u8 88, .int .i64 n, .string u, .slice (some ⟨g, 0, none⟩) km kc, .int .i64 d]] w (fun e w' => Below w.heap.size w w' ∧ e = .returned (.bool (!(bytesLt k1.toList k0.toList)))) := by
  rw [← leq_not_lt]
  go_enter Tryd.func71, Tryd.ntmps71
  go_wp2
  go_quiet (fail)
  all_goals go_wp2
  all_goals go_ret
  exact ⟨(((Fr.refl (fun _ => False) w).alloc _).drewN _).toBelow, rfl⟩
theorem own_cells {w : World} {base : Nat} {e : TypeId} {v : Value} {n : Nat} {xs : List Value} (h : w.ownsRow base e 1 v n xs) (hn : 0 < n) :
    ∃ g cap, v = .slice (some ⟨g, 0, none⟩) n cap ∧ g < w.heap.size ∧ ∀ i x, xs[i]? = some x → w.cell? ⟨g, i, none⟩ = some x := by
  rcases h.2 with ⟨_, h⟩ | ⟨g, cap, cur, h1, _, h3, _, _, _, h4⟩
  · omega
  · refine ⟨g, cap, h1, ?_, fun i x hx => ?_⟩
    · rcases Nat.lt_or_ge g w.heap.size with k | k
      · exact k
      · rw [Array.getElem?_eq_none k] at h3; cases h3
    · rw [← h4, List.getElem?_take] at hx
      split at hx
      · simp only [World.cell?, h3]
        simpa using hx
      · cases hx
theorem len_two {α : Type} {l : List α} (h : l.length = 2) : ∃ a b, l = [a, b] := by
  match l, h with
  | [a, b], _ => exact ⟨a, b, rfl⟩
theorem fits_any (base : Nat) (op : UInt8) (n d : Int) (u : ByteArray) (ko : Option Addr) (km kc : Nat) (ks : List (List UInt8)) (w : World) (hK : KidsAt base (.slice ko km kc) ks w) (hlen : ∀ k, arity op = some k → ks.length = k) (hne : ∀ c ∈ ks, c ≠ []) :
    Calls Tryd.prog 71 #[.agg #[.int .u8 op.toNat, .int .i64 n, .string u, .slice ko km kc, .int .i64 d]] w (fun e w' => Below w.heap.size w w' ∧ e = .returned (.bool (fitsB op ks))) := by
  obtain ⟨vs, rfl, hown⟩ := hK
  have hl : ∀ k, arity op = some k → vs.length = k := fun k hk => by simpa using hlen k hk
  have one : ∀ v, v ∈ vs → ∃ c l, v.data.toList = c :: l := fun v hv => by
    cases hv' : v.data.toList with
    | nil => exact absurd hv' (hne _ (List.mem_map_of_mem hv))
    | cons c l => exact ⟨c, l, rfl⟩
  by_cases h80 : op = 80
  · subst h80
    have h1 := hl 1 (by decide)
    obtain ⟨g, cap, hv, hg, hc⟩ := own_cells hown (by omega)
    cases hv
    obtain ⟨v, rfl⟩ := List.length_eq_one_iff.mp h1
    obtain ⟨c, l, hcl⟩ := one v (by simp)
    have := fits_80 n d u v g [v].length kc w hg (by simp) (hc 0 _ rfl) c l hcl
    have e : fitsB 80 (List.map (fun v => v.data.toList) [v]) = (!(c == 86) && !(c == 75)) := by simp [fitsB, nth, hcl]
    rw [e]; exact this
  by_cases h88 : op = 88
  · subst h88
    have h1 := hl 2 (by decide)
    obtain ⟨g, cap, hv, hg, hc⟩ := own_cells hown (by omega)
    cases hv
    obtain ⟨v, v', rfl⟩ := len_two h1
    have := fits_88 n d u v v' g [v, v'].length kc w hg (by simp) (hc 0 _ rfl) (hc 1 _ rfl)
    have e : fitsB 88 (List.map (fun v => v.data.toList) [v, v']) = !(bytesLt v'.toList v.toList) := by simp [fitsB, nth, ByteArray.toList_eq]
    rw [e]; exact this
  by_cases h87 : op = 87
  · subst h87
    have h1 := hl 2 (by decide)
    obtain ⟨g, cap, hv, hg, hc⟩ := own_cells hown (by omega)
    cases hv
    obtain ⟨v, v', rfl⟩ := len_two h1
    obtain ⟨c, l, hcl⟩ := one v (by simp)
    obtain ⟨c', l', hcl'⟩ := one v' (by simp)
    have := fits_87 n d u v v' g [v, v'].length kc w hg (by simp) (hc 0 _ rfl) (hc 1 _ rfl) c c' l l' hcl hcl'
    have e : fitsB 87 (List.map (fun v => v.data.toList) [v, v']) = ((c == 80 || c == 87 || c == 76) && (c' == 80 || c' == 87 || c' == 76)) := by simp [fitsB, nth, isPub, hcl, hcl']
    rw [e]; exact this
  by_cases h76 : op = 76
  · subst h76
    have h1 := hl 2 (by decide)
    obtain ⟨g, cap, hv, hg, hc⟩ := own_cells hown (by omega)
    cases hv
    obtain ⟨v, v', rfl⟩ := len_two h1
    obtain ⟨c, l, hcl⟩ := one v (by simp)
    have := fits_76 n d u v g [v, v'].length kc w hg (by simp) (hc 0 _ rfl) c l hcl
    have e : fitsB 76 (List.map (fun v => v.data.toList) [v, v']) = (c == 80 || c == 87 || c == 76) := by simp [fitsB, nth, isPub, hcl]
    rw [e]; exact this
  have ne : ∀ k : UInt8, op ≠ k → (op.toNat : Int) ≠ (k.toNat : Int) := fun k h h' => h (UInt8.toNat_inj.mp (by omega))
  have := fits_no n d op.toNat u (.slice ko km kc) w (ne 80 h80) (ne 88 h88) (ne 87 h87) (ne 76 h76)
  have e : fitsB op (List.map (fun v => v.data.toList) vs) = true := by simp [fitsB, h80, h88, h87, h76]
  rw [e]; exact this
end Go.Proofs.YtakfhoodjcfpcaaDoor
namespace Go.Proofs.YtakfhoodjcfpcaaDoor
open Go.RowKit
theorem heap_alloc_at (w : World) (o : Obj) : (w.alloc o).heap[w.heap.size]? = some o := (MapKept.heap_alloc w o).1
theorem below_new' (w : World) (o : Obj) : Below w.heap.size w (w.alloc o) := (Below.refl _ _).alloc (Nat.le_refl _) o
theorem info49 : (Tryd.prog.info? 102).map (·.size) = some 5 := by kernel_rfl
theorem results_cell_tmp {fn : Func} {t u : Tmp} {ty : TypeId} (h : fn.results = #[.cell t ty, .tmp u]) (tmps : Array Value) (P : Program) (w : World) {ad : Addr} {v : Value} (hp : tmps.getD t undef = .pointer (some ad)) (hl : (loadVar ty ad).run P w = .ok v w) : (results fn tmps).run P w = .ok (.tuple #[v, tmps.getD u undef]) w := by
  simp only [Array.getD_eq_getD_getElem?] at hp ⊢
  simp [results, h, hp, asAddr, hl]
theorem Fr.set' {S : Nat → Prop} {a b : World} (h : Fr S a b) (p : Addr) (v : Value) (hs : p.block < a.heap.size → S p.block) : Fr S a (b.setCell p v) :=
  ⟨h.os, h.tape, h.output, by simpa [World.setCell] using h.size, fun k hk hr => (Below.heap_setCell _ _ _ _ (fun e => hr (by rw [e]; exact hs (by rw [← e]; exact hk)))).trans (h.block k hk hr)⟩
theorem Fr.setR {S : Nat → Prop} {a b : World} (h : Fr S a b) (g : Nat) (cs : Array Value) (hs : g < a.heap.size → S g) : Fr S a (b.setRow g cs) :=
  ⟨h.os, h.tape, h.output, by simpa [World.setRow] using h.size, fun k hk hr => (setRow_other _ _ _ _ (fun e => hr (by rw [e]; exact hs (by rw [← e]; exact hk)))).trans (h.block k hk hr)⟩
theorem Fr.drew {S : Nat → Prop} {a b : World} (h : Fr S a b) : Fr S a b.drew := ⟨h.os, h.tape, h.output, h.size, h.block⟩
theorem Fr.trans' {S T : Nat → Prop} {a b c : World} (h : Fr S a b) (k : Fr T b c) (hst : ∀ i, i < a.heap.size → T i → S i) : Fr S a c :=
  ⟨k.os.trans h.os, k.tape.trans h.tape, k.output.trans h.output, Nat.le_trans h.size k.size, fun i hi hr => (k.block i (Nat.lt_of_lt_of_le hi h.size) (fun ht => hr (hst i hi ht))).trans (h.block i hi hr)⟩
theorem Fr.grownBy {rb : Nat} {a b : World} (h : Fr (fun k => k = rb) a b) : a.grownBy b (some rb) := ⟨h.os, h.tape, h.output, h.size, fun k hk hn => h.block k hk (fun e => hn (by rw [e]))⟩
theorem kids_base {B B' : Nat} {kv : Value} {ks : List (List UInt8)} {w : World} (h : KidsAt B kv ks w) (hb : B' ≤ B) : KidsAt B' kv ks w := by
  obtain ⟨vs, h1, h2, h3⟩ := h
  refine ⟨vs, h1, h2, h3.imp id fun ⟨g, cap, cur, e1, e2, e3⟩ => ⟨g, cap, cur, e1, Nat.le_trans hb e2, e3⟩⟩
theorem kids_fr {S : Nat → Prop} {B : Nat} {kv : Value} {ks : List (List UInt8)} {w w' : World} (h : KidsAt B kv ks w) (hf : Fr S w w') (hn : ∀ g, kv.ownBlock = some g → ¬ S g) : KidsAt B kv ks w' := by
  obtain ⟨vs, h1, h2, h3⟩ := h
  refine ⟨vs, h1, h2, ?_⟩
  rcases h3 with h0 | ⟨g, cap, cur, hv, hg, hh, hrest⟩
  · exact .inl h0
  · refine .inr ⟨g, cap, cur, hv, hg, ?_, hrest⟩
    have hlt : g < w.heap.size := (Array.getElem?_eq_some_iff.1 hh).1
    rw [hf.block g hlt (hn g (by rw [hv]; rfl))]; exact hh
theorem form_none {c : UInt8} (h : formOf c = none) (R : Nat) (r : List UInt8) : restP R c r = none := by
  unfold formOf at h
  by_cases h110 : c = 110
  · rw [if_pos h110] at h; cases h
  rw [if_neg h110] at h
  by_cases h116 : c = 116
  · rw [if_pos h116] at h; cases h
  rw [if_neg h116] at h
  by_cases h84 : c = 84
  · rw [if_pos h84] at h; cases h
  rw [if_neg h84] at h
  by_cases h80 : c = 80
  · rw [if_pos h80] at h; cases h
  rw [if_neg h80] at h
  by_cases h72 : c = 72
  · rw [if_pos h72] at h; cases h
  rw [if_neg h72] at h
  by_cases h83 : c = 83
  · rw [if_pos h83] at h; cases h
  rw [if_neg h83] at h
  by_cases h66 : c = 66
  · rw [if_pos h66] at h; cases h
  rw [if_neg h66] at h
  by_cases h88 : c = 88
  · rw [if_pos h88] at h; cases h
  rw [if_neg h88] at h
  by_cases h68 : c = 68
  · rw [if_pos h68] at h; cases h
  rw [if_neg h68] at h
  by_cases h86 : c = 86
  · rw [if_pos h86] at h; cases h
  rw [if_neg h86] at h
  by_cases h87 : c = 87
  · rw [if_pos h87] at h; cases h
  rw [if_neg h87] at h
  by_cases h75 : c = 75
  · rw [if_pos h75] at h; cases h
  rw [if_neg h75] at h
  by_cases h76 : c = 76
  · rw [if_pos h76] at h; cases h
  rw [if_neg h76] at h
  have ha : arity c = none := by
    unfold arity
    rw [if_neg (by rintro (h | h) <;> contradiction), if_neg (by rintro (h | h | h | h | h | h | h | h) <;> contradiction)]
  unfold restP
  rw [if_neg h110, if_neg h116, if_neg h84, ha]
theorem rest_any (rb xb a R f : Nat) (c : UInt8) (s : ByteArray) (w : World) (hf : formOf c = some f) (hs : s.size ≤ 16384) (ha : a ≤ s.size) (hR : Rd rb s a w) (hX : Xs xb c.toNat 0 ⟨#[]⟩ (.slice none 0 0) 1 w) (hL : LibOk w) (hne : xb ≠ rb) (hRR : R ≤ 64) (h6 : 3 ≤ rb) (h6' : 3 ≤ xb) (hT : TermAt rb R s) :
    Calls Tryd.prog f #[.pointer (some ⟨rb, 0, none⟩), .pointer (some ⟨xb, 0, none⟩), .int .i64 (R + 1)] w (RestPost rb xb s c.toNat (restP R c (s.data.toList.drop a)) w) := by
  unfold formOf at hf
  by_cases h110 : c = 110
  · rw [if_pos h110] at hf; cases hf; subst h110; exact name_rest rb xb a R s _ w hs ha hR hX hL hne
  rw [if_neg h110] at hf
  by_cases h116 : c = 116
  · rw [if_pos h116] at hf; cases hf; subst h116; exact text_rest rb xb a R s _ w hs ha hR hX hL hne
  rw [if_neg h116] at hf
  by_cases h84 : c = 84
  · rw [if_pos h84] at hf; cases hf; subst h84; exact tuple_rest rb xb a R s _ w hs ha hR hX hL hne hRR h6 h6' hT
  rw [if_neg h84] at hf
  by_cases h80 : c = 80
  · rw [if_pos h80] at hf; cases hf; subst h80; exact one_any rb xb a R s _ w hs hRR ha hR hX hL hne h6 h6' hT
  rw [if_neg h80] at hf
  by_cases h72 : c = 72
  · rw [if_pos h72] at hf; cases hf; subst h72; exact one_any rb xb a R s _ w hs hRR ha hR hX hL hne h6 h6' hT
  rw [if_neg h72] at hf
  by_cases h83 : c = 83
  · rw [if_pos h83] at hf; cases hf; subst h83; exact two_any rb xb a R s _ w hs hRR ha hR hX hL hne h6 h6' hT
  rw [if_neg h83] at hf
  by_cases h66 : c = 66
  · rw [if_pos h66] at hf; cases hf; subst h66; exact two_any rb xb a R s _ w hs hRR ha hR hX hL hne h6 h6' hT
  rw [if_neg h66] at hf
  by_cases h88 : c = 88
  · rw [if_pos h88] at hf; cases hf; subst h88; exact two_any rb xb a R s _ w hs hRR ha hR hX hL hne h6 h6' hT
  rw [if_neg h88] at hf
  by_cases h68 : c = 68
  · rw [if_pos h68] at hf; cases hf; subst h68; exact two_any rb xb a R s _ w hs hRR ha hR hX hL hne h6 h6' hT
  rw [if_neg h68] at hf
  by_cases h86 : c = 86
  · rw [if_pos h86] at hf; cases hf; subst h86; exact two_any rb xb a R s _ w hs hRR ha hR hX hL hne h6 h6' hT
  rw [if_neg h86] at hf
  by_cases h87 : c = 87
  · rw [if_pos h87] at hf; cases hf; subst h87; exact two_any rb xb a R s _ w hs hRR ha hR hX hL hne h6 h6' hT
  rw [if_neg h87] at hf
  by_cases h75 : c = 75
  · rw [if_pos h75] at hf; cases hf; subst h75; exact two_any rb xb a R s _ w hs hRR ha hR hX hL hne h6 h6' hT
  rw [if_neg h75] at hf
  by_cases h76 : c = 76
  · rw [if_pos h76] at hf; cases hf; subst h76; exact two_any rb xb a R s _ w hs hRR ha hR hX hL hne h6 h6' hT
  rw [if_neg h76] at hf
  cases hf
theorem parse_nil (R : Nat) : parse R [] = none := by cases R <;> rfl
theorem rest_kids {R : Nat} {c : UInt8} {r : List UInt8} {n : Nat} {t : List UInt8} {ks : List (List UInt8)} {d : Nat} {u : List UInt8} (h : restP R c r = some (n, t, ks, d, u)) : (∀ k, arity c = some k → ks.length = k) ∧ ∀ x ∈ ks, x ≠ [] := by
  have key : ∀ k l, kidsO R k l = some (n, t, ks, d, u) → ks.length = k ∧ ∀ x ∈ ks, x ≠ [] := by
    intro k l hk
    unfold kidsO at hk
    split at hk
    · cases hk
    · rename_i ks' d' u' hk'
      cases hk
      obtain ⟨h1, _, h3⟩ := kids_each (parse R) (parse_front R) k l ks d u hk'
      refine ⟨h1, fun x hx e => ?_⟩
      obtain ⟨y, hy, _⟩ := h3 x hx
      rw [e, parse_nil] at hy; cases hy
  unfold restP at h
  split at h
  · rename_i h1
    subst h1
    unfold nameO at h
    split at h
    · cases h
    · cases h; exact ⟨fun k hk => by simp [arity] at hk, fun x hx => by cases hx⟩
  split at h
  · rename_i h1
    subst h1
    unfold textO at h
    split at h
    · cases h
    · split at h
      · cases h; exact ⟨fun k hk => by simp [arity] at hk, fun x hx => by cases hx⟩
      · cases h
  split at h
  · rename_i h1
    subst h1
    unfold tupleO at h
    split at h
    · cases h
    · split at h
      · exact ⟨fun k hk => by simp [arity] at hk, (key _ _ h).2⟩
      · cases h
  split at h
  · cases h
  · rename_i k hk
    exact ⟨fun k' hk' => by rw [hk] at hk'; cases hk'; exact (key _ _ h).1, (key _ _ h).2⟩
end Go.Proofs.YtakfhoodjcfpcaaDoor
