/- route: the plain model -/
import Derived.Shelf.Strings.Builder1
import Derived.Shelf.Small.Bits
import Derived.Shelf.Small.Strs
import Derived.Shelf.Small.Wraps
import Derived.Shelf.Strings.BuilderF
import Derived.Shelf.Strings.BuilderK
import Derived.Shelf.Strconv.Itoa0
import Derived.Shelf.Strconv.Itoa1
import Derived.Shelf.LaysM
import Derived.Shelf.Strconv.Itoa2
import Derived.Shelf.Strconv.Itoa3
import Derived.Shelf.Strconv.Itoa4
import Derived.Shelf.Strconv.ParseIntEmpty
import Derived.Shelf.Strconv.Clone
import Derived.Shelf.Strconv.SyntaxError
import Derived.Shelf.LaysC
import Derived.Shelf.Strconv.ToError
import Derived.Shelf.Strconv.Lower
import Derived.Shelf.Strconv.ParseUint10
import Derived.Shelf.Strconv.ParseUint10Empty
import Derived.Shelf.Strconv.ParseUint10Any
import Derived.Shelf.Strconv.ParseInt10
import Derived.Shelf.Strconv.RangeError
import Derived.Shelf.Strconv.ToErrorRange
import Derived.Shelf.Strconv.ParseUintEmpty
import Derived.Shelf.Strconv.ParseUint10b64
import Derived.Shelf.Strconv.ParseUint10b32
import Derived.Shelf.Strconv.ParseUint10b16
import Derived.Shelf.Strconv.ParseUint10b8
import Derived.Shelf.Strconv.ParseUint10At
import Derived.Shelf.Strconv.ParseInt10At64
import Derived.Shelf.Strconv.ParseInt10At32
import Derived.Shelf.Strconv.ParseInt10At16
import Derived.Shelf.Strconv.ParseInt10At8
import Derived.Shelf.Strconv.ParseInt10All
import Derived.Shelf.Strconv.ParseIntPublic10
import Derived.Shelf.Strconv.ErrVarParseInt
import Derived.Shelf.Strings.Search1
import Derived.Shelf.Bits.Mul64
import Derived.Shelf.Strings.BuilderCap
import Derived.Ground.Names2Prog
import Derived.Shelf.Slices.Clone
import Derived.Shelf.Slices.SearchI
import Derived.Ground.SlgnProg
import Derived.Shelf.SlicesE.Clone
import Derived.Lib.ParseIntB
import Derived.Lib.Bytealg
import Derived.Lib.ItoaNum
import Derived.Lib.ParseIntBCases
import Derived.WalkKit
import Derived.WalkSpells
import Derived.WalkLawsBesides
import Derived.Handy
import Derived.Lib.Hide
import Derived.Deep.QuietTactic
import Derived.BigQuiet
import Derived.Deep.RegionHeld3
import Derived.Lib.Strings
import Derived.Lib.IndexBytes
import Derived.BigRegion
import Derived.Deep.RegionLaw
import Derived.Deep.AppendLies
import Derived.Deep.LoopGhost
import Derived.Deep.Onto
import Derived.Deep.WholeRow
import Derived.Deep.CutRange
import Derived.Laws.CopyOwn
import Derived.Lib.ItoaLen
import Derived.Lib.AppendIntMem
import Derived.Deep.CutBlock
import Derived.Deep.MidRow
import Derived.Deep.RegionHeld
import Derived.Test.YtbdimlppnhcicaaGreatDoorProg
import Derived.Test.YtbdimlppnhcicaaGreatDoorRows
import Derived.Test.YtbdimlppnhcicaaGreatDoorNu
import Derived.Test.YtbdimlppnhcicaaGreatDoorTa
import Derived.Test.YtbdimlppnhcicaaGreatDoorRg
import Derived.Test.YtbdimlppnhcicaaGreatDoorOb
import Derived.Test.YtbdimlppnhcicaaGreatDoorOe
import Derived.Test.YtbdimlppnhcicaaGreatDoorMny
namespace Go.Proofs.YtbdimlppnhcicaaGreatDoor.Rte
set_option linter.unusedVariables false
open Go.RowKit Go.Proofs.YtbdimlppnhcicaaGreatDoor Go.Proofs.YtbdimlppnhcicaaGreatDoor.Mny
/-! route: the plain model, and what it says -/
/-- a channel, a policy, an ask, a way over a channel, what is to reach a node -/
structure Edg where
  chan : ByteArray
  a : ByteArray
  b : ByteArray
  cap : Int
structure Plc where
  chan : ByteArray
  frm : ByteArray
  stamp : Int
  base : Int
  rate : Int
  delta : Int
  min : Int
  max : Int
  off : Bool
structure AskR where
  frm : ByteArray
  dst : ByteArray
  amt : Int
  exp : Int
  latest : Int
  fee : Int
  bad : List ByteArray
structure Way where
  chan : ByteArray
  cap : Int
  frm : ByteArray
  dst : ByteArray
structure En where
  amt : Int
  exp : Int
  hops : List Hp
def memB (l : List ByteArray) (s : ByteArray) : Bool := l.any fun t => decide (t = s)
theorem memB_iff (l : List ByteArray) (s : ByteArray) : memB l s = true ↔ s ∈ l := by
  unfold memB
  rw [List.any_eq_true]
  constructor
  · rintro ⟨t, ht, e⟩; rw [decide_eq_true_iff] at e; exact e ▸ ht
  · intro h; exact ⟨s, h, by rw [decide_eq_true_iff]⟩
instance (s : ByteArray) (l : List ByteArray) : Decidable (s ∈ l) := decidable_of_iff (memB l s = true) (memB_iff l s)
def timeB (n : Int) : Bool := decide (0 ≤ n ∧ n < 2147483648)
def waysGo : List ByteArray → List Edg → List Way
  | _, [] => []
  | met, e :: l => (if e.chan ∈ met ∨ e.a = e.b then [] else [⟨e.chan, e.cap, e.a, e.b⟩, ⟨e.chan, e.cap, e.b, e.a⟩]) ++ waysGo (e.chan :: met) l
def polOf (P : List Plc) (c f : ByteArray) : Option Plc := P.find? fun p => decide (p.chan = c ∧ p.frm = f)
def hasN (l : List Hp) (t : ByteArray) : Bool := l.any fun h => decide (h.node = t)
def befP (w : Way) (v : En) (p : Plc) : Option En :=
  if p.off = true ∨ v.amt < p.min ∨ p.max < v.amt then none
  else match grossO v.amt p.base p.rate with
    | none => none
    | some g => if timeB (v.exp + p.delta) = true then some ⟨g, v.exp + p.delta, ⟨w.chan, w.dst, v.amt, v.exp⟩ :: v.hops⟩ else none
def beforeW (P : List Plc) (w : Way) (v : En) : Option En :=
  if hasN v.hops w.frm = true then none
  else match polOf P w.chan w.frm with
    | none => none
    | some p => befP w v p
/-- numbers in order of rank -/
def lexB : List Int → List Int → Bool
  | _, [] => false
  | [], _ :: _ => true
  | a :: l, b :: m => decide (a < b) || (decide (a = b) && lexB l m)
def encS (s : ByteArray) : List Int := s.data.toList.map (fun c => (c.toNat : Int) + 1) ++ [0]
def tailK (l : List Hp) : List Int := l.flatMap fun h => encS h.chan
def keyE (x : En) : List Int := x.amt :: x.exp :: (x.hops.length : Int) :: tailK x.hops
def betB (x y : En) : Bool := lexB (keyE x) (keyE y)
def bestE (o : Option En) (x : En) : En := match o with | none => x | some y => if betB x y = true then x else y
def lookR : List (ByteArray × En) → ByteArray → Option En
  | [], _ => none
  | (n, x) :: l, t => if n = t then some x else lookR l t
def putR : List (ByteArray × En) → ByteArray → En → List (ByteArray × En)
  | [], t, x => [(t, x)]
  | (n, y) :: l, t, x => if n = t then (n, bestE (some y) x) :: l else (n, y) :: putR l t x
def candW (P : List Plc) (A : AskR) (prev : List (ByteArray × En)) (w : Way) : Option En :=
  match lookR prev w.dst with
  | none => none
  | some v => if w.frm = A.frm ∨ w.frm = A.dst ∨ w.cap * 1000 < v.amt then none else beforeW P w v
def stepW (P : List Plc) (A : AskR) (prev next : List (ByteArray × En)) (w : Way) : List (ByteArray × En) :=
  match candW P A prev w with
  | none => next
  | some x => putR next w.frm x
def startE (A : AskR) : En := ⟨A.amt, A.exp, []⟩
def reachN (P : List Plc) (A : AskR) (W : List Way) : Nat → List (ByteArray × En)
  | 0 => [(A.dst, startE A)]
  | n + 1 => W.foldl (stepW P A (reachN P A W n)) [(A.dst, startE A)]
def candL (A : AskR) (reach : List (ByteArray × En)) (w : Way) : Option En :=
  match lookR reach w.dst with
  | none => none
  | some v => if w.frm ≠ A.frm ∨ w.cap * 1000 < v.amt ∨ A.fee < v.amt - A.amt ∨ A.latest < v.exp then none
    else some ⟨v.amt, v.exp, ⟨w.chan, w.dst, v.amt, v.exp⟩ :: v.hops⟩
def lastW (A : AskR) (reach : List (ByteArray × En)) (best : Option En) (w : Way) : Option En :=
  match candL A reach w with
  | none => best
  | some x => some (bestE best x)
def findB (P : List Plc) (A : AskR) (W : List Way) : Option En := W.foldl (lastW A (reachN P A W 19)) none
def plcBad (p : Plc) : Bool := decide (p.base < 0 ∨ p.rate < 0 ∨ p.min < 0 ∨ p.max < 0 ∨ ¬ (0 ≤ p.delta ∧ p.delta < 2147483648))
def edgBad (e : Edg) : Bool := decide (e.cap < 0 ∨ 2100000000000000 < e.cap)
def refusedN (K : ByteArray → Bool) (E : List Edg) (P : List Plc) (A : AskR) : Int :=
  if 256 < E.length ∨ 512 < P.length ∨ 256 < A.bad.length then 3
  else if K A.frm = false ∨ K A.dst = false ∨ A.frm = A.dst ∨ timeB A.exp = false ∨ timeB A.latest = false then 2
  else if A.amt < 1 ∨ 2100000000000000000 < A.amt ∨ A.fee < 0 ∨ 2100000000000000000 < A.fee then 40
  else if P.any plcBad = true then 2 else if E.any edgBad = true then 2 else 0
def outF : Option En → List Hp × Int
  | none => ([], 260)
  | some x => (x.hops, 0)
def findN (K : ByteArray → Bool) (E : List Edg) (P : List Plc) (A : AskR) : List Hp × Int :=
  if refusedN K E P A ≠ 0 then ([], refusedN K E P A) else outF (findB P A (waysGo A.bad E))
def leads (W : List Way) (a : ByteArray) (h : Hp) : Bool := W.any fun w => decide (w.chan = h.chan ∧ w.frm = a ∧ w.dst = h.node ∧ 0 ≤ h.amt ∧ h.amt ≤ w.cap * 1000)
def linkB (P : List Plc) (a : ByteArray) (pr : Option Hp) (h : Hp) : Bool :=
  match pr with
  | none => true
  | some g => match beforeW P ⟨h.chan, 0, a, h.node⟩ ⟨h.amt, h.exp, []⟩ with
    | none => false
    | some x => decide (x.amt = g.amt ∧ x.exp = g.exp)
def checkGo (P : List Plc) (W : List Way) : List ByteArray → ByteArray → Option Hp → List Hp → Option ByteArray
  | _, a, _, [] => some a
  | met, a, pr, h :: l => if leads W a h = false ∨ h.node ∈ met ∨ linkB P a pr h = false then none else checkGo P W (h.node :: met) h.node (some h) l
def hpZ : Hp := ⟨⟨#[]⟩, ⟨#[]⟩, 0, 0⟩
def endsB (A : AskR) (l : List Hp) (o : Option ByteArray) : Bool :=
  match o with
  | none => false
  | some a => decide (a = A.dst ∧ (l.getLastD hpZ).amt = A.amt ∧ (l.getLastD hpZ).exp = A.exp ∧ (l.headD hpZ).amt - A.amt ≤ A.fee ∧ (l.headD hpZ).exp ≤ A.latest)
def checkN (K : ByteArray → Bool) (E : List Edg) (P : List Plc) (A : AskR) (l : List Hp) : Bool × Int :=
  if refusedN K E P A ≠ 0 then (false, refusedN K E P A)
  else if l.length = 0 ∨ 20 < l.length then (false, 0)
  else (endsB A l (checkGo P (waysGo A.bad E) [A.frm] A.frm none l), 0)
/-! ranks -/
theorem lex_irrefl : ∀ l : List Int, lexB l l = false
  | [] => rfl
  | a :: l => by simp [lexB, lex_irrefl l]
theorem lex_nil : ∀ l : List Int, lexB l [] = false
  | [] => rfl
  | _ :: _ => rfl
theorem lex_cons (a b : Int) (l m : List Int) : lexB (a :: l) (b :: m) = true ↔ a < b ∨ (a = b ∧ lexB l m = true) := by
  simp [lexB]
theorem lex_trans : ∀ a b c : List Int, lexB a b = true → lexB b c = true → lexB a c = true
  | a, b, [], _, h2 => by rw [lex_nil] at h2; cases h2
  | a, [], _ :: _, h1, _ => by rw [lex_nil] at h1; cases h1
  | [], _ :: _, _ :: _, _, _ => rfl
  | x :: a, y :: b, z :: c, h1, h2 => by
    rw [lex_cons] at h1 h2 ⊢
    rcases h1 with h1 | ⟨h1, h1'⟩ <;> rcases h2 with h2 | ⟨h2, h2'⟩
    · left; omega
    · left; omega
    · left; omega
    · right; exact ⟨by omega, lex_trans a b c h1' h2'⟩
theorem lex_tri : ∀ a b : List Int, lexB a b = false → lexB b a = false → a = b
  | [], [], _, _ => rfl
  | [], _ :: _, h, _ => by cases h
  | _ :: _, [], _, h => by cases h
  | x :: a, y :: b, h1, h2 => by
    have n1 : ¬ (x < y ∨ (x = y ∧ lexB a b = true)) := fun h => by rw [(lex_cons ..).2 h] at h1; cases h1
    have n2 : ¬ (y < x ∨ (y = x ∧ lexB b a = true)) := fun h => by rw [(lex_cons ..).2 h] at h2; cases h2
    have e : x = y := by omega
    subst e
    have e2 := lex_tri a b (by cases h : lexB a b; rfl; exact absurd (.inr ⟨rfl, h⟩) n1) (by cases h : lexB b a; rfl; exact absurd (.inr ⟨rfl, h⟩) n2)
    rw [e2]
theorem le_le {a b c : List Int} (h1 : lexB b a = false) (h2 : lexB c b = false) : lexB c a = false := by
  cases h : lexB c a with
  | false => rfl
  | true =>
    cases h3 : lexB a b with
    | false => rw [lex_tri a b h3 h1] at h; rw [h] at h2; cases h2
    | true => rw [lex_trans c a b h h3] at h2; cases h2
theorem lt_not {a b : List Int} (h : lexB a b = true) : lexB b a = false := by
  cases h3 : lexB b a with
  | false => rfl
  | true => have := lex_trans a b a h h3; rw [lex_irrefl] at this; cases this
theorem lex_app : ∀ p a b : List Int, lexB (p ++ a) (p ++ b) = lexB a b
  | [], _, _ => rfl
  | x :: p, a, b => by
    show (decide (x < x) || (decide (x = x) && lexB (p ++ a) (p ++ b))) = _
    rw [lex_app p a b]
    simp
theorem key_lt (x y : En) : lexB (keyE x) (keyE y) = true ↔ x.amt < y.amt ∨ (x.amt = y.amt ∧ (x.exp < y.exp ∨ (x.exp = y.exp ∧ (x.hops.length < y.hops.length ∨ (x.hops.length = y.hops.length ∧ lexB (tailK x.hops) (tailK y.hops) = true))))) := by
  unfold keyE
  rw [lex_cons, lex_cons, lex_cons]
  constructor
  · rintro (h | ⟨h1, h | ⟨h2, h | ⟨h3, h4⟩⟩⟩)
    · exact .inl h
    · exact .inr ⟨h1, .inl h⟩
    · exact .inr ⟨h1, .inr ⟨h2, .inl (by omega)⟩⟩
    · exact .inr ⟨h1, .inr ⟨h2, .inr ⟨by omega, h4⟩⟩⟩
  · rintro (h | ⟨h1, h | ⟨h2, h | ⟨h3, h4⟩⟩⟩)
    · exact .inl h
    · exact .inr ⟨h1, .inl h⟩
    · exact .inr ⟨h1, .inr ⟨h2, .inl (by omega)⟩⟩
    · exact .inr ⟨h1, .inr ⟨h2, .inr ⟨by omega, h4⟩⟩⟩
/-! what is asked for an amount -/
theorem gross_iff (a base rate g : Int) : grossO a base rate = some g ↔ (0 ≤ a ∧ a ≤ 2100000000000000000 ∧ 0 ≤ base ∧ base ≤ 2100000000000000000 ∧ 0 ≤ rate ∧ rate ≤ 2100000000000000000 ∧ base + a * rate / 1000000 ≤ 2100000000000000000 ∧ 0 ≤ base + a * rate / 1000000 ∧ a + (base + a * rate / 1000000) ≤ 2100000000000000000 ∧ g = a + (base + a * rate / 1000000)) := by
  unfold grossO feeO
  generalize hx : a * rate / 1000000 = x
  by_cases h : 0 ≤ a ∧ a ≤ 2100000000000000000 ∧ 0 ≤ base ∧ base ≤ 2100000000000000000 ∧ 0 ≤ rate ∧ rate ≤ 2100000000000000000 ∧ base + x ≤ 2100000000000000000
  · rw [if_pos h]
    show addO a (base + x) = some g ↔ _
    unfold addO
    by_cases h2 : 0 ≤ a ∧ 0 ≤ base + x ∧ a + (base + x) ≤ 2100000000000000000
    · rw [if_pos h2]
      constructor
      · intro e; cases e; exact ⟨h.1, h.2.1, h.2.2.1, h.2.2.2.1, h.2.2.2.2.1, h.2.2.2.2.2.1, h.2.2.2.2.2.2, h2.2.1, h2.2.2, rfl⟩
      · rintro ⟨_, _, _, _, _, _, _, _, _, e⟩; rw [e]
    · rw [if_neg h2]
      constructor
      · intro e; cases e
      · rintro ⟨k1, _, _, _, _, _, _, k2, k3, _⟩; exact absurd ⟨k1, k2, k3⟩ h2
  · rw [if_neg h]
    constructor
    · intro e; cases e
    · rintro ⟨k1, k2, k3, k4, k5, k6, k7, _⟩; exact absurd ⟨k1, k2, k3, k4, k5, k6, k7⟩ h
theorem gross_ge {a base rate g : Int} (h : grossO a base rate = some g) : 0 ≤ a ∧ a ≤ g ∧ g ≤ 2100000000000000000 := by
  obtain ⟨k1, k2, k3, k4, k5, k6, k7, k8, k9, k10⟩ := (gross_iff ..).1 h
  exact ⟨k1, by omega, by omega⟩
/-! what is to reach a way's beginning -/
theorem befP_iff (w : Way) (v : En) (p : Plc) (x : En) : befP w v p = some x ↔ p.off = false ∧ p.min ≤ v.amt ∧ v.amt ≤ p.max ∧ ∃ g, grossO v.amt p.base p.rate = some g ∧ timeB (v.exp + p.delta) = true ∧ x = ⟨g, v.exp + p.delta, ⟨w.chan, w.dst, v.amt, v.exp⟩ :: v.hops⟩ := by
  unfold befP
  by_cases h1 : p.off = true ∨ v.amt < p.min ∨ p.max < v.amt
  · rw [if_pos h1]
    constructor
    · intro e; cases e
    · rintro ⟨k1, k2, k3, _⟩
      rcases h1 with h | h | h
      · rw [k1] at h; cases h
      · omega
      · omega
  · rw [if_neg h1]
    have k1 : p.off = false := by cases h : p.off; rfl; exact absurd (.inl h) h1
    have k2 : p.min ≤ v.amt := by omega
    have k3 : v.amt ≤ p.max := by omega
    cases hg : grossO v.amt p.base p.rate with
    | none =>
      constructor
      · intro e; cases e
      · rintro ⟨_, _, _, g, e, _⟩; cases e
    | some g =>
      by_cases ht : timeB (v.exp + p.delta) = true
      · dsimp only
        rw [if_pos ht]
        constructor
        · intro e; cases e; exact ⟨k1, k2, k3, g, rfl, ht, rfl⟩
        · rintro ⟨_, _, _, g', e, _, e2⟩; cases e; rw [e2]
      · dsimp only
        rw [if_neg ht]
        constructor
        · intro e; cases e
        · rintro ⟨_, _, _, g', _, e, _⟩; exact absurd e ht
theorem bef_iff (P : List Plc) (w : Way) (v x : En) : beforeW P w v = some x ↔ hasN v.hops w.frm = false ∧ ∃ p, polOf P w.chan w.frm = some p ∧ befP w v p = some x := by
  unfold beforeW
  by_cases h : hasN v.hops w.frm = true
  · rw [if_pos h]
    constructor
    · intro e; cases e
    · rintro ⟨k, _⟩; rw [h] at k; cases k
  · rw [if_neg h]
    have h' : hasN v.hops w.frm = false := by cases k : hasN v.hops w.frm; rfl; exact absurd k h
    cases hp : polOf P w.chan w.frm with
    | none =>
      constructor
      · intro e; cases e
      · rintro ⟨_, p, e, _⟩; cases e
    | some p =>
      constructor
      · intro e; exact ⟨h', p, rfl, e⟩
      · rintro ⟨_, p', e, e2⟩; cases e; exact e2
theorem time_iff (n : Int) : timeB n = true ↔ 0 ≤ n ∧ n < 2147483648 := by unfold timeB; rw [decide_eq_true_iff]
theorem pol_mem {P : List Plc} {c f : ByteArray} {p : Plc} (h : polOf P c f = some p) : p ∈ P := List.mem_of_find?_eq_some h
/-! what is kept of each node -/
theorem best_some (o : Option En) (x : En) : (bestE o x = x ∨ o = some (bestE o x)) ∧ lexB (keyE x) (keyE (bestE o x)) = false ∧ ∀ y, o = some y → lexB (keyE y) (keyE (bestE o x)) = false := by
  unfold bestE
  cases o with
  | none => exact ⟨.inl rfl, lex_irrefl _, fun y h => by cases h⟩
  | some y =>
    dsimp only
    by_cases h : betB x y = true
    · rw [if_pos h]
      exact ⟨.inl rfl, lex_irrefl _, fun z e => by cases e; exact lt_not h⟩
    · rw [if_neg h]
      have h' : betB x y = false := by cases k : betB x y; rfl; exact absurd k h
      exact ⟨.inr rfl, h', fun z e => by cases e; exact lex_irrefl _⟩
theorem look_put : ∀ (l : List (ByteArray × En)) (t s : ByteArray) (x : En), lookR (putR l t x) s = if t = s then some (bestE (lookR l t) x) else lookR l s
  | [], t, s, x => by
    by_cases h : t = s
    · simp [putR, lookR, h, bestE]
    · simp [putR, lookR, h]
  | (n, y) :: l, t, s, x => by
    unfold putR
    by_cases hn : n = t
    · subst hn
      rw [if_pos rfl]
      by_cases h : n = s
      · subst h; simp [lookR]
      · simp [lookR, h]
    · rw [if_neg hn]
      have ih := look_put l t s x
      by_cases h : t = s
      · subst h
        rw [if_pos rfl] at ih ⊢
        simp only [lookR]
        rw [if_neg hn, if_neg hn, ih]
      · rw [if_neg h] at ih ⊢
        simp only [lookR]
        rw [ih]
theorem fold_look (P : List Plc) (A : AskR) (prev : List (ByteArray × En)) (t : ByteArray) : ∀ (W : List Way) (next : List (ByteArray × En)),
    (∀ x, lookR (W.foldl (stepW P A prev) next) t = some x → lookR next t = some x ∨ ∃ w ∈ W, w.frm = t ∧ candW P A prev w = some x) ∧
    (∀ y, lookR next t = some y → ∃ x, lookR (W.foldl (stepW P A prev) next) t = some x ∧ lexB (keyE y) (keyE x) = false) ∧
    (∀ w ∈ W, ∀ y, w.frm = t → candW P A prev w = some y → ∃ x, lookR (W.foldl (stepW P A prev) next) t = some x ∧ lexB (keyE y) (keyE x) = false)
  | [], next => ⟨fun x h => .inl h, fun y h => ⟨y, h, lex_irrefl _⟩, fun w h => by cases h⟩
  | w :: W, next => by
    obtain ⟨i1, i2, i3⟩ := fold_look P A prev t W (stepW P A prev next w)
    rw [List.foldl_cons]
    cases hc : candW P A prev w with
    | none =>
      have e : stepW P A prev next w = next := by unfold stepW; rw [hc]
      rw [e] at i1 i2 i3 ⊢
      refine ⟨fun x h => ?_, i2, fun u hu y hut hy => ?_⟩
      · rcases i1 x h with h | ⟨u, hu, h1, h2⟩
        · exact .inl h
        · exact .inr ⟨u, List.mem_cons_of_mem _ hu, h1, h2⟩
      · rcases List.mem_cons.1 hu with rfl | hu
        · rw [hc] at hy; cases hy
        · exact i3 u hu y hut hy
    | some c =>
      have e : stepW P A prev next w = putR next w.frm c := by unfold stepW; rw [hc]
      rw [e] at i1 i2 i3 ⊢
      by_cases ht : w.frm = t
      · have el : lookR (putR next w.frm c) t = some (bestE (lookR next t) c) := by rw [look_put, if_pos ht, ht]
        obtain ⟨b1, b2, b3⟩ := best_some (lookR next t) c
        obtain ⟨x0, hx0, hle0⟩ := i2 _ el
        refine ⟨fun x h => ?_, fun y h => ⟨x0, hx0, le_le hle0 (b3 y h)⟩, fun u hu y hut hy => ?_⟩
        · rcases i1 x h with h | ⟨u, hu, h1, h2⟩
          · rw [el] at h
            have h := Option.some.inj h
            rcases b1 with b1 | b1
            · exact .inr ⟨w, List.mem_cons_self .., ht, by rw [hc, ← h, b1]⟩
            · exact .inl (by rw [← h]; exact b1)
          · exact .inr ⟨u, List.mem_cons_of_mem _ hu, h1, h2⟩
        · rcases List.mem_cons.1 hu with rfl | hu
          · rw [hc] at hy; cases hy; exact ⟨x0, hx0, le_le hle0 b2⟩
          · exact i3 u hu y hut hy
      · have el : lookR (putR next w.frm c) t = lookR next t := by rw [look_put, if_neg ht]
        rw [el] at i1 i2
        refine ⟨fun x h => ?_, i2, fun u hu y hut hy => ?_⟩
        · rcases i1 x h with h | ⟨u, hu, h1, h2⟩
          · exact .inl h
          · exact .inr ⟨u, List.mem_cons_of_mem _ hu, h1, h2⟩
        · rcases List.mem_cons.1 hu with rfl | hu
          · exact absurd hut ht
          · exact i3 u hu y hut hy
theorem cand_iff (P : List Plc) (A : AskR) (prev : List (ByteArray × En)) (w : Way) (x : En) : candW P A prev w = some x ↔ ∃ v, lookR prev w.dst = some v ∧ w.frm ≠ A.frm ∧ w.frm ≠ A.dst ∧ v.amt ≤ w.cap * 1000 ∧ beforeW P w v = some x := by
  unfold candW
  cases hv : lookR prev w.dst with
  | none =>
    constructor
    · intro e; cases e
    · rintro ⟨v, e, _⟩; cases e
  | some v =>
    dsimp only
    by_cases h : w.frm = A.frm ∨ w.frm = A.dst ∨ w.cap * 1000 < v.amt
    · rw [if_pos h]
      constructor
      · intro e; cases e
      · rintro ⟨v', e, k1, k2, k3, _⟩
        cases e
        rcases h with h | h | h
        · exact absurd h k1
        · exact absurd h k2
        · omega
    · rw [if_neg h]
      constructor
      · intro e; exact ⟨v, rfl, fun k => h (.inl k), fun k => h (.inr (.inl k)), by omega, e⟩
      · rintro ⟨v', e, _, _, _, e2⟩; cases e; exact e2
/-- a way on, hop by hop -/
def Val (P : List Plc) (A : AskR) (W : List Way) : ByteArray → Int → Int → List Hp → Prop
  | t, a, x, [] => t = A.dst ∧ a = A.amt ∧ x = A.exp
  | t, a, x, h :: r => ∃ w ∈ W, w.chan = h.chan ∧ w.frm = t ∧ w.dst = h.node ∧ t ≠ A.frm ∧ t ≠ A.dst ∧ h.amt ≤ w.cap * 1000 ∧ beforeW P w ⟨h.amt, h.exp, r⟩ = some ⟨a, x, h :: r⟩ ∧ Val P A W h.node h.amt h.exp r
theorem reach_to (P : List Plc) (A : AskR) (W : List Way) : ∀ n, lookR (reachN P A W n) A.dst = some (startE A)
  | 0 => by simp [reachN, lookR]
  | n + 1 => by
    have e0 : lookR [(A.dst, startE A)] A.dst = some (startE A) := by simp [lookR]
    obtain ⟨i1, i2, _⟩ := fold_look P A (reachN P A W n) A.dst W [(A.dst, startE A)]
    obtain ⟨x, hx, _⟩ := i2 _ e0
    rcases i1 x hx with h | ⟨w, _, h1, h2⟩
    · rw [e0] at h
      show lookR (W.foldl (stepW P A (reachN P A W n)) [(A.dst, startE A)]) A.dst = _
      rw [hx, h]
    · obtain ⟨v, _, _, k, _⟩ := (cand_iff ..).1 h2
      exact absurd h1 k
theorem reach_off (P : List Plc) (A : AskR) (W : List Way) (n : Nat) (t : ByteArray) (x : En) (ht : t ≠ A.dst) (h : lookR (reachN P A W (n + 1)) t = some x) : ∃ w ∈ W, w.frm = t ∧ candW P A (reachN P A W n) w = some x := by
  obtain ⟨i1, _, _⟩ := fold_look P A (reachN P A W n) t W [(A.dst, startE A)]
  rcases i1 x h with h | h
  · simp only [lookR] at h; rw [if_neg (fun e => ht (Eq.symm e))] at h; cases h
  · exact h
theorem reach_inv (P : List Plc) (A : AskR) (W : List Way) : ∀ (n : Nat) (t : ByteArray) (x : En), lookR (reachN P A W n) t = some x →
    Val P A W t x.amt x.exp x.hops ∧ x.hops.length ≤ n ∧ ∀ (i : Nat) (h : Hp), x.hops[i]? = some h → ∃ m, m < n ∧ lookR (reachN P A W m) h.node = some ⟨h.amt, h.exp, x.hops.drop (i + 1)⟩
  | 0, t, x, h => by
    by_cases ht : t = A.dst
    · subst ht
      rw [reach_to] at h
      cases h
      exact ⟨⟨rfl, rfl, rfl⟩, Nat.le_refl _, fun i h e => by simp [startE] at e⟩
    · simp only [reachN, lookR] at h; rw [if_neg (fun e => ht (Eq.symm e))] at h; cases h
  | n + 1, t, x, h => by
    by_cases ht : t = A.dst
    · subst ht
      rw [reach_to] at h
      cases h
      exact ⟨⟨rfl, rfl, rfl⟩, Nat.zero_le _, fun i h e => by simp [startE] at e⟩
    · obtain ⟨w, hw, hwt, hc⟩ := reach_off P A W n t x ht h
      obtain ⟨v, hv, k1, k2, k3, hb⟩ := (cand_iff ..).1 hc
      obtain ⟨j1, j2, j3⟩ := reach_inv P A W n w.dst v hv
      have hb0 := hb
      obtain ⟨_, p, hp, h2⟩ := (bef_iff ..).1 hb
      obtain ⟨_, _, _, g, hg, hti, rfl⟩ := (befP_iff ..).1 h2
      refine ⟨⟨w, hw, rfl, hwt, rfl, by rw [← hwt]; exact k1, ht, k3, hb0, j1⟩, by simp; omega, fun i h e => ?_⟩
      cases i with
      | zero =>
        simp only [List.getElem?_cons_zero, Option.some.injEq] at e
        subst e
        exact ⟨n, Nat.lt_succ_self n, hv⟩
      | succ i =>
        rw [List.getElem?_cons_succ] at e
        obtain ⟨m, hm, hl⟩ := j3 i h e
        exact ⟨m, by omega, hl⟩
end Go.Proofs.YtbdimlppnhcicaaGreatDoor.Rte
/- route: the plain law -/
namespace Go.Proofs.YtbdimlppnhcicaaGreatDoor.Rte
set_option linter.unusedVariables false
open Go.RowKit Go.Proofs.YtbdimlppnhcicaaGreatDoor Go.Proofs.YtbdimlppnhcicaaGreatDoor.Mny
/-! route: what is found, what is checked -/
theorem candL_iff (A : AskR) (reach : List (ByteArray × En)) (w : Way) (x : En) : candL A reach w = some x ↔ ∃ v, lookR reach w.dst = some v ∧ w.frm = A.frm ∧ v.amt ≤ w.cap * 1000 ∧ v.amt - A.amt ≤ A.fee ∧ v.exp ≤ A.latest ∧ x = ⟨v.amt, v.exp, ⟨w.chan, w.dst, v.amt, v.exp⟩ :: v.hops⟩ := by
  unfold candL
  cases hv : lookR reach w.dst with
  | none =>
    constructor
    · intro e; cases e
    · rintro ⟨v, e, _⟩; cases e
  | some v =>
    dsimp only
    by_cases h : w.frm ≠ A.frm ∨ w.cap * 1000 < v.amt ∨ A.fee < v.amt - A.amt ∨ A.latest < v.exp
    · rw [if_pos h]
      constructor
      · intro e; cases e
      · rintro ⟨v', e, k1, k2, k3, k4, _⟩
        cases e
        rcases h with h | h | h | h
        · exact absurd k1 h
        · omega
        · omega
        · omega
    · rw [if_neg h]
      constructor
      · intro e
        cases e
        refine ⟨v, rfl, ?_, by omega, by omega, by omega, rfl⟩
        exact Decidable.byContradiction fun k => h (.inl k)
      · rintro ⟨v', e, _, _, _, _, e2⟩; cases e; rw [e2]
theorem fold_last (A : AskR) (reach : List (ByteArray × En)) : ∀ (W : List Way) (o : Option En),
    (∀ x, W.foldl (lastW A reach) o = some x → o = some x ∨ ∃ w ∈ W, candL A reach w = some x) ∧
    (∀ y, o = some y → ∃ x, W.foldl (lastW A reach) o = some x ∧ lexB (keyE y) (keyE x) = false) ∧
    (∀ w ∈ W, ∀ y, candL A reach w = some y → ∃ x, W.foldl (lastW A reach) o = some x ∧ lexB (keyE y) (keyE x) = false)
  | [], o => ⟨fun x h => .inl h, fun y h => ⟨y, h, lex_irrefl _⟩, fun w h => by cases h⟩
  | w :: W, o => by
    obtain ⟨i1, i2, i3⟩ := fold_last A reach W (lastW A reach o w)
    rw [List.foldl_cons]
    cases hc : candL A reach w with
    | none =>
      have e : lastW A reach o w = o := by unfold lastW; rw [hc]
      rw [e] at i1 i2 i3 ⊢
      refine ⟨fun x h => ?_, i2, fun u hu y hy => ?_⟩
      · rcases i1 x h with h | ⟨u, hu, h2⟩
        · exact .inl h
        · exact .inr ⟨u, List.mem_cons_of_mem _ hu, h2⟩
      · rcases List.mem_cons.1 hu with rfl | hu
        · rw [hc] at hy; cases hy
        · exact i3 u hu y hy
    | some c =>
      have e : lastW A reach o w = some (bestE o c) := by unfold lastW; rw [hc]
      rw [e] at i1 i2 i3 ⊢
      obtain ⟨b1, b2, b3⟩ := best_some o c
      obtain ⟨x0, hx0, hle0⟩ := i2 _ rfl
      refine ⟨fun x h => ?_, fun y h => ⟨x0, hx0, le_le hle0 (b3 y h)⟩, fun u hu y hy => ?_⟩
      · rcases i1 x h with h | ⟨u, hu, h2⟩
        · have h := Option.some.inj h
          rcases b1 with b1 | b1
          · exact .inr ⟨w, List.mem_cons_self .., by rw [hc, ← h, b1]⟩
          · exact .inl (by rw [← h]; exact b1)
        · exact .inr ⟨u, List.mem_cons_of_mem _ hu, h2⟩
      · rcases List.mem_cons.1 hu with rfl | hu
        · rw [hc] at hy; cases hy; exact ⟨x0, hx0, le_le hle0 b2⟩
        · exact i3 u hu y hy
/-- a row of hops that is a route -/
def Route (P : List Plc) (A : AskR) (W : List Way) (l : List Hp) : Prop := ∃ h r, l = h :: r ∧ ∃ w ∈ W, w.chan = h.chan ∧ w.frm = A.frm ∧ w.dst = h.node ∧ h.amt ≤ w.cap * 1000 ∧ h.amt - A.amt ≤ A.fee ∧ h.exp ≤ A.latest ∧ Val P A W h.node h.amt h.exp r ∧ r.length ≤ 19
theorem find_is {P : List Plc} {A : AskR} {W : List Way} {x : En} (h : findB P A W = some x) : Route P A W x.hops ∧ x.amt = (x.hops.headD hpZ).amt ∧ x.exp = (x.hops.headD hpZ).exp := by
  unfold findB at h
  obtain ⟨i1, _, _⟩ := fold_last A (reachN P A W 19) W none
  rcases i1 x h with h | ⟨w, hw, hc⟩
  · cases h
  · obtain ⟨v, hv, k1, k2, k3, k4, rfl⟩ := (candL_iff ..).1 hc
    obtain ⟨j1, j2, _⟩ := reach_inv P A W 19 w.dst v hv
    exact ⟨⟨_, _, rfl, w, hw, rfl, k1, rfl, k2, k3, k4, j1, j2⟩, rfl, rfl⟩
/-! what a route is -/
theorem last_cons (g h : Hp) (r : List Hp) : (g :: h :: r).getLastD hpZ = (h :: r).getLastD hpZ := rfl
theorem leads_iff (W : List Way) (a : ByteArray) (h : Hp) : leads W a h = true ↔ ∃ w ∈ W, w.chan = h.chan ∧ w.frm = a ∧ w.dst = h.node ∧ 0 ≤ h.amt ∧ h.amt ≤ w.cap * 1000 := by
  unfold leads
  rw [List.any_eq_true]
  simp only [decide_eq_true_iff]
theorem link_iff (P : List Plc) (a : ByteArray) (g h : Hp) : linkB P a (some g) h = true ↔ ∃ p, polOf P h.chan a = some p ∧ p.off = false ∧ p.min ≤ h.amt ∧ h.amt ≤ p.max ∧ grossO h.amt p.base p.rate = some g.amt ∧ timeB (h.exp + p.delta) = true ∧ g.exp = h.exp + p.delta := by
  unfold linkB
  dsimp only
  cases hb : beforeW P ⟨h.chan, 0, a, h.node⟩ ⟨h.amt, h.exp, []⟩ with
  | none =>
    constructor
    · intro e; cases e
    · rintro ⟨p, hp, k1, k2, k3, k4, k5, k6⟩
      have := (bef_iff P ⟨h.chan, 0, a, h.node⟩ ⟨h.amt, h.exp, []⟩ _).2 ⟨rfl, p, hp, (befP_iff ..).2 ⟨k1, k2, k3, _, k4, k5, rfl⟩⟩
      rw [hb] at this; cases this
  | some x =>
    obtain ⟨_, p, hp, h2⟩ := (bef_iff ..).1 hb
    obtain ⟨k1, k2, k3, g', hg, hti, rfl⟩ := (befP_iff ..).1 h2
    dsimp only
    rw [decide_eq_true_iff]
    constructor
    · rintro ⟨e1, e2⟩; exact ⟨p, hp, k1, k2, k3, by rw [← e1]; exact hg, hti, e2.symm⟩
    · rintro ⟨p', hp', _, _, _, k4, _, k6⟩
      dsimp only at hp
      rw [hp] at hp'
      cases hp'
      dsimp only at hg
      rw [hg] at k4
      exact ⟨Option.some.inj k4, k6.symm⟩
theorem ways_mem : ∀ (E : List Edg) (met : List ByteArray) (w : Way), w ∈ waysGo met E → w.frm ≠ w.dst ∧ w.chan ∉ met
  | [], _, w, h => by cases h
  | e :: E, met, w, h => by
    unfold waysGo at h
    rcases List.mem_append.1 h with h | h
    · split at h
      · cases h
      · rename_i hn
        rcases List.mem_cons.1 h with rfl | h
        · exact ⟨fun k => hn (.inr k), fun k => hn (.inl k)⟩
        · rcases List.mem_cons.1 h with rfl | h
          · exact ⟨fun k => hn (.inr k.symm), fun k => hn (.inl k)⟩
          · cases h
    · obtain ⟨i1, i2⟩ := ways_mem E _ w h
      exact ⟨i1, fun k => i2 (List.mem_cons_of_mem _ k)⟩
/-! the document's check -/
def edgeGo : List ByteArray → List Edg → ByteArray → Option Edg
  | _, [], _ => none
  | met, e :: l, c => if e.chan = c ∧ ¬ (e.chan ∈ met ∨ e.a = e.b) then some e else edgeGo (e.chan :: met) l c
def leadsR (E : List Edg) (bad : List ByteArray) (a : ByteArray) (h : Hp) : Bool :=
  match edgeGo bad E h.chan with
  | none => false
  | some e => decide ((e.a = a ∧ e.b = h.node ∨ e.b = a ∧ e.a = h.node) ∧ 0 ≤ h.amt ∧ h.amt ≤ e.cap * 1000)
theorem leads_edge : ∀ (E : List Edg) (met : List ByteArray) (a : ByteArray) (h : Hp), leads (waysGo met E) a h = leadsR E met a h
  | [], _, _, _ => rfl
  | e :: E, met, a, h => by
    have ih := leads_edge E (e.chan :: met) a h
    have hs : leads (waysGo met (e :: E)) a h = (leads (if e.chan ∈ met ∨ e.a = e.b then [] else [⟨e.chan, e.cap, e.a, e.b⟩, ⟨e.chan, e.cap, e.b, e.a⟩]) a h || leads (waysGo (e.chan :: met) E) a h) := by
      rw [waysGo]; unfold leads; rw [List.any_append]
    rw [hs]
    by_cases hn : e.chan ∈ met ∨ e.a = e.b
    · rw [if_pos hn, ih]
      unfold leadsR
      rw [edgeGo, if_neg (fun k => k.2 hn)]
      rfl
    · rw [if_neg hn]
      by_cases hc : e.chan = h.chan
      · have h0 : leads (waysGo (e.chan :: met) E) a h = false := by
          cases k : leads (waysGo (e.chan :: met) E) a h with
          | false => rfl
          | true =>
            obtain ⟨w, hw, e1, _⟩ := (leads_iff ..).1 k
            exact absurd (by rw [e1, hc]; exact List.mem_cons_self ..) (ways_mem _ _ w hw).2
        rw [h0]
        unfold leadsR
        rw [edgeGo, if_pos ⟨hc, hn⟩]
        simp only [Bool.or_false]
        rw [Bool.eq_iff_iff, leads_iff, decide_eq_true_iff]
        constructor
        · rintro ⟨w, hw, k1, k2, k3, k4, k5⟩
          rcases List.mem_cons.1 hw with rfl | hw
          · exact ⟨.inl ⟨k2, k3⟩, k4, k5⟩
          · rcases List.mem_cons.1 hw with rfl | hw
            · exact ⟨.inr ⟨k2, k3⟩, k4, k5⟩
            · cases hw
        · rintro ⟨⟨k2, k3⟩ | ⟨k2, k3⟩, k4, k5⟩
          · exact ⟨_, List.mem_cons_self .., hc, k2, k3, k4, k5⟩
          · exact ⟨_, List.mem_cons_of_mem _ (List.mem_cons_self ..), hc, k2, k3, k4, k5⟩
      · unfold leadsR
        rw [edgeGo, if_neg (fun k => hc k.1), ih]
        have h1 : leads [⟨e.chan, e.cap, e.a, e.b⟩, ⟨e.chan, e.cap, e.b, e.a⟩] a h = false := by simp [leads, hc]
        rw [h1]
        rfl
def askedR (P : List Plc) (g h : Hp) : Bool :=
  match polOf P h.chan g.node with
  | none => false
  | some p => decide (p.off = false ∧ grossO h.amt p.base p.rate = some g.amt ∧ p.min ≤ h.amt ∧ h.amt ≤ p.max ∧ timeB h.exp = true ∧ g.exp = h.exp + p.delta)
theorem asked_iff (P : List Plc) (g h : Hp) : askedR P g h = true ↔ ∃ p, polOf P h.chan g.node = some p ∧ p.off = false ∧ grossO h.amt p.base p.rate = some g.amt ∧ p.min ≤ h.amt ∧ h.amt ≤ p.max ∧ timeB h.exp = true ∧ g.exp = h.exp + p.delta := by
  unfold askedR
  cases polOf P h.chan g.node with
  | none => simp
  | some p => simp
def linkR (P : List Plc) (pr : Option Hp) (h : Hp) : Bool := match pr with | none => true | some g => askedR P g h
def checkGoR (P : List Plc) (E : List Edg) (bad : List ByteArray) : List ByteArray → ByteArray → Option Hp → List Hp → Option ByteArray
  | _, a, _, [] => some a
  | met, a, pr, h :: l => if leadsR E bad a h = false ∨ h.node ∈ met ∨ linkR P pr h = false then none else checkGoR P E bad (h.node :: met) h.node (some h) l
theorem go_cons (P : List Plc) (W : List Way) (met : List ByteArray) (a : ByteArray) (pr : Option Hp) (h : Hp) (r : List Hp) (z : ByteArray) : checkGo P W met a pr (h :: r) = some z ↔ leads W a h = true ∧ h.node ∉ met ∧ linkB P a pr h = true ∧ checkGo P W (h.node :: met) h.node (some h) r = some z := by
  rw [checkGo]
  by_cases hn : leads W a h = false ∨ h.node ∈ met ∨ linkB P a pr h = false
  · rw [if_pos hn]
    constructor
    · intro e; cases e
    · rintro ⟨k1, k2, k3, _⟩
      rcases hn with e | e | e
      · rw [k1] at e; cases e
      · exact absurd e k2
      · rw [k3] at e; cases e
  · rw [if_neg hn]
    constructor
    · intro e
      refine ⟨?_, fun k => hn (.inr (.inl k)), ?_, e⟩
      · cases k : leads W a h; exact absurd (.inl k) hn; rfl
      · cases k : linkB P a pr h; exact absurd (.inr (.inr k)) hn; rfl
    · rintro ⟨_, _, _, e⟩; exact e
theorem goR_cons (P : List Plc) (E : List Edg) (bad met : List ByteArray) (a : ByteArray) (pr : Option Hp) (h : Hp) (r : List Hp) (z : ByteArray) : checkGoR P E bad met a pr (h :: r) = some z ↔ leadsR E bad a h = true ∧ h.node ∉ met ∧ linkR P pr h = true ∧ checkGoR P E bad (h.node :: met) h.node (some h) r = some z := by
  rw [checkGoR]
  by_cases hn : leadsR E bad a h = false ∨ h.node ∈ met ∨ linkR P pr h = false
  · rw [if_pos hn]
    constructor
    · intro e; cases e
    · rintro ⟨k1, k2, k3, _⟩
      rcases hn with e | e | e
      · rw [k1] at e; cases e
      · exact absurd e k2
      · rw [k3] at e; cases e
  · rw [if_neg hn]
    constructor
    · intro e
      refine ⟨?_, fun k => hn (.inr (.inl k)), ?_, e⟩
      · cases k : leadsR E bad a h; exact absurd (.inl k) hn; rfl
      · cases k : linkR P pr h; exact absurd (.inr (.inr k)) hn; rfl
    · rintro ⟨_, _, _, e⟩; exact e
theorem go_low {P : List Plc} {W : List Way} (hd : ∀ p ∈ P, 0 ≤ p.delta) : ∀ (l : List Hp) (g : Hp) (met : List ByteArray) (z : ByteArray), checkGo P W met g.node (some g) l = some z → ((g :: l).getLastD hpZ).exp ≤ g.exp
  | [], g, met, z, _ => Int.le_refl _
  | h :: r, g, met, z, hc => by
    obtain ⟨_, _, hk, hc⟩ := (go_cons ..).1 hc
    obtain ⟨p, hp, _, _, _, _, _, e⟩ := (link_iff ..).1 hk
    have h1 := go_low hd r h _ z hc
    have h2 := hd p (pol_mem hp)
    rw [last_cons]
    omega
/-- the hops behind the first, as both check them -/
theorem go_same {P : List Plc} {A : AskR} {E : List Edg} (hd : ∀ p ∈ P, 0 ≤ p.delta) (hA : timeB A.exp = true) (z : ByteArray) : ∀ (l : List Hp) (g : Hp) (met : List ByteArray), ((g :: l).getLastD hpZ).exp = A.exp → timeB g.exp = true → (checkGo P (waysGo A.bad E) met g.node (some g) l = some z ↔ checkGoR P E A.bad met g.node (some g) l = some z)
  | [], g, met, _, _ => by unfold checkGo checkGoR; exact Iff.rfl
  | h :: r, g, met, he, hg => by
    rw [go_cons, goR_cons, leads_edge]
    have hg' := (time_iff _).1 hg
    have hA' := (time_iff _).1 hA
    rw [last_cons] at he
    constructor
    · rintro ⟨k1, k2, k3, k4⟩
      obtain ⟨p, hp, q1, q2, q3, q4, q5, q6⟩ := (link_iff ..).1 k3
      have hlow := go_low hd r h _ z k4
      have h2 := hd p (pol_mem hp)
      have ht : timeB h.exp = true := (time_iff _).2 ⟨by omega, by omega⟩
      exact ⟨k1, k2, (asked_iff ..).2 ⟨p, hp, q1, q4, q2, q3, ht, q6⟩, (go_same hd hA z r h _ he ht).1 k4⟩
    · rintro ⟨k1, k2, k3, k4⟩
      obtain ⟨p, hp, q1, q4, q2, q3, q5, q6⟩ := (asked_iff ..).1 k3
      exact ⟨k1, k2, (link_iff ..).2 ⟨p, hp, q1, q2, q3, q4, by rw [← q6]; exact hg, q6⟩, (go_same hd hA z r h _ he q5).2 k4⟩
theorem ends_same {P : List Plc} {A : AskR} {E : List Edg} (hd : ∀ p ∈ P, 0 ≤ p.delta) (hA : timeB A.exp = true) (hL : timeB A.latest = true) (l : List Hp) : endsB A l (checkGo P (waysGo A.bad E) [A.frm] A.frm none l) = endsB A l (checkGoR P E A.bad [A.frm] A.frm none l) := by
  have hA' := (time_iff _).1 hA
  have hL' := (time_iff _).1 hL
  have key : ∀ o : Option ByteArray, endsB A l o = true ↔ ∃ z, o = some z ∧ z = A.dst ∧ (l.getLastD hpZ).amt = A.amt ∧ (l.getLastD hpZ).exp = A.exp ∧ (l.headD hpZ).amt - A.amt ≤ A.fee ∧ (l.headD hpZ).exp ≤ A.latest := by
    intro o
    cases o with
    | none => simp [endsB]
    | some z => simp [endsB]
  cases l with
  | nil => rfl
  | cons g r =>
    rw [Bool.eq_iff_iff, key, key]
    constructor
    · rintro ⟨z, hc, e1, e2, e3, e4, e5⟩
      obtain ⟨k1, k2, k3, k4⟩ := (go_cons ..).1 hc
      have hlow := go_low hd r g _ z k4
      simp only [List.headD_cons] at e5
      have ht : timeB g.exp = true := (time_iff _).2 ⟨by omega, by omega⟩
      exact ⟨z, (goR_cons ..).2 ⟨by rw [← leads_edge]; exact k1, k2, rfl, (go_same hd hA z r g _ e3 ht).1 k4⟩, e1, e2, e3, e4, e5⟩
    · rintro ⟨z, hc, e1, e2, e3, e4, e5⟩
      obtain ⟨k1, k2, k3, k4⟩ := (goR_cons ..).1 hc
      simp only [List.headD_cons] at e5
      have h0 : 0 ≤ g.exp := by
        cases r with
        | nil => have e3' : g.exp = A.exp := e3; omega
        | cons h r' =>
          obtain ⟨_, _, q, _⟩ := (goR_cons ..).1 k4
          obtain ⟨p, hp, _, _, _, _, q5, q6⟩ := (asked_iff ..).1 q
          have := (time_iff _).1 q5
          have := hd p (pol_mem hp)
          omega
      have ht : timeB g.exp = true := (time_iff _).2 ⟨h0, by omega⟩
      exact ⟨z, (go_cons ..).2 ⟨by rw [leads_edge]; exact k1, k2, rfl, (go_same hd hA z r g _ e3 ht).2 k4⟩, e1, e2, e3, e4, e5⟩
end Go.Proofs.YtbdimlppnhcicaaGreatDoor.Rte
/- route: the document's way of finding -/
namespace Go.Proofs.YtbdimlppnhcicaaGreatDoor.Rte
set_option linter.unusedVariables false
open Go.RowKit Go.Proofs.YtbdimlppnhcicaaGreatDoor Go.Proofs.YtbdimlppnhcicaaGreatDoor.Mny
/-! route: the document's way of finding -/
def givesW (P : List Plc) (w : Way) (v : En) : Option En := if w.cap * 1000 < v.amt then none else beforeW P w v
def stepK (P : List Plc) (w : Way) (next : List (ByteArray × En)) (t : ByteArray × En) : List (ByteArray × En) :=
  if t.1 = w.dst then (match givesW P w t.2 with | none => next | some x => putR next w.frm x) else next
def stepD (P : List Plc) (A : AskR) (prev next : List (ByteArray × En)) (w : Way) : List (ByteArray × En) :=
  if w.frm = A.frm ∨ w.frm = A.dst then next else prev.foldl (stepK P w) next
def keysR (l : List (ByteArray × En)) : List ByteArray := l.map (·.1)
theorem fold_skip (P : List Plc) (w : Way) : ∀ (l next : List (ByteArray × En)), w.dst ∉ keysR l → l.foldl (stepK P w) next = next
  | [], _, _ => rfl
  | (n, x) :: l, next, h => by
    simp only [keysR, List.map_cons, List.mem_cons, not_or] at h
    rw [List.foldl_cons]
    have e : stepK P w next (n, x) = next := by unfold stepK; rw [if_neg (fun e => h.1 e.symm)]
    rw [e]
    exact fold_skip P w l next h.2
theorem fold_stepK (P : List Plc) (w : Way) : ∀ (l next : List (ByteArray × En)), (keysR l).Nodup → l.foldl (stepK P w) next = match lookR l w.dst with | none => next | some v => (match givesW P w v with | none => next | some x => putR next w.frm x)
  | [], _, _ => rfl
  | (n, x) :: l, next, h => by
    simp only [keysR, List.map_cons, List.nodup_cons] at h
    rw [List.foldl_cons]
    unfold lookR
    by_cases hn : n = w.dst
    · subst hn
      rw [if_pos rfl, fold_skip P w l _ h.1]
      unfold stepK
      rw [if_pos rfl]
    · have e : stepK P w next (n, x) = next := by unfold stepK; rw [if_neg hn]
      rw [e, if_neg hn]
      exact fold_stepK P w l next h.2
theorem stepD_eq (P : List Plc) (A : AskR) (prev next : List (ByteArray × En)) (w : Way) (h : (keysR prev).Nodup) : stepD P A prev next w = stepW P A prev next w := by
  unfold stepD stepW candW
  rw [fold_stepK P w prev next h]
  cases lookR prev w.dst with
  | none => simp
  | some v =>
    dsimp only
    by_cases h1 : w.frm = A.frm ∨ w.frm = A.dst
    · rw [if_pos h1, if_pos (by rcases h1 with h | h; exact .inl h; exact .inr (.inl h))]
    · rw [if_neg h1]
      unfold givesW
      by_cases h2 : w.cap * 1000 < v.amt
      · rw [if_pos h2, if_pos (.inr (.inr h2))]
      · rw [if_neg h2, if_neg (by rintro (h | h | h); exact h1 (.inl h); exact h1 (.inr h); exact h2 h)]
        all_goals (cases beforeW P w v <;> rfl)
theorem keys_put : ∀ (l : List (ByteArray × En)) (t : ByteArray) (x : En), keysR (putR l t x) = if t ∈ keysR l then keysR l else keysR l ++ [t]
  | [], t, x => by simp [keysR, putR]
  | (n, y) :: l, t, x => by
    unfold putR
    by_cases h : n = t
    · subst h; simp [keysR]
    · rw [if_neg h]
      have ih := keys_put l t x
      have hm : (t ∈ keysR ((n, y) :: l)) ↔ t ∈ keysR l := by
        simp only [keysR, List.map_cons, List.mem_cons]
        constructor
        · rintro (e | e); exact absurd e.symm h; exact e
        · exact .inr
      show n :: keysR (putR l t x) = _
      rw [ih]
      by_cases hk : t ∈ keysR l
      · rw [if_pos hk, if_pos (hm.2 hk)]; rfl
      · rw [if_neg hk, if_neg (fun k => hk (hm.1 k))]; rfl
theorem nodup_put (l : List (ByteArray × En)) (t : ByteArray) (x : En) (h : (keysR l).Nodup) : (keysR (putR l t x)).Nodup := by
  rw [keys_put]
  by_cases hk : t ∈ keysR l
  · rw [if_pos hk]; exact h
  · rw [if_neg hk, List.nodup_append]
    refine ⟨h, by simp, fun a ha b hb => ?_⟩
    obtain rfl : b = t := by simpa using hb
    rintro rfl; exact hk ha
theorem nodup_fold (P : List Plc) (A : AskR) (prev : List (ByteArray × En)) : ∀ (W : List Way) (next : List (ByteArray × En)), (keysR next).Nodup → (keysR (W.foldl (stepW P A prev) next)).Nodup
  | [], _, h => h
  | w :: W, next, h => by
    rw [List.foldl_cons]
    refine nodup_fold P A prev W _ ?_
    unfold stepW
    cases candW P A prev w with
    | none => exact h
    | some x => exact nodup_put _ _ _ h
theorem nodup_reach (P : List Plc) (A : AskR) (W : List Way) : ∀ n, (keysR (reachN P A W n)).Nodup
  | 0 => by simp [keysR, reachN]
  | n + 1 => nodup_fold P A _ W _ (by simp [keysR])
/-- the last hop ahead, need by need -/
def candK (A : AskR) (w : Way) (t : ByteArray × En) : Option En :=
  if t.1 = w.dst ∧ t.2.amt ≤ w.cap * 1000 ∧ t.2.amt - A.amt ≤ A.fee ∧ t.2.exp ≤ A.latest then some ⟨t.2.amt, t.2.exp, ⟨w.chan, w.dst, t.2.amt, t.2.exp⟩ :: t.2.hops⟩ else none
def lastK (A : AskR) (w : Way) (best : Option En) (t : ByteArray × En) : Option En :=
  match candK A w t with
  | none => best
  | some x => some (bestE best x)
def lastD (A : AskR) (reach : List (ByteArray × En)) (best : Option En) (w : Way) : Option En :=
  if w.frm = A.frm then reach.foldl (lastK A w) best else best
theorem last_skip (A : AskR) (w : Way) : ∀ (l : List (ByteArray × En)) (best : Option En), w.dst ∉ keysR l → l.foldl (lastK A w) best = best
  | [], _, _ => rfl
  | (n, x) :: l, best, h => by
    simp only [keysR, List.map_cons, List.mem_cons, not_or] at h
    rw [List.foldl_cons]
    have e : lastK A w best (n, x) = best := by unfold lastK candK; rw [if_neg (fun e => h.1 e.1.symm)]
    rw [e]
    exact last_skip A w l best h.2
theorem fold_lastK (A : AskR) (w : Way) : ∀ (l : List (ByteArray × En)) (best : Option En), (keysR l).Nodup → l.foldl (lastK A w) best = match lookR l w.dst with | none => best | some v => lastK A w best (w.dst, v)
  | [], _, _ => rfl
  | (n, x) :: l, best, h => by
    simp only [keysR, List.map_cons, List.nodup_cons] at h
    rw [List.foldl_cons]
    unfold lookR
    by_cases hn : n = w.dst
    · subst hn
      rw [if_pos rfl, last_skip A w l _ h.1]
    · have e : lastK A w best (n, x) = best := by unfold lastK candK; rw [if_neg (fun e => hn e.1)]
      rw [e, if_neg hn]
      exact fold_lastK A w l best h.2
theorem lastD_eq (A : AskR) (reach : List (ByteArray × En)) (best : Option En) (w : Way) (h : (keysR reach).Nodup) : lastD A reach best w = lastW A reach best w := by
  unfold lastD lastW candL
  rw [fold_lastK A w reach best h]
  cases lookR reach w.dst with
  | none => simp
  | some v =>
    dsimp only
    by_cases h1 : w.frm = A.frm
    · rw [if_pos h1]
      unfold lastK candK
      by_cases h2 : v.amt ≤ w.cap * 1000 ∧ v.amt - A.amt ≤ A.fee ∧ v.exp ≤ A.latest
      · rw [if_pos ⟨rfl, h2⟩, if_neg (by rintro (h | h | h | h); exact h h1; all_goals omega)]
      · rw [if_neg (fun k => h2 k.2), if_pos]
        rcases (show w.cap * 1000 < v.amt ∨ A.fee < v.amt - A.amt ∨ A.latest < v.exp by omega) with h | h | h
        · exact .inr (.inl h)
        · exact .inr (.inr (.inl h))
        · exact .inr (.inr (.inr h))
    · rw [if_neg h1, if_pos (.inl h1)]
/-! the two ways over an edge -/
def countsB (E : List Edg) (bad : List ByteArray) (i : Nat) : Bool := match E[i]? with
  | none => false
  | some e => decide (e.chan ∉ (E.take i).map (·.chan)) && decide (e.chan ∉ bad) && decide (e.a ≠ e.b)
def wayE (e : Edg) (k : Nat) : Way := if k = 0 then ⟨e.chan, e.cap, e.a, e.b⟩ else ⟨e.chan, e.cap, e.b, e.a⟩
theorem ways_app : ∀ (E F : List Edg) (met : List ByteArray), waysGo met (E ++ F) = waysGo met E ++ waysGo ((E.map (·.chan)).reverse ++ met) F
  | [], F, met => rfl
  | e :: E, F, met => by
    rw [List.cons_append, waysGo, ways_app E F (e.chan :: met), waysGo, List.append_assoc]
    simp
theorem ways_take (E : List Edg) (bad : List ByteArray) {i : Nat} {e : Edg} (he : E[i]? = some e) : waysGo bad (E.take (i + 1)) = waysGo bad (E.take i) ++ (if countsB E bad i = true then [wayE e 0, wayE e 1] else []) := by
  rw [List.take_add_one, he]
  show waysGo bad (E.take i ++ [e]) = _
  rw [ways_app]
  congr 1
  unfold countsB
  rw [he]
  show waysGo _ [e] = _
  rw [waysGo, waysGo, List.append_nil]
  by_cases h : e.chan ∈ ((E.take i).map (·.chan)).reverse ++ bad ∨ e.a = e.b
  · rw [if_pos h, if_neg]
    rw [Bool.and_eq_true, Bool.and_eq_true, decide_eq_true_iff, decide_eq_true_iff, decide_eq_true_iff]
    rintro ⟨⟨h1, h2⟩, h3⟩
    rcases h with h | h
    · rcases List.mem_append.1 h with h | h
      · exact h1 (List.mem_reverse.1 h)
      · exact h2 h
    · exact h3 h
  · rw [if_neg h, if_pos]
    · rfl
    · rw [Bool.and_eq_true, Bool.and_eq_true, decide_eq_true_iff, decide_eq_true_iff, decide_eq_true_iff]
      exact ⟨⟨fun k => h (.inl (List.mem_append_left _ (List.mem_reverse.2 k))), fun k => h (.inl (List.mem_append_right _ k))⟩, fun k => h (.inr k)⟩
end Go.Proofs.YtbdimlppnhcicaaGreatDoor.Rte
