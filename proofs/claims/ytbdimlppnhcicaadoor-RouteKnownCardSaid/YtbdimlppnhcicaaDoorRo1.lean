/- route: the plain model -/
import Derived.Shelf.Strings.Builder1
import Derived.Shelf.Small.Bits
import Derived.Shelf.Small.Strs
import Derived.Shelf.Small.Wraps
import Derived.Shelf.Strings.BuilderF
import Derived.Shelf.Strings.BuilderK
import Derived.Shelf.Strconv.Itoa0
import Derived.Shelf.Strconv.Itoa1
import Derived.Shelf.LaysM
import Derived.Shelf.Strconv.Itoa2
import Derived.Shelf.Strconv.Itoa3
import Derived.Shelf.Strconv.Itoa4
import Derived.Shelf.Strconv.ParseIntEmpty
import Derived.Shelf.Strconv.Clone
import Derived.Shelf.Strconv.SyntaxError
import Derived.Shelf.LaysC
import Derived.Shelf.Strconv.ToError
import Derived.Shelf.Strconv.Lower
import Derived.Shelf.Strconv.ParseUint10
import Derived.Shelf.Strconv.ParseUint10Empty
import Derived.Shelf.Strconv.ParseUint10Any
import Derived.Shelf.Strconv.ParseInt10
import Derived.Shelf.Strconv.RangeError
import Derived.Shelf.Strconv.ToErrorRange
import Derived.Shelf.Strconv.ParseUintEmpty
import Derived.Shelf.Strconv.ParseUint10b64
import Derived.Shelf.Strconv.ParseUint10b32
import Derived.Shelf.Strconv.ParseUint10b16
import Derived.Shelf.Strconv.ParseUint10b8
import Derived.Shelf.Strconv.ParseUint10At
import Derived.Shelf.Strconv.ParseInt10At64
import Derived.Shelf.Strconv.ParseInt10At32
import Derived.Shelf.Strconv.ParseInt10At16
import Derived.Shelf.Strconv.ParseInt10At8
import Derived.Shelf.Strconv.ParseInt10All
import Derived.Shelf.Strconv.ParseIntPublic10
import Derived.Shelf.Strconv.ErrVarParseInt
import Derived.Shelf.Strings.Search1
import Derived.Shelf.Bits.Mul64
import Derived.Shelf.Strings.BuilderCap
import Derived.Ground.Names2Prog
import Derived.Shelf.Slices.SearchI
import Derived.Lib.ParseIntB
import Derived.Lib.Bytealg
import Derived.Lib.ItoaNum
import Derived.Lib.ParseIntBCases
import Derived.WalkKit
import Derived.WalkSpells
import Derived.WalkLawsBesides
import Derived.Handy
import Derived.Lib.Hide
import Derived.Deep.QuietTactic
import Derived.BigQuiet
import Derived.Deep.RegionHeld3
import Derived.Lib.Strings
import Derived.Lib.IndexBytes
import Derived.BigRegion
import Derived.Deep.RegionLaw
import Derived.Deep.AppendLies
import Derived.Deep.LoopGhost
import Derived.Deep.Onto
import Derived.Deep.WholeRow
import Derived.Deep.CutRange
import Derived.Laws.CopyOwn
import Derived.Lib.ItoaLen
import Derived.Lib.AppendIntMem
import Derived.Deep.CutBlock
import Derived.Deep.MidRow
import Derived.Deep.RegionHeld
import Derived.Test.YtbdimlppnhcicaaDoorProg
import Derived.Test.YtbdimlppnhcicaaDoorRows
import Derived.Test.YtbdimlppnhcicaaDoorNu
import Derived.Test.YtbdimlppnhcicaaDoorTa
import Derived.Test.YtbdimlppnhcicaaDoorRg
import Derived.Test.YtbdimlppnhcicaaDoorOb
import Derived.Test.YtbdimlppnhcicaaDoorOe
import Derived.Test.YtbdimlppnhcicaaDoorMny
namespace Go.Proofs.YtbdimlppnhcicaaDoor.Rte
set_option linter.unusedVariables false
open Go.RowKit Go.Proofs.YtbdimlppnhcicaaDoor Go.Proofs.YtbdimlppnhcicaaDoor.Mny
/-! route: the plain model, and what it says -/
/-- a channel, a policy, an ask, a way over a channel, what is to reach a node -/
structure Edg where
  chan : ByteArray
  a : ByteArray
  b : ByteArray
  cap : Int
structure Plc where
  chan : ByteArray
  frm : ByteArray
  stamp : Int
  base : Int
  rate : Int
  delta : Int
  min : Int
  max : Int
  off : Bool
structure AskR where
  frm : ByteArray
  dst : ByteArray
  amt : Int
  exp : Int
  latest : Int
  fee : Int
  bad : List ByteArray
structure Way where
  chan : ByteArray
  cap : Int
  frm : ByteArray
  dst : ByteArray
structure En where
  amt : Int
  exp : Int
  hops : List Hp
def memB (l : List ByteArray) (s : ByteArray) : Bool := l.any fun t => decide (t = s)
theorem memB_iff (l : List ByteArray) (s : ByteArray) : memB l s = true ↔ s ∈ l := by
  unfold memB
  rw [List.any_eq_true]
  constructor
  · rintro ⟨t, ht, e⟩; rw [decide_eq_true_iff] at e; exact e ▸ ht
  · intro h; exact ⟨s, h, by rw [decide_eq_true_iff]⟩
instance (s : ByteArray) (l : List ByteArray) : Decidable (s ∈ l) := decidable_of_iff (memB l s = true) (memB_iff l s)
def timeB (n : Int) : Bool := decide (0 ≤ n ∧ n < 2147483648)
def waysGo : List ByteArray → List Edg → List Way
  | _, [] => []
  | met, e :: l => (if e.chan ∈ met ∨ e.a = e.b then [] else [⟨e.chan, e.cap, e.a, e.b⟩, ⟨e.chan, e.cap, e.b, e.a⟩]) ++ waysGo (e.chan :: met) l
def polOf (P : List Plc) (c f : ByteArray) : Option Plc := P.find? fun p => decide (p.chan = c ∧ p.frm = f)
def hasN (l : List Hp) (t : ByteArray) : Bool := l.any fun h => decide (h.node = t)
def befP (w : Way) (v : En) (p : Plc) : Option En :=
  if p.off = true ∨ v.amt < p.min ∨ p.max < v.amt then none
  else match grossO v.amt p.base p.rate with
    | none => none
    | some g => if timeB (v.exp + p.delta) = true then some ⟨g, v.exp + p.delta, ⟨w.chan, w.dst, v.amt, v.exp⟩ :: v.hops⟩ else none
def beforeW (P : List Plc) (w : Way) (v : En) : Option En :=
  if hasN v.hops w.frm = true then none
  else match polOf P w.chan w.frm with
    | none => none
    | some p => befP w v p
/-- numbers in order of rank -/
def lexB : List Int → List Int → Bool
  | _, [] => false
  | [], _ :: _ => true
  | a :: l, b :: m => decide (a < b) || (decide (a = b) && lexB l m)
def encS (s : ByteArray) : List Int := s.data.toList.map (fun c => (c.toNat : Int) + 1) ++ [0]
def tailK (l : List Hp) : List Int := l.flatMap fun h => encS h.chan
def keyE (x : En) : List Int := x.amt :: x.exp :: (x.hops.length : Int) :: tailK x.hops
def betB (x y : En) : Bool := lexB (keyE x) (keyE y)
def bestE (o : Option En) (x : En) : En := match o with | none => x | some y => if betB x y = true then x else y
def lookR : List (ByteArray × En) → ByteArray → Option En
  | [], _ => none
  | (n, x) :: l, t => if n = t then some x else lookR l t
def putR : List (ByteArray × En) → ByteArray → En → List (ByteArray × En)
  | [], t, x => [(t, x)]
  | (n, y) :: l, t, x => if n = t then (n, bestE (some y) x) :: l else (n, y) :: putR l t x
def candW (P : List Plc) (A : AskR) (prev : List (ByteArray × En)) (w : Way) : Option En :=
  match lookR prev w.dst with
  | none => none
  | some v => if w.frm = A.frm ∨ w.frm = A.dst ∨ w.cap * 1000 < v.amt then none else beforeW P w v
def stepW (P : List Plc) (A : AskR) (prev next : List (ByteArray × En)) (w : Way) : List (ByteArray × En) :=
  match candW P A prev w with
  | none => next
  | some x => putR next w.frm x
def startE (A : AskR) : En := ⟨A.amt, A.exp, []⟩
def reachN (P : List Plc) (A : AskR) (W : List Way) : Nat → List (ByteArray × En)
  | 0 => [(A.dst, startE A)]
  | n + 1 => W.foldl (stepW P A (reachN P A W n)) [(A.dst, startE A)]
def candL (A : AskR) (reach : List (ByteArray × En)) (w : Way) : Option En :=
  match lookR reach w.dst with
  | none => none
  | some v => if w.frm ≠ A.frm ∨ w.cap * 1000 < v.amt ∨ A.fee < v.amt - A.amt ∨ A.latest < v.exp then none
    else some ⟨v.amt, v.exp, ⟨w.chan, w.dst, v.amt, v.exp⟩ :: v.hops⟩
def lastW (A : AskR) (reach : List (ByteArray × En)) (best : Option En) (w : Way) : Option En :=
  match candL A reach w with
  | none => best
  | some x => some (bestE best x)
def findB (P : List Plc) (A : AskR) (W : List Way) : Option En := W.foldl (lastW A (reachN P A W 19)) none
def plcBad (p : Plc) : Bool := decide (p.base < 0 ∨ p.rate < 0 ∨ p.min < 0 ∨ p.max < 0 ∨ ¬ (0 ≤ p.delta ∧ p.delta < 2147483648))
def edgBad (e : Edg) : Bool := decide (e.cap < 0 ∨ 2100000000000000 < e.cap)
def refusedN (K : ByteArray → Bool) (E : List Edg) (P : List Plc) (A : AskR) : Int :=
  if 256 < E.length ∨ 512 < P.length ∨ 256 < A.bad.length then 3
  else if K A.frm = false ∨ K A.dst = false ∨ A.frm = A.dst ∨ timeB A.exp = false ∨ timeB A.latest = false then 2
  else if A.amt < 1 ∨ 2100000000000000000 < A.amt ∨ A.fee < 0 ∨ 2100000000000000000 < A.fee then 40
  else if P.any plcBad = true then 2 else if E.any edgBad = true then 2 else 0
def outF : Option En → List Hp × Int
  | none => ([], 260)
  | some x => (x.hops, 0)
def findN (K : ByteArray → Bool) (E : List Edg) (P : List Plc) (A : AskR) : List Hp × Int :=
  if refusedN K E P A ≠ 0 then ([], refusedN K E P A) else outF (findB P A (waysGo A.bad E))
def leads (W : List Way) (a : ByteArray) (h : Hp) : Bool := W.any fun w => decide (w.chan = h.chan ∧ w.frm = a ∧ w.dst = h.node ∧ 0 ≤ h.amt ∧ h.amt ≤ w.cap * 1000)
def linkB (P : List Plc) (a : ByteArray) (pr : Option Hp) (h : Hp) : Bool :=
  match pr with
  | none => true
  | some g => match beforeW P ⟨h.chan, 0, a, h.node⟩ ⟨h.amt, h.exp, []⟩ with
    | none => false
    | some x => decide (x.amt = g.amt ∧ x.exp = g.exp)
def checkGo (P : List Plc) (W : List Way) : List ByteArray → ByteArray → Option Hp → List Hp → Option ByteArray
  | _, a, _, [] => some a
  | met, a, pr, h :: l => if leads W a h = false ∨ h.node ∈ met ∨ linkB P a pr h = false then none else checkGo P W (h.node :: met) h.node (some h) l
def hpZ : Hp := ⟨⟨#[]⟩, ⟨#[]⟩, 0, 0⟩
def endsB (A : AskR) (l : List Hp) (o : Option ByteArray) : Bool :=
  match o with
  | none => false
  | some a => decide (a = A.dst ∧ (l.getLastD hpZ).amt = A.amt ∧ (l.getLastD hpZ).exp = A.exp ∧ (l.headD hpZ).amt - A.amt ≤ A.fee ∧ (l.headD hpZ).exp ≤ A.latest)
def checkN (K : ByteArray → Bool) (E : List Edg) (P : List Plc) (A : AskR) (l : List Hp) : Bool × Int :=
  if refusedN K E P A ≠ 0 then (false, refusedN K E P A)
  else if l.length = 0 ∨ 20 < l.length then (false, 0)
  else (endsB A l (checkGo P (waysGo A.bad E) [A.frm] A.frm none l), 0)
/-! ranks -/
theorem lex_irrefl : ∀ l : List Int, lexB l l = false
  | [] => rfl
  | a :: l => by simp [lexB, lex_irrefl l]
theorem lex_nil : ∀ l : List Int, lexB l [] = false
  | [] => rfl
  | _ :: _ => rfl
theorem lex_cons (a b : Int) (l m : List Int) : lexB (a :: l) (b :: m) = true ↔ a < b ∨ (a = b ∧ lexB l m = true) := by
  simp [lexB]
theorem lex_trans : ∀ a b c : List Int, lexB a b = true → lexB b c = true → lexB a c = true
  | a, b, [], _, h2 => by rw [lex_nil] at h2; cases h2
  | a, [], _ :: _, h1, _ => by rw [lex_nil] at h1; cases h1
  | [], _ :: _, _ :: _, _, _ => rfl
  | x :: a, y :: b, z :: c, h1, h2 => by
    rw [lex_cons] at h1 h2 ⊢
    rcases h1 with h1 | ⟨h1, h1'⟩ <;> rcases h2 with h2 | ⟨h2, h2'⟩
    · left; omega
    · left; omega
    · left; omega
    · right; exact ⟨by omega, lex_trans a b c h1' h2'⟩
theorem lex_tri : ∀ a b : List Int, lexB a b = false → lexB b a = false → a = b
  | [], [], _, _ => rfl
  | [], _ :: _, h, _ => by cases h
  | _ :: _, [], _, h => by cases h
  | x :: a, y :: b, h1, h2 => by
    have n1 : ¬ (x < y ∨ (x = y ∧ lexB a b = true)) := fun h => by rw [(lex_cons ..).2 h] at h1; cases h1
    have n2 : ¬ (y < x ∨ (y = x ∧ lexB b a = true)) := fun h => by rw [(lex_cons ..).2 h] at h2; cases h2
    have e : x = y := by omega
    subst e
    have e2 := lex_tri a b (by cases h : lexB a b; rfl; exact absurd (.inr ⟨rfl, h⟩) n1) (by cases h : lexB b a; rfl; exact absurd (.inr ⟨rfl, h⟩) n2)
    rw [e2]
theorem le_le {a b c : List Int} (h1 : lexB b a = false) (h2 : lexB c b = false) : lexB c a = false := by
  cases h : lexB c a with
  | false => rfl
  | true =>
    cases h3 : lexB a b with
    | false => rw [lex_tri a b h3 h1] at h; rw [h] at h2; cases h2
    | true => rw [lex_trans c a b h h3] at h2; cases h2
theorem lt_le {a b c : List Int} (h1 : lexB a b = true) (h2 : lexB c b = false) : lexB a c = true := by
  cases h3 : lexB b c with
  | true => exact lex_trans a b c h1 h3
  | false => rw [lex_tri b c h3 h2] at h1; exact h1
theorem le_lt {a b c : List Int} (h1 : lexB b a = false) (h2 : lexB b c = true) : lexB a c = true := by
  cases h3 : lexB a b with
  | true => exact lex_trans a b c h3 h2
  | false => rw [lex_tri a b h3 h1]; exact h2
theorem lt_not {a b : List Int} (h : lexB a b = true) : lexB b a = false := by
  cases h3 : lexB b a with
  | false => rfl
  | true => have := lex_trans a b a h h3; rw [lex_irrefl] at this; cases this
theorem lex_app : ∀ p a b : List Int, lexB (p ++ a) (p ++ b) = lexB a b
  | [], _, _ => rfl
  | x :: p, a, b => by
    show (decide (x < x) || (decide (x = x) && lexB (p ++ a) (p ++ b))) = _
    rw [lex_app p a b]
    simp
theorem key_lt (x y : En) : lexB (keyE x) (keyE y) = true ↔ x.amt < y.amt ∨ (x.amt = y.amt ∧ (x.exp < y.exp ∨ (x.exp = y.exp ∧ (x.hops.length < y.hops.length ∨ (x.hops.length = y.hops.length ∧ lexB (tailK x.hops) (tailK y.hops) = true))))) := by
  unfold keyE
  rw [lex_cons, lex_cons, lex_cons]
  constructor
  · rintro (h | ⟨h1, h | ⟨h2, h | ⟨h3, h4⟩⟩⟩)
    · exact .inl h
    · exact .inr ⟨h1, .inl h⟩
    · exact .inr ⟨h1, .inr ⟨h2, .inl (by omega)⟩⟩
    · exact .inr ⟨h1, .inr ⟨h2, .inr ⟨by omega, h4⟩⟩⟩
  · rintro (h | ⟨h1, h | ⟨h2, h | ⟨h3, h4⟩⟩⟩)
    · exact .inl h
    · exact .inr ⟨h1, .inl h⟩
    · exact .inr ⟨h1, .inr ⟨h2, .inl (by omega)⟩⟩
    · exact .inr ⟨h1, .inr ⟨h2, .inr ⟨by omega, h4⟩⟩⟩
/-! what is asked for an amount -/
theorem gross_iff (a base rate g : Int) : grossO a base rate = some g ↔ (0 ≤ a ∧ a ≤ 2100000000000000000 ∧ 0 ≤ base ∧ base ≤ 2100000000000000000 ∧ 0 ≤ rate ∧ rate ≤ 2100000000000000000 ∧ base + a * rate / 1000000 ≤ 2100000000000000000 ∧ 0 ≤ base + a * rate / 1000000 ∧ a + (base + a * rate / 1000000) ≤ 2100000000000000000 ∧ g = a + (base + a * rate / 1000000)) := by
  unfold grossO feeO
  generalize hx : a * rate / 1000000 = x
  by_cases h : 0 ≤ a ∧ a ≤ 2100000000000000000 ∧ 0 ≤ base ∧ base ≤ 2100000000000000000 ∧ 0 ≤ rate ∧ rate ≤ 2100000000000000000 ∧ base + x ≤ 2100000000000000000
  · rw [if_pos h]
    show addO a (base + x) = some g ↔ _
    unfold addO
    by_cases h2 : 0 ≤ a ∧ 0 ≤ base + x ∧ a + (base + x) ≤ 2100000000000000000
    · rw [if_pos h2]
      constructor
      · intro e; cases e; exact ⟨h.1, h.2.1, h.2.2.1, h.2.2.2.1, h.2.2.2.2.1, h.2.2.2.2.2.1, h.2.2.2.2.2.2, h2.2.1, h2.2.2, rfl⟩
      · rintro ⟨_, _, _, _, _, _, _, _, _, e⟩; rw [e]
    · rw [if_neg h2]
      constructor
      · intro e; cases e
      · rintro ⟨k1, _, _, _, _, _, _, k2, k3, _⟩; exact absurd ⟨k1, k2, k3⟩ h2
  · rw [if_neg h]
    constructor
    · intro e; cases e
    · rintro ⟨k1, k2, k3, k4, k5, k6, k7, _⟩; exact absurd ⟨k1, k2, k3, k4, k5, k6, k7⟩ h
theorem gross_mono {a b base rate g : Int} (h0 : 0 ≤ a) (hab : a ≤ b) (h : grossO b base rate = some g) : ∃ g', grossO a base rate = some g' ∧ g' ≤ g ∧ (a < b → g' < g) := by
  obtain ⟨k1, k2, k3, k4, k5, k6, k7, k8, k9, k10⟩ := (gross_iff ..).1 h
  have e1 : a * rate ≤ b * rate := Int.mul_le_mul_of_nonneg_right hab k5
  have e2 : a * rate / 1000000 ≤ b * rate / 1000000 := Int.ediv_le_ediv (by decide) e1
  have e3 : 0 ≤ a * rate / 1000000 := Int.ediv_nonneg (Int.mul_nonneg h0 k5) (by decide)
  obtain ⟨x, hx⟩ : ∃ x, a * rate / 1000000 = x := ⟨_, rfl⟩
  obtain ⟨y, hy⟩ : ∃ y, b * rate / 1000000 = y := ⟨_, rfl⟩
  rw [hx] at e2 e3
  rw [hy] at e2 k7 k8 k9 k10
  refine ⟨a + (base + x), (gross_iff ..).2 ?_, by omega, fun _ => by omega⟩
  rw [hx]
  exact ⟨h0, by omega, k3, k4, k5, k6, by omega, by omega, by omega, rfl⟩
theorem gross_ge {a base rate g : Int} (h : grossO a base rate = some g) : 0 ≤ a ∧ a ≤ g ∧ g ≤ 2100000000000000000 := by
  obtain ⟨k1, k2, k3, k4, k5, k6, k7, k8, k9, k10⟩ := (gross_iff ..).1 h
  exact ⟨k1, by omega, by omega⟩
/-! what is to reach a way's beginning -/
theorem befP_iff (w : Way) (v : En) (p : Plc) (x : En) : befP w v p = some x ↔ p.off = false ∧ p.min ≤ v.amt ∧ v.amt ≤ p.max ∧ ∃ g, grossO v.amt p.base p.rate = some g ∧ timeB (v.exp + p.delta) = true ∧ x = ⟨g, v.exp + p.delta, ⟨w.chan, w.dst, v.amt, v.exp⟩ :: v.hops⟩ := by
  unfold befP
  by_cases h1 : p.off = true ∨ v.amt < p.min ∨ p.max < v.amt
  · rw [if_pos h1]
    constructor
    · intro e; cases e
    · rintro ⟨k1, k2, k3, _⟩
      rcases h1 with h | h | h
      · rw [k1] at h; cases h
      · omega
      · omega
  · rw [if_neg h1]
    have k1 : p.off = false := by cases h : p.off; rfl; exact absurd (.inl h) h1
    have k2 : p.min ≤ v.amt := by omega
    have k3 : v.amt ≤ p.max := by omega
    cases hg : grossO v.amt p.base p.rate with
    | none =>
      constructor
      · intro e; cases e
      · rintro ⟨_, _, _, g, e, _⟩; cases e
    | some g =>
      by_cases ht : timeB (v.exp + p.delta) = true
      · dsimp only
        rw [if_pos ht]
        constructor
        · intro e; cases e; exact ⟨k1, k2, k3, g, rfl, ht, rfl⟩
        · rintro ⟨_, _, _, g', e, _, e2⟩; cases e; rw [e2]
      · dsimp only
        rw [if_neg ht]
        constructor
        · intro e; cases e
        · rintro ⟨_, _, _, g', _, e, _⟩; exact absurd e ht
theorem bef_iff (P : List Plc) (w : Way) (v x : En) : beforeW P w v = some x ↔ hasN v.hops w.frm = false ∧ ∃ p, polOf P w.chan w.frm = some p ∧ befP w v p = some x := by
  unfold beforeW
  by_cases h : hasN v.hops w.frm = true
  · rw [if_pos h]
    constructor
    · intro e; cases e
    · rintro ⟨k, _⟩; rw [h] at k; cases k
  · rw [if_neg h]
    have h' : hasN v.hops w.frm = false := by cases k : hasN v.hops w.frm; rfl; exact absurd k h
    cases hp : polOf P w.chan w.frm with
    | none =>
      constructor
      · intro e; cases e
      · rintro ⟨_, p, e, _⟩; cases e
    | some p =>
      constructor
      · intro e; exact ⟨h', p, rfl, e⟩
      · rintro ⟨_, p', e, e2⟩; cases e; exact e2
theorem time_iff (n : Int) : timeB n = true ↔ 0 ≤ n ∧ n < 2147483648 := by unfold timeB; rw [decide_eq_true_iff]
theorem pol_mem {P : List Plc} {c f : ByteArray} {p : Plc} (h : polOf P c f = some p) : p ∈ P := List.mem_of_find?_eq_some h
/-- the bounds under which the best is found -/
structure Easy (P : List Plc) (A : AskR) : Prop where
  min : ∀ p ∈ P, p.min ≤ A.amt
  d0 : ∀ p ∈ P, 0 ≤ p.delta
  d1 : ∀ p ∈ P, p.delta ≤ 10000000
  amt : 1 ≤ A.amt
  e0 : 0 ≤ A.exp
  e1 : (∃ p, p ∈ P) → A.exp ≤ 1000000000
theorem bef_mem {P : List Plc} {w : Way} {v x : En} (h : beforeW P w v = some x) : ∃ p, p ∈ P := by
  obtain ⟨_, p, hp, _⟩ := (bef_iff ..).1 h
  exact ⟨p, pol_mem hp⟩
theorem pre_le (w : Way) (g1 g2 d : Int) (y c : En) (hg : g1 ≤ g2) (hs : y.amt < c.amt → g1 < g2) (hab : y.amt ≤ c.amt) (he : y.amt = c.amt → g1 = g2) (h : lexB (keyE c) (keyE y) = false) :
    lexB (keyE ⟨g2, c.exp + d, ⟨w.chan, w.dst, c.amt, c.exp⟩ :: c.hops⟩) (keyE ⟨g1, y.exp + d, ⟨w.chan, w.dst, y.amt, y.exp⟩ :: y.hops⟩) = false := by
  cases h2 : lexB (keyE ⟨g2, c.exp + d, ⟨w.chan, w.dst, c.amt, c.exp⟩ :: c.hops⟩) (keyE ⟨g1, y.exp + d, ⟨w.chan, w.dst, y.amt, y.exp⟩ :: y.hops⟩) with
  | false => rfl
  | true =>
    rw [key_lt] at h2
    dsimp only at h2
    have hn : lexB (keyE c) (keyE y) = true := by
      rw [key_lt]
      rcases h2 with h2 | ⟨e1, h2⟩
      · omega
      · have ea : y.amt = c.amt := by
          rcases Int.lt_or_eq_of_le hab with k | k
          · have := hs k; omega
          · exact k
        rcases h2 with h2 | ⟨e2, h2⟩
        · exact .inr ⟨ea.symm, .inl (by omega)⟩
        · rcases h2 with h2 | ⟨e3, h2⟩
          · exact .inr ⟨ea.symm, .inr ⟨by omega, .inl (by simpa using h2)⟩⟩
          · refine .inr ⟨ea.symm, .inr ⟨by omega, .inr ⟨by simpa using e3, ?_⟩⟩⟩
            have e4 : ∀ (a b : Int) (l : List Hp), tailK (⟨w.chan, w.dst, a, b⟩ :: l) = encS w.chan ++ tailK l := fun _ _ _ => rfl
            rw [e4, e4, lex_app] at h2
            exact h2
    rw [hn] at h; cases h
theorem amt_of_le {y c : En} (h : lexB (keyE c) (keyE y) = false) : y.amt ≤ c.amt := by
  rcases (show c.amt < y.amt ∨ y.amt ≤ c.amt by omega) with k | k
  · rw [(key_lt ..).2 (.inl k)] at h; cases h
  · exact k
theorem bef_mono {P : List Plc} {A : AskR} (hE : Easy P A) {w : Way} {y c x : En} (hy : hasN y.hops w.frm = false) (hA : A.amt ≤ y.amt) (ht0 : 0 ≤ y.exp) (ht : y.exp + 10000000 < 2147483648) (hle : lexB (keyE c) (keyE y) = false) (h : beforeW P w c = some x) :
    ∃ x', beforeW P w y = some x' ∧ lexB (keyE x) (keyE x') = false := by
  obtain ⟨_, p, hp, h2⟩ := (bef_iff ..).1 h
  obtain ⟨k1, k2, k3, g, hg, hti, rfl⟩ := (befP_iff ..).1 h2
  have hab := amt_of_le hle
  have hpm := pol_mem hp
  obtain ⟨g', hg', m1, m2⟩ := gross_mono (by have := hE.amt; omega) hab hg
  refine ⟨⟨g', y.exp + p.delta, ⟨w.chan, w.dst, y.amt, y.exp⟩ :: y.hops⟩, (bef_iff ..).2 ⟨hy, p, hp, (befP_iff ..).2 ⟨k1, by have := hE.min p hpm; omega, by omega, g', hg', (time_iff _).2 ⟨by have := hE.d0 p hpm; omega, by have := hE.d1 p hpm; omega⟩, rfl⟩⟩, ?_⟩
  exact pre_le w g' g p.delta y c m1 m2 hab (fun e => by rw [e] at hg'; rw [hg'] at hg; exact Option.some.inj hg) hle
theorem bef_lt {P : List Plc} {w : Way} {c x : En} (hd : ∀ p ∈ P, 0 ≤ p.delta) (h : beforeW P w c = some x) : lexB (keyE c) (keyE x) = true ∧ c.amt ≤ x.amt ∧ c.exp ≤ x.exp := by
  obtain ⟨_, p, hp, h2⟩ := (bef_iff ..).1 h
  obtain ⟨k1, k2, k3, g, hg, hti, rfl⟩ := (befP_iff ..).1 h2
  have h3 := hd p (pol_mem hp)
  have h4 := (gross_ge hg).2.1
  refine ⟨(key_lt ..).2 ?_, h4, by dsimp only; omega⟩
  dsimp only
  rcases Int.lt_or_eq_of_le h4 with k | k
  · exact .inl k
  · refine .inr ⟨k, ?_⟩
    rcases Int.lt_or_eq_of_le (show c.exp ≤ c.exp + p.delta by omega) with k | k
    · exact .inl k
    · exact .inr ⟨k, .inl (by simp)⟩
/-! what is kept of each node -/
theorem best_some (o : Option En) (x : En) : (bestE o x = x ∨ o = some (bestE o x)) ∧ lexB (keyE x) (keyE (bestE o x)) = false ∧ ∀ y, o = some y → lexB (keyE y) (keyE (bestE o x)) = false := by
  unfold bestE
  cases o with
  | none => exact ⟨.inl rfl, lex_irrefl _, fun y h => by cases h⟩
  | some y =>
    dsimp only
    by_cases h : betB x y = true
    · rw [if_pos h]
      exact ⟨.inl rfl, lex_irrefl _, fun z e => by cases e; exact lt_not h⟩
    · rw [if_neg h]
      have h' : betB x y = false := by cases k : betB x y; rfl; exact absurd k h
      exact ⟨.inr rfl, h', fun z e => by cases e; exact lex_irrefl _⟩
theorem look_put : ∀ (l : List (ByteArray × En)) (t s : ByteArray) (x : En), lookR (putR l t x) s = if t = s then some (bestE (lookR l t) x) else lookR l s
  | [], t, s, x => by
    by_cases h : t = s
    · simp [putR, lookR, h, bestE]
    · simp [putR, lookR, h]
  | (n, y) :: l, t, s, x => by
    unfold putR
    by_cases hn : n = t
    · subst hn
      rw [if_pos rfl]
      by_cases h : n = s
      · subst h; simp [lookR]
      · simp [lookR, h]
    · rw [if_neg hn]
      have ih := look_put l t s x
      by_cases h : t = s
      · subst h
        rw [if_pos rfl] at ih ⊢
        simp only [lookR]
        rw [if_neg hn, if_neg hn, ih]
      · rw [if_neg h] at ih ⊢
        simp only [lookR]
        rw [ih]
theorem fold_look (P : List Plc) (A : AskR) (prev : List (ByteArray × En)) (t : ByteArray) : ∀ (W : List Way) (next : List (ByteArray × En)),
    (∀ x, lookR (W.foldl (stepW P A prev) next) t = some x → lookR next t = some x ∨ ∃ w ∈ W, w.frm = t ∧ candW P A prev w = some x) ∧
    (∀ y, lookR next t = some y → ∃ x, lookR (W.foldl (stepW P A prev) next) t = some x ∧ lexB (keyE y) (keyE x) = false) ∧
    (∀ w ∈ W, ∀ y, w.frm = t → candW P A prev w = some y → ∃ x, lookR (W.foldl (stepW P A prev) next) t = some x ∧ lexB (keyE y) (keyE x) = false)
  | [], next => ⟨fun x h => .inl h, fun y h => ⟨y, h, lex_irrefl _⟩, fun w h => by cases h⟩
  | w :: W, next => by
    obtain ⟨i1, i2, i3⟩ := fold_look P A prev t W (stepW P A prev next w)
    rw [List.foldl_cons]
    cases hc : candW P A prev w with
    | none =>
      have e : stepW P A prev next w = next := by unfold stepW; rw [hc]
      rw [e] at i1 i2 i3 ⊢
      refine ⟨fun x h => ?_, i2, fun u hu y hut hy => ?_⟩
      · rcases i1 x h with h | ⟨u, hu, h1, h2⟩
        · exact .inl h
        · exact .inr ⟨u, List.mem_cons_of_mem _ hu, h1, h2⟩
      · rcases List.mem_cons.1 hu with rfl | hu
        · rw [hc] at hy; cases hy
        · exact i3 u hu y hut hy
    | some c =>
      have e : stepW P A prev next w = putR next w.frm c := by unfold stepW; rw [hc]
      rw [e] at i1 i2 i3 ⊢
      by_cases ht : w.frm = t
      · have el : lookR (putR next w.frm c) t = some (bestE (lookR next t) c) := by rw [look_put, if_pos ht, ht]
        obtain ⟨b1, b2, b3⟩ := best_some (lookR next t) c
        obtain ⟨x0, hx0, hle0⟩ := i2 _ el
        refine ⟨fun x h => ?_, fun y h => ⟨x0, hx0, le_le hle0 (b3 y h)⟩, fun u hu y hut hy => ?_⟩
        · rcases i1 x h with h | ⟨u, hu, h1, h2⟩
          · rw [el] at h
            have h := Option.some.inj h
            rcases b1 with b1 | b1
            · exact .inr ⟨w, List.mem_cons_self .., ht, by rw [hc, ← h, b1]⟩
            · exact .inl (by rw [← h]; exact b1)
          · exact .inr ⟨u, List.mem_cons_of_mem _ hu, h1, h2⟩
        · rcases List.mem_cons.1 hu with rfl | hu
          · rw [hc] at hy; cases hy; exact ⟨x0, hx0, le_le hle0 b2⟩
          · exact i3 u hu y hut hy
      · have el : lookR (putR next w.frm c) t = lookR next t := by rw [look_put, if_neg ht]
        rw [el] at i1 i2
        refine ⟨fun x h => ?_, i2, fun u hu y hut hy => ?_⟩
        · rcases i1 x h with h | ⟨u, hu, h1, h2⟩
          · exact .inl h
          · exact .inr ⟨u, List.mem_cons_of_mem _ hu, h1, h2⟩
        · rcases List.mem_cons.1 hu with rfl | hu
          · exact absurd hut ht
          · exact i3 u hu y hut hy
theorem cand_iff (P : List Plc) (A : AskR) (prev : List (ByteArray × En)) (w : Way) (x : En) : candW P A prev w = some x ↔ ∃ v, lookR prev w.dst = some v ∧ w.frm ≠ A.frm ∧ w.frm ≠ A.dst ∧ v.amt ≤ w.cap * 1000 ∧ beforeW P w v = some x := by
  unfold candW
  cases hv : lookR prev w.dst with
  | none =>
    constructor
    · intro e; cases e
    · rintro ⟨v, e, _⟩; cases e
  | some v =>
    dsimp only
    by_cases h : w.frm = A.frm ∨ w.frm = A.dst ∨ w.cap * 1000 < v.amt
    · rw [if_pos h]
      constructor
      · intro e; cases e
      · rintro ⟨v', e, k1, k2, k3, _⟩
        cases e
        rcases h with h | h | h
        · exact absurd h k1
        · exact absurd h k2
        · omega
    · rw [if_neg h]
      constructor
      · intro e; exact ⟨v, rfl, fun k => h (.inl k), fun k => h (.inr (.inl k)), by omega, e⟩
      · rintro ⟨v', e, _, _, _, e2⟩; cases e; exact e2
/-- a way on, hop by hop -/
def Val (P : List Plc) (A : AskR) (W : List Way) : ByteArray → Int → Int → List Hp → Prop
  | t, a, x, [] => t = A.dst ∧ a = A.amt ∧ x = A.exp
  | t, a, x, h :: r => ∃ w ∈ W, w.chan = h.chan ∧ w.frm = t ∧ w.dst = h.node ∧ t ≠ A.frm ∧ t ≠ A.dst ∧ h.amt ≤ w.cap * 1000 ∧ beforeW P w ⟨h.amt, h.exp, r⟩ = some ⟨a, x, h :: r⟩ ∧ Val P A W h.node h.amt h.exp r
theorem reach_to (P : List Plc) (A : AskR) (W : List Way) : ∀ n, lookR (reachN P A W n) A.dst = some (startE A)
  | 0 => by simp [reachN, lookR]
  | n + 1 => by
    have e0 : lookR [(A.dst, startE A)] A.dst = some (startE A) := by simp [lookR]
    obtain ⟨i1, i2, _⟩ := fold_look P A (reachN P A W n) A.dst W [(A.dst, startE A)]
    obtain ⟨x, hx, _⟩ := i2 _ e0
    rcases i1 x hx with h | ⟨w, _, h1, h2⟩
    · rw [e0] at h
      show lookR (W.foldl (stepW P A (reachN P A W n)) [(A.dst, startE A)]) A.dst = _
      rw [hx, h]
    · obtain ⟨v, _, _, k, _⟩ := (cand_iff ..).1 h2
      exact absurd h1 k
theorem reach_off (P : List Plc) (A : AskR) (W : List Way) (n : Nat) (t : ByteArray) (x : En) (ht : t ≠ A.dst) (h : lookR (reachN P A W (n + 1)) t = some x) : ∃ w ∈ W, w.frm = t ∧ candW P A (reachN P A W n) w = some x := by
  obtain ⟨i1, _, _⟩ := fold_look P A (reachN P A W n) t W [(A.dst, startE A)]
  rcases i1 x h with h | h
  · simp only [lookR] at h; rw [if_neg (fun e => ht (Eq.symm e))] at h; cases h
  · exact h
theorem reach_cand (P : List Plc) (A : AskR) (W : List Way) (n : Nat) (w : Way) (y : En) (hw : w ∈ W) (h : candW P A (reachN P A W n) w = some y) : ∃ x, lookR (reachN P A W (n + 1)) w.frm = some x ∧ lexB (keyE y) (keyE x) = false := by
  obtain ⟨_, _, i3⟩ := fold_look P A (reachN P A W n) w.frm W [(A.dst, startE A)]
  exact i3 w hw y rfl h
theorem reach_inv (P : List Plc) (A : AskR) (W : List Way) : ∀ (n : Nat) (t : ByteArray) (x : En), lookR (reachN P A W n) t = some x →
    Val P A W t x.amt x.exp x.hops ∧ x.hops.length ≤ n ∧ ∀ (i : Nat) (h : Hp), x.hops[i]? = some h → ∃ m, m < n ∧ lookR (reachN P A W m) h.node = some ⟨h.amt, h.exp, x.hops.drop (i + 1)⟩
  | 0, t, x, h => by
    by_cases ht : t = A.dst
    · subst ht
      rw [reach_to] at h
      cases h
      exact ⟨⟨rfl, rfl, rfl⟩, Nat.le_refl _, fun i h e => by simp [startE] at e⟩
    · simp only [reachN, lookR] at h; rw [if_neg (fun e => ht (Eq.symm e))] at h; cases h
  | n + 1, t, x, h => by
    by_cases ht : t = A.dst
    · subst ht
      rw [reach_to] at h
      cases h
      exact ⟨⟨rfl, rfl, rfl⟩, Nat.zero_le _, fun i h e => by simp [startE] at e⟩
    · obtain ⟨w, hw, hwt, hc⟩ := reach_off P A W n t x ht h
      obtain ⟨v, hv, k1, k2, k3, hb⟩ := (cand_iff ..).1 hc
      obtain ⟨j1, j2, j3⟩ := reach_inv P A W n w.dst v hv
      have hb0 := hb
      obtain ⟨_, p, hp, h2⟩ := (bef_iff ..).1 hb
      obtain ⟨_, _, _, g, hg, hti, rfl⟩ := (befP_iff ..).1 h2
      refine ⟨⟨w, hw, rfl, hwt, rfl, by rw [← hwt]; exact k1, ht, k3, hb0, j1⟩, by simp; omega, fun i h e => ?_⟩
      cases i with
      | zero =>
        simp only [List.getElem?_cons_zero, Option.some.injEq] at e
        subst e
        exact ⟨n, Nat.lt_succ_self n, hv⟩
      | succ i =>
        rw [List.getElem?_cons_succ] at e
        obtain ⟨m, hm, hl⟩ := j3 i h e
        exact ⟨m, by omega, hl⟩
theorem val_low {P : List Plc} {A : AskR} {W : List Way} (hE : Easy P A) : ∀ (l : List Hp) (t : ByteArray) (a x : Int), Val P A W t a x l → A.amt ≤ a ∧ 0 ≤ x ∧ x ≤ A.exp + 10000000 * (l.length : Int)
  | [], t, a, x, h => by obtain ⟨_, rfl, rfl⟩ := h; have := hE.e0; simp; omega
  | h :: r, t, a, x, ⟨w, _, _, _, _, _, _, _, hb, hv⟩ => by
    obtain ⟨i1, i2, i3⟩ := val_low hE r _ _ _ hv
    obtain ⟨_, p, hp, h2⟩ := (bef_iff ..).1 hb
    obtain ⟨_, _, _, g, hg, hti, e⟩ := (befP_iff ..).1 h2
    have hd := hE.d1 p (pol_mem hp)
    have h4 := (gross_ge hg).2.1
    have ht := (time_iff _).1 hti
    simp only [En.mk.injEq] at e
    obtain ⟨rfl, rfl, _⟩ := e
    dsimp only at h4 ht ⊢
    simp only [List.length_cons]
    exact ⟨by omega, by omega, by omega⟩
theorem val_sub {P : List Plc} {A : AskR} {W : List Way} (hd : ∀ p ∈ P, 0 ≤ p.delta) : ∀ (l : List Hp) (t : ByteArray) (a x : Int), Val P A W t a x l → ∀ (i : Nat) (h : Hp), l[i]? = some h → lexB (keyE ⟨h.amt, h.exp, l.drop (i + 1)⟩) (keyE ⟨a, x, l⟩) = true
  | [], t, a, x, _, i, h, e => by simp at e
  | g :: r, t, a, x, ⟨w, _, _, _, _, _, _, _, hb, hv⟩, i, h, e => by
    obtain ⟨b1, b2, b3⟩ := bef_lt hd hb
    cases i with
    | zero =>
      simp only [List.getElem?_cons_zero, Option.some.injEq] at e
      subst e
      exact b1
    | succ i =>
      rw [List.getElem?_cons_succ] at e
      exact lex_trans _ _ _ (val_sub hd r _ _ _ hv i h e) b1
theorem has_get {l : List Hp} {t : ByteArray} (h : hasN l t = true) : ∃ (i : Nat) (g : Hp), l[i]? = some g ∧ g.node = t := by
  unfold hasN at h
  rw [List.any_eq_true] at h
  obtain ⟨g, hg, e⟩ := h
  obtain ⟨i, hi⟩ := List.getElem?_of_mem hg
  exact ⟨i, g, hi, by simpa using e⟩
theorem reach_chain (P : List Plc) (A : AskR) (W : List Way) (n : Nat) (hm : ∀ m, m < n → ∀ t x, lookR (reachN P A W m) t = some x → ∃ y, lookR (reachN P A W (m + 1)) t = some y ∧ lexB (keyE x) (keyE y) = false) :
    ∀ (k m : Nat), m + k = n → ∀ t x, lookR (reachN P A W m) t = some x → ∃ y, lookR (reachN P A W n) t = some y ∧ lexB (keyE x) (keyE y) = false
  | 0, m, e, t, x, h => by obtain rfl : m = n := by omega
                           exact ⟨x, h, lex_irrefl _⟩
  | k + 1, m, e, t, x, h => by
    obtain ⟨y, hy, h1⟩ := hm m (by omega) t x h
    obtain ⟨z, hz, h2⟩ := reach_chain P A W n hm k (m + 1) (by omega) t y hy
    exact ⟨z, hz, le_le h2 h1⟩
theorem reach_mono {P : List Plc} {A : AskR} {W : List Way} (hE : Easy P A) (n : Nat) : n ≤ 100 → ∀ t x, lookR (reachN P A W n) t = some x → ∃ y, lookR (reachN P A W (n + 1)) t = some y ∧ lexB (keyE x) (keyE y) = false := by
  induction n using Nat.strongRecOn with
  | ind n ih =>
    intro hn t x hx
    by_cases ht : t = A.dst
    · subst ht
      rw [reach_to] at hx
      cases hx
      exact ⟨_, reach_to ..,  lex_irrefl _⟩
    · cases n with
      | zero => simp only [reachN, lookR] at hx; rw [if_neg (fun e => ht (Eq.symm e))] at hx; cases hx
      | succ n =>
        obtain ⟨w, hw, hwt, hc⟩ := reach_off P A W n t x ht hx
        obtain ⟨v, hv, k1, k2, k3, hb⟩ := (cand_iff ..).1 hc
        obtain ⟨v', hv', hle⟩ := ih n (by omega) (by omega) w.dst v hv
        obtain ⟨j1, j2, j3⟩ := reach_inv P A W (n + 1) w.dst v' hv'
        obtain ⟨q1, q2, q3⟩ := val_low hE _ _ _ _ j1
        have hbl := bef_lt hE.d0 hb
        cases hh : hasN v'.hops w.frm with
        | false =>
          obtain ⟨x', hb', hle'⟩ := bef_mono hE hh q1 q2 (by have := hE.e1 (bef_mem hb); omega) hle hb
          obtain ⟨y, hy, hy2⟩ := reach_cand P A W (n + 1) w x' hw ((cand_iff ..).2 ⟨v', hv', k1, k2, by have := amt_of_le hle; omega, hb'⟩)
          rw [hwt] at hy
          exact ⟨y, hy, le_le hy2 hle'⟩
        | true =>
          exfalso
          obtain ⟨i, g, hi, hgn⟩ := has_get hh
          obtain ⟨m, hm, hl⟩ := j3 i g hi
          have hs := val_sub hE.d0 _ _ _ _ j1 i g hi
          obtain ⟨y, hy, hyl⟩ := reach_chain P A W (n + 1) (fun m hm => ih m hm (by omega)) (n + 1 - m) m (by omega) _ _ hl
          rw [hgn, hwt, hx] at hy
          cases hy
          have c1 := le_lt hyl hs
          have c2 := lt_le c1 hle
          have c3 := lex_trans _ _ _ c2 hbl.1
          rw [lex_irrefl] at c3
          cases c3
theorem reach_opt {P : List Plc} {A : AskR} {W : List Way} (hE : Easy P A) : ∀ (n : Nat) (l : List Hp) (t : ByteArray) (a x : Int), n ≤ 100 → l.length ≤ n → Val P A W t a x l →
    ∃ y, lookR (reachN P A W n) t = some y ∧ lexB (keyE ⟨a, x, l⟩) (keyE y) = false
  | n, [], t, a, x, _, _, ⟨h1, h2, h3⟩ => by subst h1 h2 h3; exact ⟨_, reach_to .., lex_irrefl _⟩
  | 0, h :: r, t, a, x, _, hl, _ => by simp at hl
  | n + 1, h :: r, t, a, x, hn, hl, ⟨w, hw, e1, hwt, e2, k1, k2, k3, hb, hv⟩ => by
    obtain ⟨v, hv', hle⟩ := reach_opt hE n r h.node h.amt h.exp (by omega) (by simpa using hl) hv
    rw [← e2] at hv'
    obtain ⟨j1, j2, j3⟩ := reach_inv P A W n w.dst v hv'
    obtain ⟨q1, q2, q3⟩ := val_low hE _ _ _ _ j1
    have hbl := bef_lt hE.d0 hb
    cases hh : hasN v.hops w.frm with
    | false =>
      obtain ⟨x', hb', hle'⟩ := bef_mono hE hh q1 q2 (by have := hE.e1 (bef_mem hb); omega) hle hb
      obtain ⟨y, hy, hy2⟩ := reach_cand P A W n w x' hw ((cand_iff ..).2 ⟨v, hv', by rw [hwt]; exact k1, by rw [hwt]; exact k2, by have := amt_of_le hle; dsimp only at this; omega, hb'⟩)
      rw [hwt] at hy
      exact ⟨y, hy, le_le hy2 hle'⟩
    | true =>
      obtain ⟨i, g, hi, hgn⟩ := has_get hh
      obtain ⟨m, hm, hl'⟩ := j3 i g hi
      have hs := val_sub hE.d0 _ _ _ _ j1 i g hi
      obtain ⟨y, hy, hyl⟩ := reach_chain P A W (n + 1) (fun m hm => reach_mono hE m (by omega)) (n + 1 - m) m (by omega) _ _ hl'
      rw [hgn, hwt] at hy
      refine ⟨y, hy, lt_not ?_⟩
      exact lex_trans _ _ _ (lt_le (le_lt hyl hs) hle) hbl.1
end Go.Proofs.YtbdimlppnhcicaaDoor.Rte
/- route: the plain law -/
namespace Go.Proofs.YtbdimlppnhcicaaDoor.Rte
set_option linter.unusedVariables false
open Go.RowKit Go.Proofs.YtbdimlppnhcicaaDoor Go.Proofs.YtbdimlppnhcicaaDoor.Mny
/-! route: what is found, what is checked -/
theorem candL_iff (A : AskR) (reach : List (ByteArray × En)) (w : Way) (x : En) : candL A reach w = some x ↔ ∃ v, lookR reach w.dst = some v ∧ w.frm = A.frm ∧ v.amt ≤ w.cap * 1000 ∧ v.amt - A.amt ≤ A.fee ∧ v.exp ≤ A.latest ∧ x = ⟨v.amt, v.exp, ⟨w.chan, w.dst, v.amt, v.exp⟩ :: v.hops⟩ := by
  unfold candL
  cases hv : lookR reach w.dst with
  | none =>
    constructor
    · intro e; cases e
    · rintro ⟨v, e, _⟩; cases e
  | some v =>
    dsimp only
    by_cases h : w.frm ≠ A.frm ∨ w.cap * 1000 < v.amt ∨ A.fee < v.amt - A.amt ∨ A.latest < v.exp
    · rw [if_pos h]
      constructor
      · intro e; cases e
      · rintro ⟨v', e, k1, k2, k3, k4, _⟩
        cases e
        rcases h with h | h | h | h
        · exact absurd k1 h
        · omega
        · omega
        · omega
    · rw [if_neg h]
      constructor
      · intro e
        cases e
        refine ⟨v, rfl, ?_, by omega, by omega, by omega, rfl⟩
        exact Decidable.byContradiction fun k => h (.inl k)
      · rintro ⟨v', e, _, _, _, _, e2⟩; cases e; rw [e2]
theorem fold_last (A : AskR) (reach : List (ByteArray × En)) : ∀ (W : List Way) (o : Option En),
    (∀ x, W.foldl (lastW A reach) o = some x → o = some x ∨ ∃ w ∈ W, candL A reach w = some x) ∧
    (∀ y, o = some y → ∃ x, W.foldl (lastW A reach) o = some x ∧ lexB (keyE y) (keyE x) = false) ∧
    (∀ w ∈ W, ∀ y, candL A reach w = some y → ∃ x, W.foldl (lastW A reach) o = some x ∧ lexB (keyE y) (keyE x) = false)
  | [], o => ⟨fun x h => .inl h, fun y h => ⟨y, h, lex_irrefl _⟩, fun w h => by cases h⟩
  | w :: W, o => by
    obtain ⟨i1, i2, i3⟩ := fold_last A reach W (lastW A reach o w)
    rw [List.foldl_cons]
    cases hc : candL A reach w with
    | none =>
      have e : lastW A reach o w = o := by unfold lastW; rw [hc]
      rw [e] at i1 i2 i3 ⊢
      refine ⟨fun x h => ?_, i2, fun u hu y hy => ?_⟩
      · rcases i1 x h with h | ⟨u, hu, h2⟩
        · exact .inl h
        · exact .inr ⟨u, List.mem_cons_of_mem _ hu, h2⟩
      · rcases List.mem_cons.1 hu with rfl | hu
        · rw [hc] at hy; cases hy
        · exact i3 u hu y hy
    | some c =>
      have e : lastW A reach o w = some (bestE o c) := by unfold lastW; rw [hc]
      rw [e] at i1 i2 i3 ⊢
      obtain ⟨b1, b2, b3⟩ := best_some o c
      obtain ⟨x0, hx0, hle0⟩ := i2 _ rfl
      refine ⟨fun x h => ?_, fun y h => ⟨x0, hx0, le_le hle0 (b3 y h)⟩, fun u hu y hy => ?_⟩
      · rcases i1 x h with h | ⟨u, hu, h2⟩
        · have h := Option.some.inj h
          rcases b1 with b1 | b1
          · exact .inr ⟨w, List.mem_cons_self .., by rw [hc, ← h, b1]⟩
          · exact .inl (by rw [← h]; exact b1)
        · exact .inr ⟨u, List.mem_cons_of_mem _ hu, h2⟩
      · rcases List.mem_cons.1 hu with rfl | hu
        · rw [hc] at hy; cases hy; exact ⟨x0, hx0, le_le hle0 b2⟩
        · exact i3 u hu y hy
/-- a row of hops that is a route -/
def Route (P : List Plc) (A : AskR) (W : List Way) (l : List Hp) : Prop := ∃ h r, l = h :: r ∧ ∃ w ∈ W, w.chan = h.chan ∧ w.frm = A.frm ∧ w.dst = h.node ∧ h.amt ≤ w.cap * 1000 ∧ h.amt - A.amt ≤ A.fee ∧ h.exp ≤ A.latest ∧ Val P A W h.node h.amt h.exp r ∧ r.length ≤ 19
theorem find_is {P : List Plc} {A : AskR} {W : List Way} {x : En} (h : findB P A W = some x) : Route P A W x.hops ∧ x.amt = (x.hops.headD hpZ).amt ∧ x.exp = (x.hops.headD hpZ).exp := by
  unfold findB at h
  obtain ⟨i1, _, _⟩ := fold_last A (reachN P A W 19) W none
  rcases i1 x h with h | ⟨w, hw, hc⟩
  · cases h
  · obtain ⟨v, hv, k1, k2, k3, k4, rfl⟩ := (candL_iff ..).1 hc
    obtain ⟨j1, j2, _⟩ := reach_inv P A W 19 w.dst v hv
    exact ⟨⟨_, _, rfl, w, hw, rfl, k1, rfl, k2, k3, k4, j1, j2⟩, rfl, rfl⟩
theorem find_best {P : List Plc} {A : AskR} {W : List Way} (hE : Easy P A) (hX : A.exp ≤ 2147483647) (hL : A.latest = 2147483647) {l : List Hp} (h : Route P A W l) : ∃ x, findB P A W = some x ∧ lexB (keyE ⟨(l.headD hpZ).amt, (l.headD hpZ).exp, l⟩) (keyE x) = false := by
  obtain ⟨h, r, rfl, w, hw, e1, e2, e3, k1, k2, k3, hv, hl⟩ := h
  obtain ⟨y, hy, hle⟩ := reach_opt hE 19 r h.node h.amt h.exp (by omega) hl hv
  rw [← e3] at hy
  obtain ⟨j1, j2, _⟩ := reach_inv P A W 19 w.dst y hy
  obtain ⟨q1, q2, q3⟩ := val_low hE _ _ _ _ j1
  have ha := amt_of_le hle
  dsimp only at ha
  obtain ⟨_, _, i3⟩ := fold_last A (reachN P A W 19) W none
  have hye : y.exp ≤ 2147483647 := by
    cases hyl : y.hops with
    | nil => rw [hyl] at j1; obtain ⟨_, _, q⟩ := j1; rw [q]; exact hX
    | cons g r' =>
      have j3 := j1
      rw [hyl] at j3
      obtain ⟨_, _, _, _, _, _, _, _, hb, _⟩ := j3
      have := hE.e1 (bef_mem hb)
      omega
  obtain ⟨x, hx, hx2⟩ := i3 w hw _ ((candL_iff ..).2 ⟨y, hy, e2, by omega, by omega, by omega, rfl⟩)
  refine ⟨x, hx, le_le hx2 ?_⟩
  have hp := pre_le w y.amt h.amt 0 y ⟨h.amt, h.exp, r⟩ ha (fun q => q) ha (fun q => q) hle
  dsimp only at hp
  rw [Int.add_zero, Int.add_zero, e1, e3] at hp
  show lexB (keyE ⟨h.amt, h.exp, h :: r⟩) _ = false
  rw [e1, e3]
  exact hp
/-! what a route is -/
theorem val_nodes {P : List Plc} {A : AskR} {W : List Way} (hW : ∀ w ∈ W, w.frm ≠ w.dst) : ∀ (l : List Hp) (t : ByteArray) (a x : Int), Val P A W t a x l → ∀ h ∈ l, h.node ≠ t
  | [], _, _, _, _, h, hh => by cases hh
  | g :: r, t, a, x, ⟨w, hw, _, hf, ht, _, _, _, hb, hv⟩, h, hh => by
    obtain ⟨hn, _⟩ := (bef_iff ..).1 hb
    rcases List.mem_cons.1 hh with rfl | hh
    · intro e; exact hW w hw (by rw [hf, ht, e])
    · intro e
      unfold hasN at hn
      rw [List.any_eq_false] at hn
      exact hn h hh (by rw [decide_eq_true_iff, e, hf])
theorem val_from {P : List Plc} {A : AskR} {W : List Way} (hA : A.frm ≠ A.dst) : ∀ (l : List Hp) (t : ByteArray) (a x : Int), Val P A W t a x l → t ≠ A.frm ∧ ∀ h ∈ l, h.node ≠ A.frm
  | [], _, _, _, ⟨h1, _⟩ => ⟨by rw [h1]; exact Ne.symm hA, fun h hh => by cases hh⟩
  | g :: r, t, a, x, ⟨w, hw, _, hf, ht, k1, _, _, hb, hv⟩ => by
    obtain ⟨i1, i2⟩ := val_from hA r _ _ _ hv
    refine ⟨k1, fun h hh => ?_⟩
    rcases List.mem_cons.1 hh with rfl | hh
    · exact i1
    · exact i2 h hh
theorem val_time {P : List Plc} {A : AskR} {W : List Way} (hA : timeB A.exp = true) : ∀ (l : List Hp) (t : ByteArray) (a x : Int), Val P A W t a x l → timeB x = true
  | [], _, _, _, ⟨_, _, h⟩ => by rw [h]; exact hA
  | g :: r, t, a, x, ⟨w, hw, _, hf, ht, k1, _, _, hb, hv⟩ => by
    obtain ⟨_, p, hp, h2⟩ := (bef_iff ..).1 hb
    obtain ⟨_, _, _, g', hg, hti, e⟩ := (befP_iff ..).1 h2
    simp only [En.mk.injEq] at e
    rw [e.2.1]; exact hti
theorem val_amt {P : List Plc} {A : AskR} {W : List Way} (hA : 0 ≤ A.amt) : ∀ (l : List Hp) (t : ByteArray) (a x : Int), Val P A W t a x l → 0 ≤ a
  | [], _, _, _, ⟨_, h, _⟩ => by rw [h]; exact hA
  | g :: r, t, a, x, ⟨w, hw, _, hf, ht, k1, _, _, hb, hv⟩ => by
    obtain ⟨_, p, hp, h2⟩ := (bef_iff ..).1 hb
    obtain ⟨_, _, _, g', hg, hti, e⟩ := (befP_iff ..).1 h2
    simp only [En.mk.injEq] at e
    have := gross_ge hg
    rw [e.1]; dsimp only at this; omega
theorem last_cons (g h : Hp) (r : List Hp) : (g :: h :: r).getLastD hpZ = (h :: r).getLastD hpZ := rfl
theorem val_last {P : List Plc} {A : AskR} {W : List Way} : ∀ (l : List Hp) (g : Hp), Val P A W g.node g.amt g.exp l → ((g :: l).getLastD hpZ).amt = A.amt ∧ ((g :: l).getLastD hpZ).exp = A.exp ∧ ((g :: l).getLastD hpZ).node = A.dst
  | [], g, ⟨h1, h2, h3⟩ => ⟨h2, h3, h1⟩
  | h :: r, g, ⟨w, hw, _, hf, ht, k1, _, _, hb, hv⟩ => by rw [last_cons]; exact val_last r h hv
theorem leads_iff (W : List Way) (a : ByteArray) (h : Hp) : leads W a h = true ↔ ∃ w ∈ W, w.chan = h.chan ∧ w.frm = a ∧ w.dst = h.node ∧ 0 ≤ h.amt ∧ h.amt ≤ w.cap * 1000 := by
  unfold leads
  rw [List.any_eq_true]
  simp only [decide_eq_true_iff]
theorem link_iff (P : List Plc) (a : ByteArray) (g h : Hp) : linkB P a (some g) h = true ↔ ∃ p, polOf P h.chan a = some p ∧ p.off = false ∧ p.min ≤ h.amt ∧ h.amt ≤ p.max ∧ grossO h.amt p.base p.rate = some g.amt ∧ timeB (h.exp + p.delta) = true ∧ g.exp = h.exp + p.delta := by
  unfold linkB
  dsimp only
  cases hb : beforeW P ⟨h.chan, 0, a, h.node⟩ ⟨h.amt, h.exp, []⟩ with
  | none =>
    constructor
    · intro e; cases e
    · rintro ⟨p, hp, k1, k2, k3, k4, k5, k6⟩
      have := (bef_iff P ⟨h.chan, 0, a, h.node⟩ ⟨h.amt, h.exp, []⟩ _).2 ⟨rfl, p, hp, (befP_iff ..).2 ⟨k1, k2, k3, _, k4, k5, rfl⟩⟩
      rw [hb] at this; cases this
  | some x =>
    obtain ⟨_, p, hp, h2⟩ := (bef_iff ..).1 hb
    obtain ⟨k1, k2, k3, g', hg, hti, rfl⟩ := (befP_iff ..).1 h2
    dsimp only
    rw [decide_eq_true_iff]
    constructor
    · rintro ⟨e1, e2⟩; exact ⟨p, hp, k1, k2, k3, by rw [← e1]; exact hg, hti, e2.symm⟩
    · rintro ⟨p', hp', _, _, _, k4, _, k6⟩
      dsimp only at hp
      rw [hp] at hp'
      cases hp'
      dsimp only at hg
      rw [hg] at k4
      exact ⟨Option.some.inj k4, k6.symm⟩
theorem bef_link {P : List Plc} {w : Way} {g h : Hp} {r : List Hp} (e1 : w.chan = h.chan) (e2 : w.dst = h.node) : beforeW P w ⟨h.amt, h.exp, r⟩ = some ⟨g.amt, g.exp, h :: r⟩ ↔ hasN r w.frm = false ∧ linkB P w.frm (some g) h = true := by
  rw [bef_iff, link_iff]
  constructor
  · rintro ⟨h1, p, hp, h2⟩
    obtain ⟨k1, k2, k3, g', hg, hti, e⟩ := (befP_iff ..).1 h2
    simp only [En.mk.injEq] at e
    exact ⟨h1, p, by rw [← e1]; exact hp, k1, k2, k3, by rw [e.1]; exact hg, hti, e.2.1⟩
  · rintro ⟨h1, p, hp, k1, k2, k3, k4, k5, k6⟩
    refine ⟨h1, p, by rw [e1]; exact hp, (befP_iff ..).2 ⟨k1, k2, k3, _, k4, k5, ?_⟩⟩
    simp only [En.mk.injEq]
    exact ⟨trivial, k6, by rw [e1, e2]⟩
theorem go_mem : ∀ {P : List Plc} {W : List Way} (l : List Hp) {met : List ByteArray} {a z : ByteArray} {pr : Option Hp}, checkGo P W met a pr l = some z → (∀ h ∈ l, h.node ∉ met) ∧ (z = a ∨ ∃ h ∈ l, h.node = z)
  | P, W, [], met, a, z, pr, h => by cases h; exact ⟨fun h hh => (by cases hh), .inl rfl⟩
  | P, W, g :: l, met, a, z, pr, h => by
    unfold checkGo at h
    split at h
    · cases h
    · rename_i hn
      obtain ⟨i1, i2⟩ := go_mem l h
      refine ⟨fun k hk => ?_, ?_⟩
      · rcases List.mem_cons.1 hk with rfl | hk
        · exact fun e => hn (.inr (.inl e))
        · exact fun e => i1 k hk (List.mem_cons_of_mem _ e)
      · rcases i2 with rfl | ⟨k, hk, e⟩
        · exact .inr ⟨g, List.mem_cons_self .., rfl⟩
        · exact .inr ⟨k, List.mem_cons_of_mem _ hk, e⟩
theorem go_val {P : List Plc} {A : AskR} {W : List Way} : ∀ (l : List Hp) (g : Hp) (met : List ByteArray), A.frm ∈ met → g.node ∈ met → g.node ≠ A.frm → checkGo P W met g.node (some g) l = some A.dst → ((g :: l).getLastD hpZ).amt = A.amt → ((g :: l).getLastD hpZ).exp = A.exp → Val P A W g.node g.amt g.exp l
  | [], g, met, _, _, _, h, h1, h2 => ⟨Option.some.inj h, h1, h2⟩
  | h :: r, g, met, hf, hg, hgf, hc, h1, h2 => by
    have hm := go_mem (h :: r) hc
    unfold checkGo at hc
    split at hc
    · cases hc
    · rename_i hn
      have hl : leads W g.node h = true := by cases k : leads W g.node h; exact absurd (.inl k) hn; rfl
      have hk : linkB P g.node (some g) h = true := by cases k : linkB P g.node (some g) h; exact absurd (.inr (.inr k)) hn; rfl
      have hnm : h.node ∉ met := fun e => hn (.inr (.inl e))
      obtain ⟨w, hw, e1, e2, e3, q1, q2⟩ := (leads_iff ..).1 hl
      have hr := (go_mem r hc).1
      have hv := go_val r h (h.node :: met) (List.mem_cons_of_mem _ hf) (List.mem_cons_self ..) (fun e => hnm (e ▸ hf)) hc h1 h2
      refine ⟨w, hw, e1, e2, e3, hgf, ?_, q2, (bef_link e1 e3).2 ⟨?_, by rw [e2]; exact hk⟩, hv⟩
      · rcases hm.2 with e | ⟨k, hk, e⟩
        · exfalso
          rcases (go_mem r hc).2 with e' | ⟨k, hk, e'⟩
          · exact hnm (by rw [← e', e]; exact hg)
          · exact hm.1 k (List.mem_cons_of_mem _ hk) (by rw [e', e]; exact hg)
        · intro e'
          exact hm.1 k hk (by rw [e, ← e']; exact hg)
      · unfold hasN
        rw [List.any_eq_false]
        intro k hk' e'
        rw [decide_eq_true_iff] at e'
        exact hr k hk' (List.mem_cons_of_mem _ (by rw [e', e2]; exact hg))
theorem val_go {P : List Plc} {A : AskR} {W : List Way} (hA : 0 ≤ A.amt) (hW : ∀ w ∈ W, w.frm ≠ w.dst) : ∀ (l : List Hp) (g : Hp) (met : List ByteArray), (∀ h ∈ l, h.node ∉ met) → Val P A W g.node g.amt g.exp l → checkGo P W met g.node (some g) l = some A.dst
  | [], g, met, _, ⟨h, _⟩ => by unfold checkGo; rw [h]
  | h :: r, g, met, hm, hv => by
    obtain ⟨w, hw, e1, e2, e3, k1, k2, k3, hb, hv'⟩ := hv
    have hb' := (bef_link e1 e3).1 hb
    rw [e2] at hb'
    unfold checkGo
    rw [if_neg]
    · refine val_go hA hW r h (h.node :: met) (fun k hk e => ?_) hv'
      rcases List.mem_cons.1 e with e | e
      · exact val_nodes hW r _ _ _ hv' k hk e
      · exact hm k (List.mem_cons_of_mem _ hk) e
    · rintro (e | e | e)
      · rw [(leads_iff ..).2 ⟨w, hw, e1, e2, e3, val_amt hA r _ _ _ hv', k3⟩] at e; cases e
      · exact hm h (List.mem_cons_self ..) e
      · rw [hb'.2] at e; cases e
theorem check_route {P : List Plc} {A : AskR} {W : List Way} (hA : 0 ≤ A.amt) (hne : A.frm ≠ A.dst) (hW : ∀ w ∈ W, w.frm ≠ w.dst) (l : List Hp) (hl : l.length ≤ 20) (h0 : l.length ≠ 0) : endsB A l (checkGo P W [A.frm] A.frm none l) = true ↔ Route P A W l := by
  cases l with
  | nil => exact absurd rfl h0
  | cons g r =>
    simp only [List.length_cons] at hl
    constructor
    · intro h
      cases hc : checkGo P W [A.frm] A.frm none (g :: r) with
      | none => rw [hc] at h; cases h
      | some z =>
        rw [hc] at h
        obtain ⟨rfl, h1, h2, h3, h4⟩ := of_decide_eq_true h
        unfold checkGo at hc
        split at hc
        · cases hc
        · rename_i hn
          have hld : leads W A.frm g = true := by cases k : leads W A.frm g; exact absurd (.inl k) hn; rfl
          obtain ⟨w, hw, e1, e2, e3, q1, q2⟩ := (leads_iff ..).1 hld
          have hgn : g.node ≠ A.frm := fun e => hn (.inr (.inl (by rw [e]; exact List.mem_cons_self ..)))
          exact ⟨g, r, rfl, w, hw, e1, e2, e3, q2, h3, h4, go_val r g _ (by simp) (List.mem_cons_self ..) hgn hc h1 h2, by omega⟩
    · rintro ⟨h, r', e, w, hw, e1, e2, e3, k1, k2, k3, hv, hl'⟩
      cases e
      have hf := val_from hne r _ _ _ hv
      have hgo : checkGo P W [A.frm] A.frm none (g :: r) = some A.dst := by
        unfold checkGo
        rw [if_neg]
        · refine val_go hA hW r g _ (fun k hk e => ?_) hv
          rcases List.mem_cons.1 e with e | e
          · exact val_nodes hW r _ _ _ hv k hk e
          · exact hf.2 k hk (by simpa using e)
        · rintro (e | e | e)
          · rw [(leads_iff ..).2 ⟨w, hw, e1, e2, e3, val_amt hA r _ _ _ hv, k1⟩] at e; cases e
          · exact hf.1 (by simpa using e)
          · cases e
      rw [hgo]
      obtain ⟨l1, l2, _⟩ := val_last r g hv
      exact decide_eq_true ⟨rfl, l1, l2, k2, k3⟩
theorem ways_mem : ∀ (E : List Edg) (met : List ByteArray) (w : Way), w ∈ waysGo met E → w.frm ≠ w.dst ∧ w.chan ∉ met
  | [], _, w, h => by cases h
  | e :: E, met, w, h => by
    unfold waysGo at h
    rcases List.mem_append.1 h with h | h
    · split at h
      · cases h
      · rename_i hn
        rcases List.mem_cons.1 h with rfl | h
        · exact ⟨fun k => hn (.inr k), fun k => hn (.inl k)⟩
        · rcases List.mem_cons.1 h with rfl | h
          · exact ⟨fun k => hn (.inr k.symm), fun k => hn (.inl k)⟩
          · cases h
    · obtain ⟨i1, i2⟩ := ways_mem E _ w h
      exact ⟨i1, fun k => i2 (List.mem_cons_of_mem _ k)⟩
/-! the document's check -/
theorem go_cons (P : List Plc) (W : List Way) (met : List ByteArray) (a : ByteArray) (pr : Option Hp) (h : Hp) (r : List Hp) (z : ByteArray) : checkGo P W met a pr (h :: r) = some z ↔ leads W a h = true ∧ h.node ∉ met ∧ linkB P a pr h = true ∧ checkGo P W (h.node :: met) h.node (some h) r = some z := by
  rw [checkGo]
  by_cases hn : leads W a h = false ∨ h.node ∈ met ∨ linkB P a pr h = false
  · rw [if_pos hn]
    constructor
    · intro e; cases e
    · rintro ⟨k1, k2, k3, _⟩
      rcases hn with e | e | e
      · rw [k1] at e; cases e
      · exact absurd e k2
      · rw [k3] at e; cases e
  · rw [if_neg hn]
    constructor
    · intro e
      refine ⟨?_, fun k => hn (.inr (.inl k)), ?_, e⟩
      · cases k : leads W a h; exact absurd (.inl k) hn; rfl
      · cases k : linkB P a pr h; exact absurd (.inr (.inr k)) hn; rfl
    · rintro ⟨_, _, _, e⟩; exact e
end Go.Proofs.YtbdimlppnhcicaaDoor.Rte
/- route: the document's way of finding -/
namespace Go.Proofs.YtbdimlppnhcicaaDoor.Rte
set_option linter.unusedVariables false
open Go.RowKit Go.Proofs.YtbdimlppnhcicaaDoor Go.Proofs.YtbdimlppnhcicaaDoor.Mny
/-! route: the document's way of finding -/
/-! the two ways over an edge -/
end Go.Proofs.YtbdimlppnhcicaaDoor.Rte
