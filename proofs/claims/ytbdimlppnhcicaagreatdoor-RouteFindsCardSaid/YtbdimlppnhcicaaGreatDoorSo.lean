/- term: law.go's same, of two equal opened terms. -/
import Derived.Lib.ParseIntB
import Derived.Lib.Bytealg
import Derived.Shelf.Strings.Builder1
import Derived.Shelf.Small.Bits
import Derived.Shelf.Small.Strs
import Derived.Shelf.Small.Wraps
import Derived.Shelf.Strings.BuilderF
import Derived.Shelf.Strings.BuilderK
import Derived.Shelf.Strconv.Itoa0
import Derived.Shelf.Strconv.Itoa1
import Derived.Shelf.LaysM
import Derived.Shelf.Strconv.Itoa2
import Derived.Shelf.Strconv.Itoa3
import Derived.Shelf.Strconv.Itoa4
import Derived.Shelf.Strconv.ParseIntEmpty
import Derived.Shelf.Strconv.Clone
import Derived.Shelf.Strconv.SyntaxError
import Derived.Shelf.LaysC
import Derived.Shelf.Strconv.ToError
import Derived.Shelf.Strconv.Lower
import Derived.Shelf.Strconv.ParseUint10
import Derived.Shelf.Strconv.ParseUint10Empty
import Derived.Shelf.Strconv.ParseUint10Any
import Derived.Shelf.Strconv.ParseInt10
import Derived.Shelf.Strconv.RangeError
import Derived.Shelf.Strconv.ToErrorRange
import Derived.Shelf.Strconv.ParseUintEmpty
import Derived.Shelf.Strconv.ParseUint10b64
import Derived.Shelf.Strconv.ParseUint10b32
import Derived.Shelf.Strconv.ParseUint10b16
import Derived.Shelf.Strconv.ParseUint10b8
import Derived.Shelf.Strconv.ParseUint10At
import Derived.Shelf.Strconv.ParseInt10At64
import Derived.Shelf.Strconv.ParseInt10At32
import Derived.Shelf.Strconv.ParseInt10At16
import Derived.Shelf.Strconv.ParseInt10At8
import Derived.Shelf.Strconv.ParseInt10All
import Derived.Shelf.Strconv.ParseIntPublic10
import Derived.Shelf.Strconv.ErrVarParseInt
import Derived.Shelf.Strings.Search1
import Derived.Shelf.Bits.Mul64
import Derived.Shelf.Strings.BuilderCap
import Derived.Ground.Names2Prog
import Derived.Shelf.Slices.Clone
import Derived.Shelf.Slices.SearchI
import Derived.Ground.SlgnProg
import Derived.Shelf.SlicesE.Clone
import Derived.WalkKit
import Derived.WalkSpells
import Derived.WalkLawsBesides
import Derived.Handy
import Derived.Lib.Hide
import Derived.Deep.QuietTactic
import Derived.BigQuiet
import Derived.Deep.RegionHeld3
import Derived.Lib.Strings
import Derived.Lib.IndexBytes
import Derived.BigRegion
import Derived.Deep.RegionLaw
import Derived.Deep.AppendLies
import Derived.Deep.LoopGhost
import Derived.Deep.Onto
import Derived.Deep.WholeRow
import Derived.Deep.CutRange
import Derived.Laws.CopyOwn
import Derived.Lib.ItoaLen
import Derived.Lib.AppendIntMem
import Derived.Test.YtbdimlppnhcicaaGreatDoorRows
import Derived.Test.YtbdimlppnhcicaaGreatDoorProg
import Derived.Test.YtbdimlppnhcicaaGreatDoorNu
import Derived.Test.YtbdimlppnhcicaaGreatDoorTa
import Derived.Test.YtbdimlppnhcicaaGreatDoorTl
import Derived.Test.YtbdimlppnhcicaaGreatDoorRg
import Derived.Test.YtbdimlppnhcicaaGreatDoorBa
import Derived.Test.YtbdimlppnhcicaaGreatDoorWg
namespace Go.Proofs.YtbdimlppnhcicaaGreatDoor
set_option linter.unusedVariables false
open Go.RowKit
end Go.Proofs.YtbdimlppnhcicaaGreatDoor
/- term: TermOpens. -/
namespace Go.Proofs.YtbdimlppnhcicaaGreatDoor
set_option linter.unusedVariables false
open Go.RowKit
theorem kids_strs {B : Nat} {o : Option Addr} {m c : Nat} {ks : List (List UInt8)} {w : World} (h : KidsAt B (.slice o m c) ks w) :
    ks.length = m ∧ StrsAt o (ks.map fun k => (⟨k.toArray⟩ : ByteArray)) w := by
  obtain ⟨vs, hvs, hown⟩ := h
  have e : (ks.map fun k => (⟨k.toArray⟩ : ByteArray)) = vs := by
    rw [← hvs, List.map_map]
    have : ((fun k : List UInt8 => (⟨k.toArray⟩ : ByteArray)) ∘ fun v : ByteArray => v.data.toList) = id := by
      funext v; apply ByteArray.ext; simp
    rw [this, List.map_id]
  rw [e, ← hvs, List.length_map]
  rcases Nat.eq_zero_or_pos vs.length with h0 | hpos
  · obtain rfl := List.length_eq_zero_iff.1 h0
    refine ⟨?_, .inl rfl⟩
    rcases hown.2 with ⟨h, _⟩ | ⟨g, cap, cur, h, _⟩
    · cases h; rfl
    · cases h; rfl
  · obtain ⟨g, cap, e1, _, e3⟩ := own_cells hown hpos
    cases e1
    exact ⟨rfl, .inr ⟨g, 0, rfl, fun k s hk => by rw [Nat.zero_add]; exact e3 k _ (by rw [List.getElem?_map, hk]; rfl)⟩⟩
/-- an opened term's four cells, and whether it was right -/
structure Op4 where
  op : Nat
  n : Nat
  u : ByteArray
  vs : List ByteArray
  b : Bool
def op4 (l : List UInt8) : Op4 := match readP l with
  | some x => ⟨x.op.toNat, x.n, ⟨x.text.toArray⟩, x.kids.map fun k => (⟨k.toArray⟩ : ByteArray), true⟩
  | none => ⟨0, 0, ⟨#[]⟩, [], false⟩
def OneForm (q : Op4) (w : World) (e : Ending) (w' : World) : Prop :=
  Below w.heap.size w w' ∧ ∃ o k, e = .returned (.tuple #[.agg #[.int .u8 q.op, .int .i64 q.n, .string q.u, .slice o q.vs.length k], .bool q.b]) ∧ StrsAt o q.vs w'
theorem one_form {l : List UInt8} {w w' : World} {e : Ending} (h : OpenPost (readP l) w e w') : OneForm (op4 l) w e w' := by
  obtain ⟨hb, hno, hyes⟩ := h
  refine ⟨hb, ?_⟩
  unfold op4
  cases hx : readP l with
  | none => exact ⟨none, 0, hno hx, .inl rfl⟩
  | some x =>
    obtain ⟨u, ko, km, kc, rfl, hu, hK⟩ := hyes x hx
    obtain ⟨h1, h2⟩ := kids_strs hK
    refine ⟨ko, kc, ?_, h2⟩
    simp only [List.length_map]
    rw [h1, ← hu]
end Go.Proofs.YtbdimlppnhcicaaGreatDoor
/- A region that draws its order, reads what was there, and calls what makes memory: one walk of the text's order. -/
namespace Go.Proofs.YtbdimlppnhcicaaGreatDoor
open Go.RowKit
theorem cell_later' {w0 w : World} {b o : Nat} {v : Value} (hb : Below w0.heap.size w0 w) (h : w0.cell? ⟨b, o, none⟩ = some v) : w.cell? ⟨b, o, none⟩ = some v :=
  (hb.cell (p := ⟨b, o, none⟩) (World.block_lt_of_cell? w0 _ h)).trans h
/-- a world in which nothing that was there has turned -/
structure Later (w0 : World) where
  at_ : World
  below : Below w0.heap.size w0 at_
instance (w0 : World) : Nonempty (Later w0) := ⟨⟨w0, Below.refl _ _⟩⟩
theorem Later.cell {w0 : World} {b o : Nat} {v : Value} (h : w0.cell? ⟨b, o, none⟩ = some v) (n : Later w0) : n.at_.cell? ⟨b, o, none⟩ = some v := cell_later' n.below h
theorem wp_region_later {P : Program} {id : Nat} {Q : Exit → Act → World → Prop} {a : Act} {w : World} {l : List Oper} (hm : P.follows .mixedOrders = true) (hB : Region.lexB .any l.toArray = true)
    (h : wpQuiet P l.toArray (fun w' => ∃ n : Later w, w' = n.at_) (fun a' => ∀ w', (∃ n : Later w, w' = n.at_) → Q .normal a' w') l a) : (Code.region id l.toArray true).wp P Q a w :=
  wp_region_quiet (C := fun w' => ∃ n : Later w, w' = n.at_) hm hB ⟨⟨w.drew, (Below.refl _ _).drew⟩, rfl⟩ (by simpa using h)
theorem calls_later {P : Program} {f : FuncId} {args : Array Value} {v : Value} {w0 : World} {n : Later w0} (h : Calls P f args n.at_ fun e w' => e = .returned v ∧ Below n.at_.heap.size n.at_ w') :
    Calls P f args n.at_ fun e w'' => e = .returned v ∧ ∃ m : Later w0, w'' = m.at_ :=
  h.mono fun _ w' ⟨he, hb⟩ => ⟨he, ⟨w', n.below.trans (hb.mono n.below.size)⟩, rfl⟩
end Go.Proofs.YtbdimlppnhcicaaGreatDoor
