/- A region that draws its order, reads what was there, and calls what makes memory: one walk of the text's order. -/
import Derived.Test.YtbdimlppnhcicaaGreatDoorTa
import Derived.Deep.QuietTactic
import Derived.BigQuiet
namespace Go.Proofs.YtbdimlppnhcicaaGreatDoor
open Go.RowKit
theorem cell_later' {w0 w : World} {b o : Nat} {v : Value} (hb : Below w0.heap.size w0 w) (h : w0.cell? ⟨b, o, none⟩ = some v) : w.cell? ⟨b, o, none⟩ = some v :=
  (hb.cell (p := ⟨b, o, none⟩) (World.block_lt_of_cell? w0 _ h)).trans h
/-- a world in which nothing that was there has turned -/
structure Later (w0 : World) where
  at_ : World
  below : Below w0.heap.size w0 at_
instance (w0 : World) : Nonempty (Later w0) := ⟨⟨w0, Below.refl _ _⟩⟩
theorem Later.cell {w0 : World} {b o : Nat} {v : Value} (h : w0.cell? ⟨b, o, none⟩ = some v) (n : Later w0) : n.at_.cell? ⟨b, o, none⟩ = some v := cell_later' n.below h
theorem wp_region_later {P : Program} {id : Nat} {Q : Exit → Act → World → Prop} {a : Act} {w : World} {l : List Oper} (hm : P.follows .mixedOrders = true) (hB : Region.lexB .any l.toArray = true)
    (h : wpQuiet P l.toArray (fun w' => ∃ n : Later w, w' = n.at_) (fun a' => ∀ w', (∃ n : Later w, w' = n.at_) → Q .normal a' w') l a) : (Code.region id l.toArray true).wp P Q a w :=
  wp_region_quiet (C := fun w' => ∃ n : Later w, w' = n.at_) hm hB ⟨⟨w.drew, (Below.refl _ _).drew⟩, rfl⟩ (by simpa using h)
theorem calls_later {P : Program} {f : FuncId} {args : Array Value} {v : Value} {w0 : World} {n : Later w0} (h : Calls P f args n.at_ fun e w' => e = .returned v ∧ Below n.at_.heap.size n.at_ w') :
    Calls P f args n.at_ fun e w'' => e = .returned v ∧ ∃ m : Later w0, w'' = m.at_ :=
  h.mono fun _ w' ⟨he, hb⟩ => ⟨he, ⟨w', n.below.trans (hb.mono n.below.size)⟩, rfl⟩
theorem calls_later_same {P : Program} {f : FuncId} {args : Array Value} {v : Value} {w0 : World} {n : Later w0} (h : Calls P f args n.at_ fun e w' => e = .returned v ∧ n.at_ = w') :
    Calls P f args n.at_ fun e w'' => e = .returned v ∧ ∃ m : Later w0, w'' = m.at_ :=
  h.mono fun _ _ ⟨he, hb⟩ => ⟨he, n, hb.symm⟩
end Go.Proofs.YtbdimlppnhcicaaGreatDoor
