/- tlv: Find, the document's Find. -/
import Derived.Calls
import Derived.WalkKit
import Derived.WalkSpells
import Derived.WalkLawsBesides
import Derived.Handy
import Derived.Lib.Hide
import Derived.Deep.AppendLies
import Derived.Deep.LoopGhost
import Derived.Outline
import Derived.Laws.BitsAllLaws
import Derived.Laws.BitsLemmas
import Derived.Lib.AppendZeros
import Derived.Lib.AppendZerosOnto
import Derived.Maps.AppendAt
import Derived.Laws.Append
import Derived.Laws.AppendOwn
import Derived.Deep.QuietTactic
import Derived.BigQuiet
import Derived.Deep.RegionHeld3
import Derived.Lib.ConvBytes
import Derived.Laws.BytesArg
import Derived.Test.YtakfhoodjcfpcaaDoorRows
import Derived.Test.YtakfhoodjcfpcaaDoorPl
import Derived.Test.YtakfhoodjcfpcaaDoorTlA
namespace Go.Proofs.YtakfhoodjcfpcaaDoor.T
open Go.RowKit Tlv

/-- the first record of which p is true -/
def IsFirst (p : Rec → Bool) (L : List Rec) (k : Nat) (r : Rec) : Prop := L[k]? = some r ∧ p r = true ∧ ∀ i, i < k → ∀ r', L[i]? = some r' → p r' = false
theorem first_or_none (p : Rec → Bool) : ∀ L : List Rec, (∃ k r, IsFirst p L k r) ∨ ∀ r ∈ L, p r = false
  | [] => .inr fun r h => by cases h
  | a :: L => by
    cases ha : p a with
    | true => exact .inl ⟨0, a, rfl, ha, fun i hi => by omega⟩
    | false =>
      rcases first_or_none p L with ⟨k, r, h1, h2, h3⟩ | h
      · refine .inl ⟨k + 1, r, by simpa using h1, h2, fun i hi r' hr => ?_⟩
        cases i with
        | zero => simp at hr; subst hr; exact ha
        | succ i => exact h3 i (by omega) r' (by simpa using hr)
      · refine .inr fun r hr => ?_
        rcases List.mem_cons.1 hr with rfl | hr
        · exact ha
        · exact h r hr
theorem cell1 (w : World) (v : Value) (t : TypeId) : (w.alloc (.cells #[v] t)).cell? ⟨w.heap.size, 0, none⟩ = some v := by
  rw [cell_of_row _ _ _ _ _ _ (heap_alloc_at w (.cells #[v] t))]; rfl
theorem cell2 (w : World) (a b : Value) (t : TypeId) : (w.alloc (.cells #[a, b] t)).cell? ⟨w.heap.size, 0, none⟩ = some a ∧ (w.alloc (.cells #[a, b] t)).cell? ⟨w.heap.size, 1, none⟩ = some b := by
  have h := heap_alloc_at w (.cells #[a, b] t)
  refine ⟨?_, ?_⟩ <;> (rw [cell_of_row _ _ _ _ _ _ h]; rfl)
def BoolPost (b : Bool) (w : World) (e : Ending) (w' : World) : Prop := e = .returned (.bool b) ∧ Below w.heap.size w w'
end Go.Proofs.YtakfhoodjcfpcaaDoor.T
