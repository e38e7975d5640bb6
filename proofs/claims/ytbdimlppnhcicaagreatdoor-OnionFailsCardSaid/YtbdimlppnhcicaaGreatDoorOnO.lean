/- a packet peeled with a memory, the document's -/
import Derived.Test.YtbdimlppnhcicaaGreatDoorOnM
import Derived.Deep.AppendLies
import Derived.Deep.RegionLaw
namespace Go.Proofs.YtbdimlppnhcicaaGreatDoor
set_option linter.unusedVariables false
open Go.RowKit
/-! onion: a packet peeled with a memory, the document's -/
theorem frS {w w' : World} {sb : Nat} {v : Value} (h : Fr (fun k => v.ownBlock = some k) w w') (v' : Value) (o : Unit) : Fr (fun b => b = sb ∨ v.ownBlock = some b) w (w'.setCell ⟨sb, 0, none⟩ v') :=
  ⟨h.os, h.tape, h.output, by simpa [World.setCell] using h.size, fun k hk hr => (Below.heap_setCell _ _ _ _ (fun e => hr (.inl e))).trans (h.block k hk (fun e => hr (.inr e)))⟩
theorem frD {w w2 w3 : World} {v : Value} (hB : Below w.heap.size w w2) (o : Obj) (hg : (w2.alloc o).drew.grownBy w3 v.ownBlock) : Fr (fun k => v.ownBlock = some k) w w3 :=
  have hB := hB.trans ((below_new' w2 o).mono hB.size)
  ⟨hg.os.trans hB.os, hg.tape.trans hB.tape, hg.output.trans hB.output, Nat.le_trans hB.size hg.size, fun k hk hs => (hg.block k (Nat.lt_of_lt_of_le hk hB.size) (fun e => hs e.symm)).trans (hB.block k hk)⟩
theorem dcell {w : World} {sb : Nat} {v : Value} {t : TypeId} {f : Nat × Nat} (h : w.heap[sb]? = some (.cells #[v] t f)) : w.cell? ⟨sb, 0, none⟩ = some v := by rw [cell_of_row _ _ _ _ _ _ h]; rfl
theorem dfroz {w : World} {sb : Nat} {v : Value} {t : TypeId} (h : w.heap[sb]? = some (.cells #[v] t (0, 0))) : w.frozen? ⟨sb, 0, none⟩ = false := by simp [World.frozen?, h]
theorem keepD {w2 w3 : World} {nb base n : Nat} {cs : Array Value} {t : TypeId} {fr : Nat × Nat} {v : Value} {xs : List Value} (h : w2.heap[nb]? = some (.cells cs t fr)) (o : Obj) (hg : (w2.alloc o).drew.grownBy w3 v.ownBlock) (hown : w2.ownsRow base 23 1 v n xs) (ht : t ≠ 23) : w3.heap[nb]? = some (.cells cs t fr) := by
  have h1 : (w2.alloc o).drew.heap[nb]? = some (.cells cs t fr) := (heap_alloc_old w2 o (lt_of_heap h)).trans h
  exact (hg.block nb (lt_of_heap h1) (fun e => own_neT hown h ht nb e.symm rfl)).trans h1
end Go.Proofs.YtbdimlppnhcicaaGreatDoor
