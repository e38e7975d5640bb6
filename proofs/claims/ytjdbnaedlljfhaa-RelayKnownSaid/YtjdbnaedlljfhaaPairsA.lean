/- RelayPairs: its parts. -/
import Derived.Test.YtjdbnaedlljfhaaSame
import Derived.Deep.CutRange
namespace Go.Proofs.Ytjdbnaedlljfhaa
open Go.RowKit

theorem cell_lo {w w' : World} {B : Nat} {p : Addr} {v : Value} (hb : Below B w w') (hp : p.block < B) (h : w.cell? p = some v) : w'.cell? p = some v := (World.cell?_of_block (hb.block p.block hp)).trans h
/-- a told list of circuits lies there -/
def LAt (w : World) (a : Option Addr) (L : List Circ) : Prop := L = [] ∨ ∃ (g : Nat) (cur : Array Value), a = some ⟨g, 0, none⟩ ∧ w.heap[g]? = some (.cells cur 44 (0, 0)) ∧ ∀ (k : Nat) (c : Circ), L[k]? = some c → ∀ j, j < 10 → cur[k * 10 + j]? = c.cells[j]?
theorem circ_at_cells : ∀ (L : List Circ) (k : Nat) (c : Circ), L[k]? = some c → ∀ j, j < 10 → (circCells L)[k * 10 + j]? = c.cells[j]?
  | [], k, c, h, _, _ => by simp at h
  | x :: L, 0, c, h, j, hj => by
    simp at h; subst h
    show (x.cells ++ circCells L)[0 * 10 + j]? = _
    rw [List.getElem?_append_left (by simp [Circ.cells]; omega), Nat.zero_mul, Nat.zero_add]
  | x :: L, k + 1, c, h, j, hj => by
    have := circ_at_cells L k c (by simpa using h) j hj
    show (x.cells ++ circCells L)[(k + 1) * 10 + j]? = _
    rw [List.getElem?_append_right (by simp [Circ.cells]; omega), show (k + 1) * 10 + j - x.cells.length = k * 10 + j by simp [Circ.cells]; omega]
    exact this
theorem LAt.of {w : World} {base n c : Nat} {a : Option Addr} {L : List Circ} (h : w.ownsRow base 44 10 (.slice a n c) n (circCells L)) (hn : L.length = n) : LAt w a L := by
  rcases h.2 with ⟨_, h0⟩ | ⟨g, cap, cur, hv, _, hh, hc, _, hs, ht⟩
  · exact .inl (List.eq_nil_of_length_eq_zero (by omega))
  · cases hv
    refine .inr ⟨g, cur, rfl, hh, fun k c hk j hj => ?_⟩
    have hkl := (List.getElem?_eq_some_iff.1 hk).1
    rw [← circ_at_cells L k c hk j hj, ← ht, List.getElem?_take, if_pos (by omega), Array.getElem?_toList]
theorem LAt.row {w : World} {a : Option Addr} {L : List Circ} (h : LAt w a L) {k : Nat} {c : Circ} (hk : L[k]? = some c) : ∃ g, a = some ⟨g, 0, none⟩ ∧ CircAt w g (k * 10) c := by
  have hkl := (List.getElem?_eq_some_iff.1 hk).1
  obtain ⟨g, cur, ha, hh, hc⟩ := h.resolve_left (fun e => by rw [e] at hkl; simp at hkl)
  have hc := hc k c hk
  refine ⟨g, ha, ?_, ?_, ?_, ?_, ?_, ?_, ?_, ?_, ?_, ?_⟩
  · rw [cell_of_row _ _ _ _ _ _ hh]; exact hc 0 (by omega)
  · rw [cell_of_row _ _ _ _ _ _ hh]; exact hc 1 (by omega)
  · rw [cell_of_row _ _ _ _ _ _ hh]; exact hc 2 (by omega)
  · rw [cell_of_row _ _ _ _ _ _ hh]; exact hc 3 (by omega)
  · rw [cell_of_row _ _ _ _ _ _ hh]; exact hc 4 (by omega)
  · rw [cell_of_row _ _ _ _ _ _ hh]; exact hc 5 (by omega)
  · rw [cell_of_row _ _ _ _ _ _ hh]; exact hc 6 (by omega)
  · rw [cell_of_row _ _ _ _ _ _ hh]; exact hc 7 (by omega)
  · rw [cell_of_row _ _ _ _ _ _ hh]; exact hc 8 (by omega)
  · rw [cell_of_row _ _ _ _ _ _ hh]; exact hc 9 (by omega)
theorem LAt.keep {w w' : World} {a : Option Addr} {L : List Circ} (h : LAt w a L) (hk : ∀ (g : Nat) (cur : Array Value), w.heap[g]? = some (.cells cur 44 (0, 0)) → w'.heap[g]? = w.heap[g]?) : LAt w' a L := by
  rcases h with h | ⟨g, cur, ha, hh, hc⟩
  · exact .inl h
  · exact .inr ⟨g, cur, ha, (hk g cur hh).trans hh, hc⟩
theorem LAt.below {w w' : World} {a : Option Addr} {L : List Circ} (h : LAt w a L) (hb : Below w.heap.size w w') : LAt w' a L := h.keep fun g _ hg => hb.block g (lt_of_heap hg)
theorem lt2 {a b c : World} (h1 : Below a.heap.size a b) (h2 : Below b.heap.size b c) : Below a.heap.size a c := h1.trans (h2.mono h1.size)
theorem set10 {w : World} {b : Nat} {c : Circ} {a0 a1 a2 a3 a4 a5 a6 a7 a8 a9 : Value} (h : w.heap[b]? = some (.cells #[a0, a1, a2, a3, a4, a5, a6, a7, a8, a9] 44 (0, 0))) :
    ((((((((((w.setCell ⟨b, 0, none⟩ (.string c.ic)).setCell ⟨b, 1, none⟩ (.int .i64 c.ii)).setCell ⟨b, 2, none⟩ (.string c.oc)).setCell ⟨b, 3, none⟩ (.int .i64 c.oi)).setCell ⟨b, 4, none⟩ (.int .i64 c.ia)).setCell ⟨b, 5, none⟩ (.int .i64 c.oa)).setCell ⟨b, 6, none⟩ (.int .i64 c.ie)).setCell ⟨b, 7, none⟩ (.int .i64 c.oe)).setCell ⟨b, 8, none⟩ (.string c.hash)).setCell ⟨b, 9, none⟩ (.string c.sh)).heap[b]? = some (.cells c.cells.toArray 44 (0, 0)) := by
  have h0 := heap_setCell_same _ b 0 _ 44 (.string c.ic) h
  have h1 := heap_setCell_same _ b 1 _ 44 (.int .i64 c.ii) h0
  have h2 := heap_setCell_same _ b 2 _ 44 (.string c.oc) h1
  have h3 := heap_setCell_same _ b 3 _ 44 (.int .i64 c.oi) h2
  have h4 := heap_setCell_same _ b 4 _ 44 (.int .i64 c.ia) h3
  have h5 := heap_setCell_same _ b 5 _ 44 (.int .i64 c.oa) h4
  have h6 := heap_setCell_same _ b 6 _ 44 (.int .i64 c.ie) h5
  have h7 := heap_setCell_same _ b 7 _ 44 (.int .i64 c.oe) h6
  have h8 := heap_setCell_same _ b 8 _ 44 (.string c.hash) h7
  have h9 := heap_setCell_same _ b 9 _ 44 (.string c.sh) h8
  refine h9.trans ?_
  simp [Circ.cells]
theorem set10_below {w W : World} {b : Nat} {c : Circ} (h : Below w.heap.size w W) (hb : w.heap.size ≤ b) : Below w.heap.size w ((((((((((W.setCell ⟨b, 0, none⟩ (.string c.ic)).setCell ⟨b, 1, none⟩ (.int .i64 c.ii)).setCell ⟨b, 2, none⟩ (.string c.oc)).setCell ⟨b, 3, none⟩ (.int .i64 c.oi)).setCell ⟨b, 4, none⟩ (.int .i64 c.ia)).setCell ⟨b, 5, none⟩ (.int .i64 c.oa)).setCell ⟨b, 6, none⟩ (.int .i64 c.ie)).setCell ⟨b, 7, none⟩ (.int .i64 c.oe)).setCell ⟨b, 8, none⟩ (.string c.hash)).setCell ⟨b, 9, none⟩ (.string c.sh)) := by
  have h0 := (h).setCell (p := ⟨b, 0, none⟩) hb (.string c.ic)
  have h1 := (h0).setCell (p := ⟨b, 1, none⟩) hb (.int .i64 c.ii)
  have h2 := (h1).setCell (p := ⟨b, 2, none⟩) hb (.string c.oc)
  have h3 := (h2).setCell (p := ⟨b, 3, none⟩) hb (.int .i64 c.oi)
  have h4 := (h3).setCell (p := ⟨b, 4, none⟩) hb (.int .i64 c.ia)
  have h5 := (h4).setCell (p := ⟨b, 5, none⟩) hb (.int .i64 c.oa)
  have h6 := (h5).setCell (p := ⟨b, 6, none⟩) hb (.int .i64 c.ie)
  have h7 := (h6).setCell (p := ⟨b, 7, none⟩) hb (.int .i64 c.oe)
  have h8 := (h7).setCell (p := ⟨b, 8, none⟩) hb (.string c.hash)
  have h9 := (h8).setCell (p := ⟨b, 9, none⟩) hb (.string c.sh)
  exact h9
theorem keep2 {w W : World} {p p' : Addr} {v v' : Value} (hb : Below w.heap.size w W) (h0 : w.cell? p = some v) (h1 : w.cell? p' = some v') : Below w.heap.size w W ∧ W.cell? p = some v ∧ W.cell? p' = some v' := ⟨hb, cell_later hb h0, cell_later hb h1⟩
end Go.Proofs.Ytjdbnaedlljfhaa
