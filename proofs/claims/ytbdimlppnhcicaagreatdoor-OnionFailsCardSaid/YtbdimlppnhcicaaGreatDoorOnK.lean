/- the document's layer, walked -/
import Derived.Test.YtbdimlppnhcicaaGreatDoorOnJ
namespace Go.Proofs.YtbdimlppnhcicaaGreatDoor
set_option linter.unusedVariables false
open Go.RowKit
/-! onion: a layer read, the document's -/
theorem seven_all {w : World} {b : Nat} {a0 a1 a2 a3 a4 a5 a6 : Value} {t : TypeId} {f : Nat × Nat} (h : w.heap[b]? = some (.cells #[a0, a1, a2, a3, a4, a5, a6] t f)) : w.cell? ⟨b, 0, none⟩ = some a0 ∧ w.cell? ⟨b, 1, none⟩ = some a1 ∧ w.cell? ⟨b, 2, none⟩ = some a2 ∧ w.cell? ⟨b, 3, none⟩ = some a3 ∧ w.cell? ⟨b, 4, none⟩ = some a4 ∧ w.cell? ⟨b, 5, none⟩ = some a5 ∧ w.cell? ⟨b, 6, none⟩ = some a6 := by
  simp [World.cell?, h]
theorem seven_put {w0 w : World} {B b : Nat} {a0 a1 a2 a3 a4 a5 a6 : Value} {t : TypeId} (hb : Below B w0 w) (hB : B ≤ b) (h : w.heap[b]? = some (.cells #[a0, a1, a2, a3, a4, a5, a6] t (0, 0))) (v0 v1 v2 v3 v4 v5 v6 : Value) : Below B w0 (((((((w.setCell ⟨b, 0, none⟩ v0).setCell ⟨b, 1, none⟩ v1).setCell ⟨b, 2, none⟩ v2).setCell ⟨b, 3, none⟩ v3).setCell ⟨b, 4, none⟩ v4).setCell ⟨b, 5, none⟩ v5).setCell ⟨b, 6, none⟩ v6).drew ∧ (((((((w.setCell ⟨b, 0, none⟩ v0).setCell ⟨b, 1, none⟩ v1).setCell ⟨b, 2, none⟩ v2).setCell ⟨b, 3, none⟩ v3).setCell ⟨b, 4, none⟩ v4).setCell ⟨b, 5, none⟩ v5).setCell ⟨b, 6, none⟩ v6).drew.heap[b]? = some (.cells #[v0, v1, v2, v3, v4, v5, v6] t (0, 0)) := by
  refine ⟨(((((((hb.setCell (p := ⟨b, 0, none⟩) hB v0).setCell (p := ⟨b, 1, none⟩) hB v1).setCell (p := ⟨b, 2, none⟩) hB v2).setCell (p := ⟨b, 3, none⟩) hB v3).setCell (p := ⟨b, 4, none⟩) hB v4).setCell (p := ⟨b, 5, none⟩) hB v5).setCell (p := ⟨b, 6, none⟩) hB v6).drew, ?_⟩
  have h0 : (w.setCell ⟨b, 0, none⟩ v0).heap[b]? = some (.cells #[v0, a1, a2, a3, a4, a5, a6] t (0, 0)) := heap_setCell_same w b 0 _ t v0 h
  generalize w.setCell ⟨b, 0, none⟩ v0 = w2 at h0 ⊢
  have h1 : (w2.setCell ⟨b, 1, none⟩ v1).heap[b]? = some (.cells #[v0, v1, a2, a3, a4, a5, a6] t (0, 0)) := heap_setCell_same w2 b 1 _ t v1 h0
  generalize w2.setCell ⟨b, 1, none⟩ v1 = w3 at h1 ⊢
  have h2 : (w3.setCell ⟨b, 2, none⟩ v2).heap[b]? = some (.cells #[v0, v1, v2, a3, a4, a5, a6] t (0, 0)) := heap_setCell_same w3 b 2 _ t v2 h1
  generalize w3.setCell ⟨b, 2, none⟩ v2 = w4 at h2 ⊢
  have h3 : (w4.setCell ⟨b, 3, none⟩ v3).heap[b]? = some (.cells #[v0, v1, v2, v3, a4, a5, a6] t (0, 0)) := heap_setCell_same w4 b 3 _ t v3 h2
  generalize w4.setCell ⟨b, 3, none⟩ v3 = w5 at h3 ⊢
  have h4 : (w5.setCell ⟨b, 4, none⟩ v4).heap[b]? = some (.cells #[v0, v1, v2, v3, v4, a5, a6] t (0, 0)) := heap_setCell_same w5 b 4 _ t v4 h3
  generalize w5.setCell ⟨b, 4, none⟩ v4 = w6 at h4 ⊢
  have h5 : (w6.setCell ⟨b, 5, none⟩ v5).heap[b]? = some (.cells #[v0, v1, v2, v3, v4, v5, a6] t (0, 0)) := heap_setCell_same w6 b 5 _ t v5 h4
  generalize w6.setCell ⟨b, 5, none⟩ v5 = w7 at h5 ⊢
  have h6 : (w7.setCell ⟨b, 6, none⟩ v6).heap[b]? = some (.cells #[v0, v1, v2, v3, v4, v5, v6] t (0, 0)) := heap_setCell_same w7 b 6 _ t v6 h5
  exact h6
end Go.Proofs.YtbdimlppnhcicaaGreatDoor
