/- TlvBack, walked. -/
import Derived.Calls
import Derived.WalkKit
import Derived.WalkSpells
import Derived.WalkLawsBesides
import Derived.Handy
import Derived.Lib.Hide
import Derived.Deep.AppendLies
import Derived.Deep.LoopGhost
import Derived.Outline
import Derived.Laws.BitsAllLaws
import Derived.Laws.BitsLemmas
import Derived.Lib.AppendZeros
import Derived.Lib.AppendZerosOnto
import Derived.Maps.AppendAt
import Derived.Laws.Append
import Derived.Laws.AppendOwn
import Derived.Deep.QuietTactic
import Derived.BigQuiet
import Derived.Deep.RegionHeld3
import Derived.Lib.ConvBytes
import Derived.Laws.BytesArg
import Derived.Test.YtakfhoodjcfpcaaDoorRows
import Derived.Test.YtakfhoodjcfpcaaDoorPl
import Derived.Test.YtakfhoodjcfpcaaDoorTlA
import Derived.Test.YtakfhoodjcfpcaaDoorTlD
import Derived.Test.YtakfhoodjcfpcaaDoorTlF
import Derived.Test.YtakfhoodjcfpcaaDoorTlH
import Derived.Test.YtakfhoodjcfpcaaDoorTlI
namespace Go.Proofs.YtakfhoodjcfpcaaDoor.T
open Go.RowKit Tlv
theorem Byt.cap {w : World} {base n c : Nat} {a : Option Addr} {l : List UInt8} (h : Byt w base (.slice a n c) l) : n ≤ c ∧ c ≤ maxLen ∧ n = l.length ∧ (a = none → c = 0) := by
  rcases h.2 with ⟨h0, hl⟩ | ⟨g, cap, cur, hv, hg, hh, hc, hm, hs, ht⟩
  · cases h0; exact ⟨Nat.le_refl _, by decide, hl.symm, fun _ => rfl⟩
  · cases hv; exact ⟨hc, hm, rfl, fun e => by cases e⟩
theorem OwnRecs.recs {w : World} {base : Nat} {v : Value} {L : List Rec} (h : OwnRecs w base v L) : ∃ a c, v = .slice a L.length c ∧ Recs w a L ∧ L.length ≤ maxLen := by
  obtain ⟨bs, h1, h2, h3⟩ := h
  rcases h2.2 with ⟨h0, hl⟩ | ⟨g, cap, cur, hv, hg, hh, hc, hm, hs, ht⟩
  · have : L = [] := List.eq_nil_of_length_eq_zero hl
    subst this
    exact ⟨none, 0, h0, .inl rfl, Nat.zero_le _⟩
  · refine ⟨_, _, hv, .inr ⟨g, 0, rfl, fun k r hr => ?_⟩, by omega⟩
    have hk := (List.getElem?_eq_some_iff.1 hr).1
    obtain ⟨x, hx⟩ : ∃ x, bs[k]? = some x := ⟨_, List.getElem?_eq_getElem (by omega)⟩
    have hb := (h3 k r x hr hx).1
    have hcell : ∀ j u, j < L.length * 2 → (recCells L bs)[j]? = some u → w.cell? ⟨g, j, none⟩ = some u := fun j u hj hu => by
      rw [cell_of_row _ _ _ _ _ _ hh]
      have e : (cur.toList.take (L.length * 2))[j]? = (recCells L bs)[j]? := by rw [ht]
      rw [List.getElem?_take, if_pos hj, Array.getElem?_toList, hu] at e
      exact e
    have hr2 := recCells_at L bs k r x hr hx
    rw [Nat.zero_add]
    exact ⟨x.1, x.2, hcell _ _ (by omega) hr2.1, hcell _ _ (by omega) hr2.2, Src.of_byt hb, hb.cap.1, hb.cap.2.1, hb.cap.2.2.2⟩
end Go.Proofs.YtakfhoodjcfpcaaDoor.T
