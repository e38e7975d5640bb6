/- TlvBack, walked. -/
import Derived.Test.YtakfhoodjcfpcaaDoorTlO
namespace Go.Proofs.YtakfhoodjcfpcaaDoor.T
open Go.RowKit Tlv
theorem Byt.cap {w : World} {base n c : Nat} {a : Option Addr} {l : List UInt8} (h : Byt w base (.slice a n c) l) : n ≤ c ∧ c ≤ maxLen ∧ n = l.length ∧ (a = none → c = 0) := by
  rcases h.2 with ⟨h0, hl⟩ | ⟨g, cap, cur, hv, hg, hh, hc, hm, hs, ht⟩
  · cases h0; exact ⟨Nat.le_refl _, by decide, hl.symm, fun _ => rfl⟩
  · cases hv; exact ⟨hc, hm, rfl, fun e => by cases e⟩
theorem OwnRecs.recs {w : World} {base : Nat} {v : Value} {L : List Rec} (h : OwnRecs w base v L) : ∃ a c, v = .slice a L.length c ∧ Recs w a L ∧ L.length ≤ maxLen := by
  obtain ⟨bs, h1, h2, h3⟩ := h
  rcases h2.2 with ⟨h0, hl⟩ | ⟨g, cap, cur, hv, hg, hh, hc, hm, hs, ht⟩
  · have : L = [] := List.eq_nil_of_length_eq_zero hl
    subst this
    exact ⟨none, 0, h0, .inl rfl, Nat.zero_le _⟩
  · refine ⟨_, _, hv, .inr ⟨g, 0, rfl, fun k r hr => ?_⟩, by omega⟩
    have hk := (List.getElem?_eq_some_iff.1 hr).1
    obtain ⟨x, hx⟩ : ∃ x, bs[k]? = some x := ⟨_, List.getElem?_eq_getElem (by omega)⟩
    have hb := (h3 k r x hr hx).1
    have hcell : ∀ j u, j < L.length * 2 → (recCells L bs)[j]? = some u → w.cell? ⟨g, j, none⟩ = some u := fun j u hj hu => by
      rw [cell_of_row _ _ _ _ _ _ hh]
      have e : (cur.toList.take (L.length * 2))[j]? = (recCells L bs)[j]? := by rw [ht]
      rw [List.getElem?_take, if_pos hj, Array.getElem?_toList, hu] at e
      exact e
    have hr2 := recCells_at L bs k r x hr hx
    rw [Nat.zero_add]
    exact ⟨x.1, x.2, hcell _ _ (by omega) hr2.1, hcell _ _ (by omega) hr2.2, Src.of_byt hb, hb.cap.1, hb.cap.2.1, hb.cap.2.2.2⟩
theorem stream_ad (a : Option Addr) (cp n : Nat) (L : List Rec) (hn : L.length = n) (w : World) (hm : L.length ≤ maxLen) (hr : Recs w a L) (ht : ∀ r ∈ L, r.t < 18446744073709551616) (hbd : ∀ r ∈ L, r.body.length ≤ 140737488355328) (B : List UInt8) (E nb : Nat) (hS : streamN L = (B, E)) (hb : B.length = nb) :
    Calls Tryd.prog 27 #[.slice a n cp] w fun e w' => ∃ va vc, e = .returned (.tuple #[.slice va nb vc, .int .i64 (E : Int)]) ∧ Src w' va B ∧ nb ≤ vc ∧ vc ≤ maxLen ∧ (va = none → vc = 0) ∧ Below w.heap.size w w' := by
  subst hn hb
  refine (stream_any a cp L w hm hr ht hbd).mono ?_
  rintro e w' ⟨v, rfl, h1, h2⟩
  rw [hS] at h1 ⊢
  obtain ⟨va, vc, rfl⟩ := own_slice h1
  exact ⟨va, vc, rfl, Src.of_byt h1, h1.cap.1, h1.cap.2.1, h1.cap.2.2.2, h2⟩
theorem records_ad (a : Option Addr) (cp n : Nat) (l : List UInt8) (hn : l.length = n) (w : World) (hc : n ≤ cp) (hm : cp ≤ maxLen) (hs : Src w a l) (h0 : a = none → cp = 0) (M : List Rec) (F nm : Nat) (hR : recordsN l = (M, F)) (hM : M.length = nm) :
    Calls Tryd.prog 37 #[.slice a n cp] w fun e w' => ∃ ma mc, e = .returned (.tuple #[.slice ma nm mc, .int .i64 (F : Int)]) ∧ Recs w' ma M ∧ Below w.heap.size w w' := by
  subst hn hM
  refine (records_any a cp l w hc hm hs h0).mono ?_
  rintro e w' ⟨v, rfl, h1, h2⟩
  rw [hR] at h1 ⊢
  obtain ⟨ma, mc, rfl, h3, _⟩ := h1.recs
  exact ⟨ma, mc, rfl, h3, h2⟩
theorem records_small {l : List UInt8} {M : List Rec} (h : streamN M = (l, 0)) : ∀ r ∈ M, r.body.length ≤ 140737488355328 := fun r hr => by
  have h1 := body_le hr
  have h2 := (encAll_len M).1
  unfold streamN at h
  split at h
  · simp at h
  · split at h
    · simp at h
    · split at h
      · simp at h
      · omega
end Go.Proofs.YtakfhoodjcfpcaaDoor.T
