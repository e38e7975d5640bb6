/- The frame's parts, further: numbers' rows opened. -/
import Derived.Test.YtcdeggocnaodiaaOpen
import Derived.Test.YtcdeggocnaodiaaU
namespace Go.Proofs.Ytcdeggocnaodiaa
open Go.ChangeShapes Go.WideShapes Go.ChangeAt Go.RowKit Go.Deep Tlv
theorem open_nums {H : Type} {enc : TypeId × Value → H} {W : World} {base : Nat} {v : Value} {d : DataW H} {p : List MemPlace} (hval : Value.okWide Try.prog W .any base 42 v) (h : DataW.Trod enc Try.prog W 0 (fun _ => true) true 42 v d p) :
    ∃ (a : Option Addr) (cp : Nat) (K : List Int), v = .slice a K.length cp ∧ Nums W a K ∧ K.length ≤ maxLen := by
  obtain ⟨a1, len, cap, rfl⟩ := okWide_slice Try.underlying42 hval
  obtain ⟨fuel, hf⟩ := h
  have hc5 : Try.prog.cellsOf 22 = 1 := by kernel_rfl
  rcases open_ints Try.underlying42 Try.underlying22 hc5 hf with ⟨hcs, hx⟩ | ⟨a, len', cap', zs, hcs, _, hl, hm, hz, hx, hcell, hwz⟩
  · simp [Value.cells] at hcs
    obtain ⟨rfl, rfl, rfl⟩ := hcs
    exact ⟨none, 0, [], rfl, .inl rfl, Nat.zero_le _⟩
  · simp [Value.cells] at hcs
    obtain ⟨rfl, rfl, rfl⟩ := hcs
    simp only [if_true] at hz
    have hlen : (zs.take len).length = len := by simp; omega
    refine ⟨some a, cap, zs.take len, by rw [hlen], ?_, by rw [hlen]; omega⟩
    by_cases h0 : len = 0
    · left; subst h0; simp
    · obtain ⟨b, off, spot⟩ := a
      have hspot : spot = none := by simpa [Addr.add] using World.cell?_spot (hcell 0 (by omega))
      subst hspot
      refine .inr ⟨b, off, rfl, fun k x hk => ?_⟩
      rw [List.getElem?_take] at hk
      split at hk
      · have hkz : k < zs.length := by omega
        have hcell' := hcell k hkz
        rw [Addr.add_lit] at hcell'
        rw [List.getElem?_eq_getElem hkz] at hk
        cases hk
        rw [hcell', List.getD_eq_getElem?_getD, List.getElem?_eq_getElem hkz]
        rfl
      · cases hk
end Go.Proofs.Ytcdeggocnaodiaa
