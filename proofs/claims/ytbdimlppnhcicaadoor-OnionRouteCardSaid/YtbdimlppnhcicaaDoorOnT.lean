/- a row of numbers, opened -/
import Derived.Test.YtbdimlppnhcicaaDoorOnY
import Derived.ProofKit
import Derived.OpenShut
import Derived.ShutString
import Derived.Carry
import Derived.Deep.Slices
import Derived.Deep.Fields
import Derived.ChangeSame
namespace Go.Proofs.YtbdimlppnhcicaaDoor
set_option linter.unusedVariables false
open Go.ChangeShapes Go.WideShapes Go.ChangeAt Go.RowKit Go.Deep
/-! onion: a row of numbers, opened -/
set_option maxRecDepth 100000 in
theorem open_nums {H : Type} {enc : TypeId × Value → H} {W : World} {base : Nat} {v : Value} {d : DataW H} {p : List MemPlace} (hval : Value.okWide Tryd.prog W .any base 49 v) (h : DataW.Trod enc Tryd.prog W 0 (fun _ => true) true 49 v d p) :
    ∃ (a : Option Addr) (cp : Nat) (K : List Nat), v = .slice a K.length cp ∧ NumsAt a K W ∧ K.length ≤ maxLen := by
  obtain ⟨a1, len, cap, rfl⟩ := okWide_slice Tryd.underlying49 hval
  obtain ⟨fuel, hf⟩ := h
  have hc5 : Tryd.prog.cellsOf 121 = 1 := by kernel_rfl
  rcases open_ints Tryd.underlying49 Tryd.underlying121 hc5 hf with ⟨hcs, hx⟩ | ⟨a, len', cap', zs, hcs, _, hl, hm, hz, hx, hcell, hwz⟩
  · simp [Value.cells] at hcs
    obtain ⟨rfl, rfl, rfl⟩ := hcs
    exact ⟨none, 0, [], rfl, .inl rfl, Nat.zero_le _⟩
  · simp [Value.cells] at hcs
    obtain ⟨rfl, rfl, rfl⟩ := hcs
    simp only [if_true] at hz
    have hz0 : ∀ n ∈ zs, 0 ≤ n ∧ n ≤ 4294967295 := fun n hn => by
      have h := hwz n hn
      simp [Lit.wf] at h
      have e1 : IntKind.u32.min = 0 := rfl
      have e2 : IntKind.u32.max = 4294967295 := rfl
      omega
    have hlen : ((zs.take len).map Int.toNat).length = len := by rw [List.length_map, List.length_take]; omega
    refine ⟨some a, cap, (zs.take len).map Int.toNat, by rw [hlen], ?_, by rw [hlen]; omega⟩
    by_cases h0 : len = 0
    · left; subst h0; simp
    · obtain ⟨b, off, spot⟩ := a
      have hspot : spot = none := by simpa [Addr.add] using World.cell?_spot (hcell 0 (by omega))
      subst hspot
      refine .inr ⟨b, off, rfl, fun k x hk => ?_⟩
      rw [List.getElem?_map, List.getElem?_take] at hk
      split at hk
      · have hkz : k < zs.length := by omega
        have hcell' := hcell k hkz
        rw [Addr.add_lit] at hcell'
        rw [List.getElem?_eq_getElem hkz] at hk
        cases hk
        have hb := hz0 _ (List.getElem_mem hkz)
        rw [hcell', List.getD_eq_getElem?_getD, List.getElem?_eq_getElem hkz, Option.getD_some, Int.toNat_of_nonneg hb.1]
        exact ⟨rfl, by omega⟩
      · cases hk
end Go.Proofs.YtbdimlppnhcicaaDoor
