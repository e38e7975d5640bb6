/- The digest: arguments opened, the table. -/
import Derived.Test.YtkhbkckcgfddlaaDoorCards
import Derived.Test.YtkhbkckcgfddlaaDoorTie
import Derived.Test.YtkhbkckcgfddlaaDoorL
import Derived.WalkKit
import Derived.ProofKit
import Derived.OpenShut
import Derived.ShutString
import Derived.Carry
import Derived.Deep.DeepHandedRow
import Derived.Deep.Matrix
import Derived.Lib.LaidTab
namespace Go.Proofs.YtkhbkckcgfddlaaDoor
open Go.ChangeShapes Go.WideShapes Go.ChangeAt Go.RowKit
theorem own : ownKnob Tryd.prog.godebug = none := by kernel_rfl
theorem laidOut : laidOutB Tryd.prog = true := by kernel_rfl
theorem gTab : Tryd.prog.globalNamed "sluiceway/digest.table" = some 0 := by kernel_rfl
theorem gTabType : (Tryd.prog.globals[0]?).map (·.type) = some 51 := by kernel_rfl
theorem cells51 : Tryd.prog.cellsOf 51 = 64 := by kernel_rfl
theorem cells34 : Tryd.prog.cellsOf 34 = 1 := by kernel_rfl
def tabI : List Int := tableK.map fun x => (x.toNat : Int)
theorem laid_tab {H : Type} : (Rows.laid_sluiceway_digest_table : DataW H) = Lib.tabData .u32 tabI := rfl
theorem tab_of_laid {W : World} (h : laidMetH Tryd.prog [("sluiceway/digest.table", Rows.laid_sluiceway_digest_table)] W) : TabAt W := by
  have ht : Lib.TabIs Tryd.prog W "sluiceway/digest.table" .u32 tabI := Lib.tabIs_of_head (rest := []) gTab gTabType Tryd.underlying51 Tryd.underlying34 cells34 cells51 h
  intro i k hk
  have hi : i < tabI.length := by unfold tabI; rw [List.length_map]; exact (List.getElem?_eq_some_iff.1 hk).1
  have := ht.cell gTab i hi
  rw [this]
  unfold tabI
  rw [List.getD_eq_getElem?_getD, List.getElem?_map, hk]
  rfl
theorem wf_u8 {a : Int} (h : (Lit.int .u8 a).wf = true) : 0 ≤ a ∧ a < 256 := by
  simp [Lit.wf] at h
  have e1 : IntKind.u8.min = 0 := rfl
  have e2 : IntKind.u8.max = 255 := rfl
  omega
theorem open_bytes {H : Type} {enc : TypeId × Value → H} {W : World} {base : Nat} {v : Value} {d : DataW H} {p : List MemPlace} (hval : Value.okWide Tryd.prog W .any base 22 v) (h : DataW.Trod enc Tryd.prog W 0 (fun _ => true) true 22 v d p) :
    ∃ (a : Option Addr) (n cp : Nat) (l : List UInt8), v = .slice a n cp ∧ l.length = n ∧ n ≤ cp ∧ cp ≤ maxLen ∧ BytesAt W a (l.map (·.toNat)) := by
  obtain ⟨a1, len, cap, rfl⟩ := okWide_slice Tryd.underlying22 hval
  obtain ⟨fuel, hf⟩ := h
  have hc5 : Tryd.prog.cellsOf 5 = 1 := by kernel_rfl
  rcases open_ints Tryd.underlying22 Tryd.underlying5 hc5 hf with ⟨hcs, hx⟩ | ⟨a, len', cap', zs, hcs, _, hl, hm, hz, hx, hcell, hwz⟩
  · simp [Value.cells] at hcs
    obtain ⟨rfl, rfl, rfl⟩ := hcs
    exact ⟨none, 0, 0, [], rfl, rfl, Nat.le_refl _, Nat.zero_le _, .inl rfl⟩
  · simp [Value.cells] at hcs
    obtain ⟨rfl, rfl, rfl⟩ := hcs
    simp only [if_true] at hz
    have hlen : ((zs.take len).map fun z => UInt8.ofNat z.toNat).length = len := by simp; omega
    refine ⟨some a, len, cap, (zs.take len).map fun z => UInt8.ofNat z.toNat, rfl, hlen, by omega, hm, ?_⟩
    by_cases h0 : len = 0
    · left; subst h0; simp
    · obtain ⟨b, off, spot⟩ := a
      have hspot : spot = none := by simpa [Addr.add] using World.cell?_spot (hcell 0 (by omega))
      subst hspot
      refine .inr ⟨b, off, rfl, fun k c hk => ?_⟩
      rw [List.map_map, List.getElem?_map, List.getElem?_take] at hk
      split at hk
      · rename_i hkl
        have hkz : k < zs.length := by omega
        have hcell' := hcell k hkz
        rw [Addr.add_lit] at hcell'
        rw [List.getElem?_eq_getElem hkz] at hk
        simp only [Option.map_some, Option.some.injEq] at hk
        have hw := wf_u8 (hwz _ (List.getElem_mem hkz))
        rw [hcell', List.getD_eq_getElem?_getD, List.getElem?_eq_getElem hkz]
        subst hk
        simp only [Option.getD_some, B, Function.comp, UInt8.toNat_ofNat']
        congr 2
        omega
      · cases hk
/-- a world for the witness: the settled one, the table laid -/
noncomputable def laidWorld (os : Os) : World :=
  { World.holding Tryd.prog os ⟨#[], #[], []⟩ with heap := (World.holding Tryd.prog os ⟨#[], #[], []⟩).heap.modify 0 fun
      | .cells _ t frozen => .cells (tabI.map fun z => Value.int .u32 z).toArray t frozen
      | o => o }
end Go.Proofs.YtkhbkckcgfddlaaDoor
