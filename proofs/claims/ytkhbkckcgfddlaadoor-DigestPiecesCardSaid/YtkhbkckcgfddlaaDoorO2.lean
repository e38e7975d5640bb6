/- The digest: pieces opened. -/
import Derived.Test.YtkhbkckcgfddlaaDoorO
import Derived.Test.YtkhbkckcgfddlaaDoorP
import Derived.SizedLaws
namespace Go.Proofs.YtkhbkckcgfddlaaDoor
open Go.ChangeShapes Go.WideShapes Go.ChangeAt Go.RowKit Go.Deep
theorem weightsAll_mem {H : Type} {P : Program} {e : TypeId} : ∀ {l : List (DataW H)} {d : DataW H}, d ∈ l → ∀ n ∈ d.weights P e, n ∈ DataW.weightsAll P e l
  | d' :: r, d, hd, n, hn => by
    simp only [DataW.weightsAll, List.mem_append]
    rcases List.mem_cons.1 hd with rfl | h
    · exact Or.inl hn
    · exact Or.inr (weightsAll_mem h n hn)
theorem sized_inner {H : Type} {P : Program} {ts : List TypeId} {ds : List (DataW H)} (h : (DataW.weightsEach P ts ds).all (· ≤ reachBytes) = true) {j : Nat} {t e q : TypeId} {elems spare e' sp' : List (DataW H)}
    (ht : ts[j]? = some t) (hd : ds[j]? = some (.slice elems spare)) (hu : P.underlying t = some (.slice e)) (hu2 : P.underlying e = some (.slice q)) (hx : DataW.slice e' sp' ∈ elems) : (e'.length + sp'.length) * P.bytesOf q ≤ reachBytes := by
  refine of_decide_eq_true (List.all_eq_true.1 h _ (DataW.weights_mem_each ht hd _ ?_))
  simp only [DataW.weights, hu, List.mem_cons, List.mem_append]
  exact Or.inr (Or.inl (weightsAll_mem hx _ (by simp [DataW.weights, hu2])))
theorem bytes5 : Tryd.prog.bytesOf 5 = 1 := by kernel_rfl
theorem cells22 : Tryd.prog.cellsOf 22 = 1 := by kernel_rfl
theorem cells5' : Tryd.prog.cellsOf 5 = 1 := by kernel_rfl
theorem open_pieces {H : Type} {enc : TypeId × Value → H} {W : World} {base : Nat} {v : Value} {d : DataW H} {p : List MemPlace} {ts : List TypeId} {ds : List (DataW H)} {j : Nat}
    (hsz : (DataW.weightsEach Tryd.prog ts ds).all (· ≤ reachBytes) = true) (htj : ts[j]? = some 28) (hdj : ds[j]? = some d)
    (hval : Value.okWide Tryd.prog W .any base 28 v) (h : DataW.Trod enc Tryd.prog W 0 (fun _ => true) true 28 v d p) :
    ∃ (a : Option Addr) (n cp : Nat) (L : List (List Nat)), v = .slice a n cp ∧ L.length = n ∧ n ≤ maxLen ∧ (∀ p ∈ L, p.length ≤ 140737488351232) ∧ PcsAt W a L := by
  obtain ⟨a1, len, cap, rfl⟩ := okWide_slice Tryd.underlying28 hval
  obtain ⟨fuel, hf⟩ := h
  rcases open_int_rows Tryd.underlying28 Tryd.underlying22 Tryd.underlying5 cells22 cells5' hf with ⟨hcs, hx⟩ | ⟨a, len', cap', A, L, C, Z, hcs, _, hl, hm, hx, hrows⟩
  · simp [Value.cells] at hcs
    obtain ⟨rfl, rfl, rfl⟩ := hcs
    exact ⟨none, 0, 0, [], rfl, rfl, Nat.zero_le _, (fun p hp => by cases hp), .inl rfl⟩
  · simp [Value.cells] at hcs
    obtain ⟨rfl, rfl, rfl⟩ := hcs
    simp only [Prod.mk.injEq] at hx
    refine ⟨some a, len, cap, (List.range len).map fun r => ((Z r).take (L r)).map Int.toNat, rfl, by simp, by omega, ?_, ?_⟩
    · intro q hq
      obtain ⟨r, hr, rfl⟩ := List.mem_map.1 hq
      have hrl := List.mem_range.1 hr
      obtain ⟨_, h1, h2, h3, _, h5, _⟩ := hrows r (by omega)
      rw [List.length_map, List.length_take]
      cases hA : A r with
      | none => have := h5 hA; omega
      | some ar =>
        have hmem : DataW.slice (lits .u8 ((Z r).take (L r))) (lits .u8 ((Z r).drop (L r))) ∈ ((List.range len).map fun r => intRow (H := H) .u8 (A r) (L r) (Z r)) := by
          refine List.mem_map.2 ⟨r, hr, ?_⟩
          unfold intRow; rw [hA]
        rw [hx.1] at hdj
        have := sized_inner hsz htj hdj Tryd.underlying28 Tryd.underlying22 hmem
        rw [bytes5] at this
        have e : reachBytes = 140737488351232 := rfl
        simp [lits] at this
        omega
    · by_cases h0 : len = 0
      · left; subst h0; rfl
      · obtain ⟨b, off, spot⟩ := a
        obtain ⟨c0, _⟩ := hrows 0 (by omega)
        have hspot : spot = none := by simpa [Addr.add] using World.cell?_spot c0
        subst hspot
        refine .inr ⟨b, off, rfl, fun k q hk => ?_⟩
        rw [List.getElem?_map] at hk
        obtain ⟨r, hr, rfl⟩ := Option.map_eq_some_iff.1 hk
        obtain ⟨hkl, rfl⟩ := List.getElem?_eq_some_iff.1 hr
        rw [List.length_range] at hkl
        rw [List.getElem_range]
        obtain ⟨c1, h1, h2, h3, h4, h5, h6⟩ := hrows k (by omega)
        rw [Addr.add_lit] at c1
        have hlen : (((Z k).take (L k)).map Int.toNat).length = L k := by rw [List.length_map, List.length_take]; omega
        refine ⟨A k, C k, by rw [hlen]; exact c1, ?_, by rw [hlen]; exact h1⟩
        by_cases hL : L k = 0
        · left; rw [hL]; rfl
        · cases hA : A k with
          | none => have := h5 hA; omega
          | some ar =>
            obtain ⟨_, hc⟩ := h6 ar hA
            obtain ⟨b', off', spot'⟩ := ar
            have hspot : spot' = none := by simpa [Addr.add] using World.cell?_spot (hc 0 (by omega))
            subst hspot
            refine .inr ⟨b', off', rfl, fun i x hi => ?_⟩
            rw [List.getElem?_map] at hi
            obtain ⟨z, hz, rfl⟩ := Option.map_eq_some_iff.1 hi
            rw [List.getElem?_take] at hz
            split at hz
            · rename_i hil
              have hcc := hc i (by omega)
              rw [Addr.add_lit] at hcc
              rw [hcc, List.getD_eq_getElem?_getD, hz]
              have hw := wf_u8 (h4 z (List.mem_of_getElem? hz))
              simp only [Option.getD_some, B]
              congr 2
              omega
            · cases hz
end Go.Proofs.YtkhbkckcgfddlaaDoor
