/- a row of hops, opened -/
import Derived.Test.YtbdimlppnhcicaaDoorOnE
import Derived.ProofKit
import Derived.OpenShut
import Derived.ShutString
import Derived.Carry
import Derived.Deep.Slices
import Derived.Deep.Fields
namespace Go.Proofs.YtbdimlppnhcicaaDoor
set_option linter.unusedVariables false
open Go.ChangeShapes Go.WideShapes Go.ChangeAt Go.RowKit Go.Deep
/-! onion: a row of hops, opened -/
set_option maxRecDepth 100000 in
theorem open_hop {H : Type} {enc : TypeId × Value → H} {w : World} {base : Nat} {spare : Nat → Bool} {held : Bool} {n : Nat} {cs : List Value} {x : DataW H × List MemPlace} (hl : cs.length = 4) (h : DataW.trod enc Tryd.prog w base spare held n 33 cs = some x) :
    ∃ o : Hp, cs = o.cells ∧ o.chan.size ≤ maxLen ∧ o.node.size ≤ maxLen ∧ x.1.weights Tryd.prog 33 = [o.chan.size, o.node.size] := by
  have hC2 : Tryd.prog.cellsOf 2 = 1 := by kernel_rfl
  have hC3 : Tryd.prog.cellsOf 3 = 1 := by kernel_rfl
  have hC9 : Tryd.prog.cellsOf 9 = 1 := by kernel_rfl
  have hC24 : Tryd.prog.cellsOf 24 = 1 := by kernel_rfl
  match cs, hl with
  | [x0, x1, x2, x3], _ =>
    obtain ⟨ys, m, _, hx, _, hlen, hg⟩ := DataW.trod_struct Tryd.underlying33 h
    match ys, hlen with
    | [y0, y1, y2, y3], _ =>
      have g0 : DataW.trod enc Tryd.prog w base spare held m 9 (([x0, x1, x2, x3].drop 0).take (Tryd.prog.cellsOf 9)) = some y0 := hg 0 _ rfl
      rw [hC9] at g0
      have g0 : DataW.trod enc Tryd.prog w base spare held m 9 [x0] = some y0 := g0
      obtain ⟨c0, e0, z0, s0⟩ := DataW.trod_string Tryd.underlying9 g0
      simp only [List.cons.injEq, and_true] at e0
      have g1 : DataW.trod enc Tryd.prog w base spare held m 24 (([x0, x1, x2, x3].drop 1).take (Tryd.prog.cellsOf 24)) = some y1 := hg 1 _ rfl
      rw [hC24] at g1
      have g1 : DataW.trod enc Tryd.prog w base spare held m 24 [x1] = some y1 := g1
      obtain ⟨c1, e1, z1, s1⟩ := DataW.trod_string Tryd.underlying24 g1
      simp only [List.cons.injEq, and_true] at e1
      have g2 : DataW.trod enc Tryd.prog w base spare held m 2 (([x0, x1, x2, x3].drop 2).take (Tryd.prog.cellsOf 2)) = some y2 := hg 2 _ rfl
      rw [hC2] at g2
      have g2 : DataW.trod enc Tryd.prog w base spare held m 2 [x2] = some y2 := g2
      obtain ⟨c2, e2, z2, s2⟩ := DataW.trod_int Tryd.underlying2 g2
      simp only [List.cons.injEq, and_true] at e2
      have g3 : DataW.trod enc Tryd.prog w base spare held m 3 (([x0, x1, x2, x3].drop 3).take (Tryd.prog.cellsOf 3)) = some y3 := hg 3 _ rfl
      rw [hC3] at g3
      have g3 : DataW.trod enc Tryd.prog w base spare held m 3 [x3] = some y3 := g3
      obtain ⟨c3, e3, z3, s3⟩ := DataW.trod_int Tryd.underlying3 g3
      simp only [List.cons.injEq, and_true] at e3
      subst e0 e1 e2 e3
      refine ⟨⟨c0, c1, c2, c3⟩, rfl, s0, s1, ?_⟩
      subst z0 z1
      rw [hx]
      have hw2 : y2.1.weights Tryd.prog 2 = [] := by rw [z2]; rfl
      have hw3 : y3.1.weights Tryd.prog 3 = [] := by rw [z3]; rfl
      simp [DataW.weights, DataW.weightsEach, Tryd.underlying33, hw2, hw3]
theorem weightsAll_mem' {H : Type} {P : Program} {e : TypeId} : ∀ {l : List (DataW H)} {d : DataW H}, d ∈ l → ∀ n ∈ d.weights P e, n ∈ DataW.weightsAll P e l
  | d' :: r, d, hd, n, hn => by
    simp only [DataW.weightsAll, List.mem_append]
    rcases List.mem_cons.1 hd with rfl | h
    · exact Or.inl hn
    · exact Or.inr (weightsAll_mem' h n hn)
set_option maxRecDepth 100000 in
theorem open_hops {H : Type} {enc : TypeId × Value → H} {W : World} {base : Nat} {v : Value} {d : DataW H} {p : List MemPlace} (hw : ∀ n ∈ d.weights Tryd.prog 23, n ≤ 140737488351232) (hval : Value.okWide Tryd.prog W .any base 23 v) (h : DataW.Trod enc Tryd.prog W 0 (fun _ => true) true 23 v d p) :
    ∃ (a : Option Addr) (cp : Nat) (ops : List Hp), v = .slice a ops.length cp ∧ HopsAt a ops W ∧ ops.length ≤ maxLen ∧ ∀ o ∈ ops, o.chan.size ≤ 140737488351232 ∧ o.node.size ≤ 140737488351232 := by
  obtain ⟨a1, len, cap, rfl⟩ := okWide_slice Tryd.underlying23 hval
  obtain ⟨fuel, hf⟩ := h
  have hC : Tryd.prog.cellsOf 33 = 4 := by kernel_rfl
  rcases open_slice Tryd.underlying23 hf with ⟨hcs, _⟩ | ⟨a, len', cap', m, n, D, Pl, hcs, hb, hl, hm, hmm, hx, hi⟩
  · simp [Value.cells] at hcs
    obtain ⟨rfl, rfl, rfl⟩ := hcs
    exact ⟨none, 0, [], rfl, .inl rfl, Nat.zero_le _, fun o ho => by cases ho⟩
  · simp [Value.cells] at hcs
    obtain ⟨rfl, rfl, rfl⟩ := hcs
    simp only [if_true] at hmm
    simp only [Prod.mk.injEq] at hx
    rw [hx.1] at hw
    have hrec : ∀ i, i < len → ∃ o : Hp, (∀ j, j < 4 → W.cell? (a.add (i * 4 + j)) = o.cells[j]?) ∧ (o.chan.size ≤ maxLen ∧ o.node.size ≤ maxLen) ∧ o.chan.size ≤ 140737488351232 ∧ o.node.size ≤ 140737488351232 := fun i hil => by
      obtain ⟨cs', hc, ht'⟩ := hi i (by omega)
      rw [hC] at hc
      obtain ⟨_, hcl, hat⟩ := World.cells?_some hc
      obtain ⟨o, ho, h1, h2, h3⟩ := open_hop hcl ht'
      have hmem : ∀ n ∈ (D i).weights Tryd.prog 33, n ≤ 140737488351232 := fun n hn => hw n (by
        simp only [DataW.weights, Tryd.underlying23, List.mem_cons, List.mem_append]
        exact Or.inr (Or.inl (weightsAll_mem' (List.mem_map.2 ⟨i, List.mem_range.2 hil, rfl⟩) n hn)))
      have h3 : (D i).weights Tryd.prog 33 = [o.chan.size, o.node.size] := h3
      rw [h3] at hmem
      refine ⟨o, fun j hj => ?_, ⟨h1, h2⟩, hmem _ (by simp), hmem _ (by simp)⟩
      rw [← ho, ← Go.Deep.add_add]
      exact hat j hj
    obtain ⟨L, hLl, hLi⟩ : ∃ L : List Hp, L.length = len ∧ ∀ (i : Nat) (o : Hp), L[i]? = some o → (∀ j, j < 4 → W.cell? (a.add (i * 4 + j)) = o.cells[j]?) ∧ (o.chan.size ≤ maxLen ∧ o.node.size ≤ maxLen) ∧ o.chan.size ≤ 140737488351232 ∧ o.node.size ≤ 140737488351232 := by
      refine ⟨List.ofFn (n := len) fun i => (hrec i.1 i.2).choose, by simp, fun i o hio => ?_⟩
      have hil : i < len := by have := (List.getElem?_eq_some_iff.1 hio).1; simpa using this
      rw [List.getElem?_ofFn, dif_pos hil] at hio
      cases hio
      exact (hrec i hil).choose_spec
    subst hLl
    refine ⟨some a, cap, L, rfl, ?_, by omega, fun o ho => by
      obtain ⟨i, hio⟩ := List.getElem?_of_mem ho
      exact (hLi i o hio).2.2⟩
    by_cases h0 : L = []
    · exact .inl h0
    · obtain ⟨b, off, spot⟩ := a
      have h0l : 0 < L.length := List.length_pos_iff.2 h0
      have hz := (hLi 0 _ (List.getElem?_eq_getElem h0l)).1 0 (by omega)
      have hspot : spot = none := by simpa [Addr.add] using World.cell?_spot (hz.trans rfl)
      subst hspot
      refine .inr ⟨b, off, rfl, fun k o hk => ?_⟩
      obtain ⟨hcell, h1, _⟩ := hLi k o hk
      have hc' : ∀ j, j < 4 → W.cell? ⟨b, off + k * 4 + j, none⟩ = o.cells[j]? := fun j hj => by
        have := hcell j hj
        rw [Addr.add_lit, ← Nat.add_assoc] at this
        exact this
      refine ⟨fun j v hj => ?_, h1⟩
      have hj4 : j < 4 := by
        have := (List.getElem?_eq_some_iff.1 hj).1
        simpa [Hp.cells] using this
      exact (hc' j hj4).trans hj
end Go.Proofs.YtbdimlppnhcicaaDoor
