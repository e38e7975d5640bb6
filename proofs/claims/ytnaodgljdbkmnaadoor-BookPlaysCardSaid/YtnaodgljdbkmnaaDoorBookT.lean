/- a row of a book's calls, opened -/
import Derived.Test.YtnaodgljdbkmnaaDoorBookJ
import Derived.ProofKit
import Derived.OpenShut
import Derived.ShutString
import Derived.Carry
import Derived.Deep.Slices
import Derived.Deep.Fields
namespace Go.Proofs.YtnaodgljdbkmnaaDoor
set_option linter.unusedVariables false
open Go.ChangeShapes Go.WideShapes Go.ChangeAt Go.RowKit Go.Deep
theorem wf_u8 {a : Int} (h : (Lit.int .u8 a).wf = true) : 0 ≤ a ∧ a < 256 := by
  simp [Lit.wf] at h
  have e1 : IntKind.u8.min = 0 := rfl
  have e2 : IntKind.u8.max = 255 := rfl
  omega
set_option maxRecDepth 100000 in
theorem open_op {H : Type} {enc : TypeId × Value → H} {w : World} {base : Nat} {spare : Nat → Bool} {held : Bool} {n : Nat} {cs : List Value} {x : DataW H × List MemPlace} (hl : cs.length = 7) (h : DataW.trod enc Tryd.prog w base spare held n 50 cs = some x) :
    ∃ o : Opr, cs = o.cells ∧ 0 ≤ o.kind ∧ o.kind < 256 ∧ o.t.size ≤ maxLen ∧ o.s.size ≤ maxLen := by
  have hC2 : Tryd.prog.cellsOf 2 = 1 := by kernel_rfl
  have hC3 : Tryd.prog.cellsOf 3 = 1 := by kernel_rfl
  have hC5 : Tryd.prog.cellsOf 5 = 1 := by kernel_rfl
  have hC9 : Tryd.prog.cellsOf 9 = 1 := by kernel_rfl
  have hC22 : Tryd.prog.cellsOf 22 = 1 := by kernel_rfl
  match cs, hl with
  | [x0, x1, x2, x3, x4, x5, x6], _ =>
    obtain ⟨ys, m, _, _, _, hlen, hg⟩ := DataW.trod_struct Tryd.underlying50 h
    match ys, hlen with
    | [y0, y1, y2, y3, y4, y5, y6], _ =>
      have g0 : DataW.trod enc Tryd.prog w base spare held m 5 (([x0, x1, x2, x3, x4, x5, x6].drop 0).take (Tryd.prog.cellsOf 5)) = some y0 := hg 0 _ rfl
      rw [hC5] at g0
      have g0 : DataW.trod enc Tryd.prog w base spare held m 5 [x0] = some y0 := g0
      obtain ⟨c0, e0, _, w0⟩ := DataW.trod_int Tryd.underlying5 g0
      simp only [List.cons.injEq, and_true] at e0
      have g1 : DataW.trod enc Tryd.prog w base spare held m 22 (([x0, x1, x2, x3, x4, x5, x6].drop 1).take (Tryd.prog.cellsOf 22)) = some y1 := hg 1 _ rfl
      rw [hC22] at g1
      have g1 : DataW.trod enc Tryd.prog w base spare held m 22 [x1] = some y1 := g1
      obtain ⟨c1, e1, _, s1⟩ := DataW.trod_string Tryd.underlying22 g1
      simp only [List.cons.injEq, and_true] at e1
      have g2 : DataW.trod enc Tryd.prog w base spare held m 2 (([x0, x1, x2, x3, x4, x5, x6].drop 2).take (Tryd.prog.cellsOf 2)) = some y2 := hg 2 _ rfl
      rw [hC2] at g2
      have g2 : DataW.trod enc Tryd.prog w base spare held m 2 [x2] = some y2 := g2
      obtain ⟨c2, e2, _, w2⟩ := DataW.trod_int Tryd.underlying2 g2
      simp only [List.cons.injEq, and_true] at e2
      have g3 : DataW.trod enc Tryd.prog w base spare held m 2 (([x0, x1, x2, x3, x4, x5, x6].drop 3).take (Tryd.prog.cellsOf 2)) = some y3 := hg 3 _ rfl
      rw [hC2] at g3
      have g3 : DataW.trod enc Tryd.prog w base spare held m 2 [x3] = some y3 := g3
      obtain ⟨c3, e3, _, w3⟩ := DataW.trod_int Tryd.underlying2 g3
      simp only [List.cons.injEq, and_true] at e3
      have g4 : DataW.trod enc Tryd.prog w base spare held m 2 (([x0, x1, x2, x3, x4, x5, x6].drop 4).take (Tryd.prog.cellsOf 2)) = some y4 := hg 4 _ rfl
      rw [hC2] at g4
      have g4 : DataW.trod enc Tryd.prog w base spare held m 2 [x4] = some y4 := g4
      obtain ⟨c4, e4, _, w4⟩ := DataW.trod_int Tryd.underlying2 g4
      simp only [List.cons.injEq, and_true] at e4
      have g5 : DataW.trod enc Tryd.prog w base spare held m 3 (([x0, x1, x2, x3, x4, x5, x6].drop 5).take (Tryd.prog.cellsOf 3)) = some y5 := hg 5 _ rfl
      rw [hC3] at g5
      have g5 : DataW.trod enc Tryd.prog w base spare held m 3 [x5] = some y5 := g5
      obtain ⟨c5, e5, _, w5⟩ := DataW.trod_int Tryd.underlying3 g5
      simp only [List.cons.injEq, and_true] at e5
      have g6 : DataW.trod enc Tryd.prog w base spare held m 9 (([x0, x1, x2, x3, x4, x5, x6].drop 6).take (Tryd.prog.cellsOf 9)) = some y6 := hg 6 _ rfl
      rw [hC9] at g6
      have g6 : DataW.trod enc Tryd.prog w base spare held m 9 [x6] = some y6 := g6
      obtain ⟨c6, e6, _, s6⟩ := DataW.trod_string Tryd.underlying9 g6
      simp only [List.cons.injEq, and_true] at e6
      subst e0 e1 e2 e3 e4 e5 e6
      have hw := wf_u8 w0
      exact ⟨⟨c0, c1, c2, c3, c4, c5, c6⟩, rfl, hw.1, hw.2, s1, s6⟩
set_option maxRecDepth 100000 in
theorem open_ops {H : Type} {enc : TypeId × Value → H} {W : World} {base : Nat} {v : Value} {d : DataW H} {p : List MemPlace} (hval : Value.okWide Tryd.prog W .any base 45 v) (h : DataW.Trod enc Tryd.prog W 0 (fun _ => true) true 45 v d p) :
    ∃ (a : Option Addr) (cp : Nat) (ops : List Opr), v = .slice a ops.length cp ∧ OpsAt W a ops ∧ ops.length ≤ maxLen := by
  obtain ⟨a1, len, cap, rfl⟩ := okWide_slice Tryd.underlying45 hval
  obtain ⟨fuel, hf⟩ := h
  have hC : Tryd.prog.cellsOf 50 = 7 := by kernel_rfl
  rcases open_slice Tryd.underlying45 hf with ⟨hcs, _⟩ | ⟨a, len', cap', m, n, D, Pl, hcs, hb, hl, hm, hmm, hx, hi⟩
  · simp [Value.cells] at hcs
    obtain ⟨rfl, rfl, rfl⟩ := hcs
    exact ⟨none, 0, [], rfl, .inl rfl, Nat.zero_le _⟩
  · simp [Value.cells] at hcs
    obtain ⟨rfl, rfl, rfl⟩ := hcs
    simp only [if_true] at hmm
    have hrec : ∀ i, i < len → ∃ o : Opr, (∀ j, j < 7 → W.cell? (a.add (i * 7 + j)) = o.cells[j]?) ∧ 0 ≤ o.kind ∧ o.kind < 256 ∧ o.t.size ≤ maxLen ∧ o.s.size ≤ maxLen := fun i hil => by
      obtain ⟨cs', hc, ht'⟩ := hi i (by omega)
      rw [hC] at hc
      obtain ⟨_, hcl, hat⟩ := World.cells?_some hc
      obtain ⟨o, ho, h1⟩ := open_op hcl ht'
      refine ⟨o, fun j hj => ?_, h1⟩
      rw [← ho, ← Go.Deep.add_add]
      exact hat j hj
    obtain ⟨L, hLl, hLi⟩ : ∃ L : List Opr, L.length = len ∧ ∀ (i : Nat) (o : Opr), L[i]? = some o → (∀ j, j < 7 → W.cell? (a.add (i * 7 + j)) = o.cells[j]?) ∧ 0 ≤ o.kind ∧ o.kind < 256 ∧ o.t.size ≤ maxLen ∧ o.s.size ≤ maxLen := by
      refine ⟨List.ofFn (n := len) fun i => (hrec i.1 i.2).choose, by simp, fun i o hio => ?_⟩
      have hil : i < len := by have := (List.getElem?_eq_some_iff.1 hio).1; simpa using this
      rw [List.getElem?_ofFn, dif_pos hil] at hio
      cases hio
      exact (hrec i hil).choose_spec
    subst hLl
    refine ⟨some a, cap, L, rfl, ?_, by omega⟩
    by_cases h0 : L = []
    · exact .inl h0
    · obtain ⟨b, off, spot⟩ := a
      have h0l : 0 < L.length := List.length_pos_iff.2 h0
      have hz := (hLi 0 _ (List.getElem?_eq_getElem h0l)).1 0 (by omega)
      have hspot : spot = none := by simpa [Addr.add] using World.cell?_spot (hz.trans rfl)
      subst hspot
      refine .inr ⟨b, off, rfl, fun k o hk => ?_⟩
      obtain ⟨hcell, h1⟩ := hLi k o hk
      have hc' : ∀ j, j < 7 → W.cell? ⟨b, off + k * 7 + j, none⟩ = o.cells[j]? := fun j hj => by
        have := hcell j hj
        rw [Addr.add_lit, ← Nat.add_assoc] at this
        exact this
      exact ⟨hc', h1⟩
end Go.Proofs.YtnaodgljdbkmnaaDoor
