/- seed: a row of steps, opened. -/
import Derived.Test.YtnaodgljdbkmnaaDoorSeedL
import Derived.ProofKit
import Derived.OpenShut
import Derived.ShutString
import Derived.Carry
import Derived.Deep.Slices
import Derived.Deep.Fields
import Derived.ChangeSame
namespace Go.Proofs.YtnaodgljdbkmnaaDoor
set_option linter.unusedVariables false
open Go.ChangeShapes Go.WideShapes Go.ChangeAt Go.RowKit Go.Deep
set_option maxRecDepth 100000 in
theorem open_step {H : Type} {enc : TypeId × Value → H} {w : World} {base : Nat} {spare : Nat → Bool} {held : Bool} {n : Nat} {cs : List Value} {x : DataW H × List MemPlace} (hl : cs.length = 3) (h : DataW.trod enc Tryd.prog w base spare held n 42 cs = some x) :
    ∃ o : Stp, cs = [.int .i64 o.kind, .int .i64 o.i, .string o.t] ∧ o.t.size ≤ maxLen := by
  have hC2 : Tryd.prog.cellsOf 2 = 1 := by kernel_rfl
  have hC3 : Tryd.prog.cellsOf 3 = 1 := by kernel_rfl
  have hC22 : Tryd.prog.cellsOf 22 = 1 := by kernel_rfl
  match cs, hl with
  | [x0, x1, x2], _ =>
    obtain ⟨ys, m, _, _, _, hlen, hg⟩ := DataW.trod_struct Tryd.underlying42 h
    match ys, hlen with
    | [y0, y1, y2], _ =>
      have g0 : DataW.trod enc Tryd.prog w base spare held m 3 (([x0, x1, x2].drop 0).take (Tryd.prog.cellsOf 3)) = some y0 := hg 0 _ rfl
      rw [hC3] at g0
      have g0 : DataW.trod enc Tryd.prog w base spare held m 3 [x0] = some y0 := g0
      obtain ⟨kd, ek, _, _⟩ := DataW.trod_int Tryd.underlying3 g0
      simp only [List.cons.injEq, and_true] at ek
      have g1 : DataW.trod enc Tryd.prog w base spare held m 2 (([x0, x1, x2].drop 1).take (Tryd.prog.cellsOf 2)) = some y1 := hg 1 _ rfl
      rw [hC2] at g1
      have g1 : DataW.trod enc Tryd.prog w base spare held m 2 [x1] = some y1 := g1
      obtain ⟨ci, ei, _, _⟩ := DataW.trod_int Tryd.underlying2 g1
      simp only [List.cons.injEq, and_true] at ei
      have g2 : DataW.trod enc Tryd.prog w base spare held m 22 (([x0, x1, x2].drop 2).take (Tryd.prog.cellsOf 22)) = some y2 := hg 2 _ rfl
      rw [hC22] at g2
      have g2 : DataW.trod enc Tryd.prog w base spare held m 22 [x2] = some y2 := g2
      obtain ⟨ct, et, _, s2⟩ := DataW.trod_string Tryd.underlying22 g2
      simp only [List.cons.injEq, and_true] at et
      subst ek ei et
      exact ⟨⟨kd, ci, ct⟩, rfl, s2⟩
set_option maxRecDepth 100000 in
theorem open_steps {H : Type} {enc : TypeId × Value → H} {W : World} {base : Nat} {v : Value} {d : DataW H} {p : List MemPlace} (hval : Value.okWide Tryd.prog W .any base 37 v) (h : DataW.Trod enc Tryd.prog W 0 (fun _ => true) true 37 v d p) :
    ∃ (a : Option Addr) (cp : Nat) (ops : List Stp), v = .slice a ops.length cp ∧ StepsAt W a ops ∧ ops.length ≤ maxLen := by
  obtain ⟨a1, len, cap, rfl⟩ := okWide_slice Tryd.underlying37 hval
  obtain ⟨fuel, hf⟩ := h
  have hC : Tryd.prog.cellsOf 42 = 3 := by kernel_rfl
  rcases open_slice Tryd.underlying37 hf with ⟨hcs, _⟩ | ⟨a, len', cap', m, n, D, Pl, hcs, hb, hl, hm, hmm, hx, hi⟩
  · simp [Value.cells] at hcs
    obtain ⟨rfl, rfl, rfl⟩ := hcs
    exact ⟨none, 0, [], rfl, .inl rfl, Nat.zero_le _⟩
  · simp [Value.cells] at hcs
    obtain ⟨rfl, rfl, rfl⟩ := hcs
    simp only [if_true] at hmm
    have hrec : ∀ i, i < len → ∃ o : Stp, (∀ j, j < 3 → W.cell? (a.add (i * 3 + j)) = [Value.int .i64 o.kind, .int .i64 o.i, .string o.t][j]?) ∧ o.t.size ≤ maxLen := fun i hil => by
      obtain ⟨cs', hc, ht'⟩ := hi i (by omega)
      rw [hC] at hc
      obtain ⟨_, hcl, hat⟩ := World.cells?_some hc
      obtain ⟨o, ho, h1⟩ := open_step hcl ht'
      refine ⟨o, fun j hj => ?_, h1⟩
      rw [← ho, ← Go.Deep.add_add]
      exact hat j hj
    obtain ⟨L, hLl, hLi⟩ : ∃ L : List Stp, L.length = len ∧ ∀ (i : Nat) (o : Stp), L[i]? = some o → (∀ j, j < 3 → W.cell? (a.add (i * 3 + j)) = [Value.int .i64 o.kind, .int .i64 o.i, .string o.t][j]?) ∧ o.t.size ≤ maxLen := by
      refine ⟨List.ofFn (n := len) fun i => (hrec i.1 i.2).choose, by simp, fun i o hio => ?_⟩
      have hil : i < len := by have := (List.getElem?_eq_some_iff.1 hio).1; simpa using this
      rw [List.getElem?_ofFn, dif_pos hil] at hio
      cases hio
      exact (hrec i hil).choose_spec
    subst hLl
    refine ⟨some a, cap, L, rfl, ?_, by omega⟩
    by_cases h0 : L = []
    · exact .inl h0
    · obtain ⟨b, off, spot⟩ := a
      have h0l : 0 < L.length := List.length_pos_iff.2 h0
      have hz := (hLi 0 _ (List.getElem?_eq_getElem h0l)).1 0 (by omega)
      have hspot : spot = none := by simpa [Addr.add] using World.cell?_spot (hz.trans rfl)
      subst hspot
      refine .inr ⟨b, off, rfl, fun k o hk => ?_⟩
      obtain ⟨hcell, h1⟩ := hLi k o hk
      have hc' : ∀ j, j < 3 → W.cell? ⟨b, off + k * 3 + j, none⟩ = [Value.int .i64 o.kind, .int .i64 o.i, .string o.t][j]? := fun j hj => by
        have := hcell j hj
        rw [Addr.add_lit, ← Nat.add_assoc] at this
        exact this
      exact ⟨hc' 0 (by omega), hc' 1 (by omega), hc' 2 (by omega), h1⟩
end Go.Proofs.YtnaodgljdbkmnaaDoor
