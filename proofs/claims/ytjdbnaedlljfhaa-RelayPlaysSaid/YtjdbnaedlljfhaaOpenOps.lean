/- A row of the relay's calls, opened. -/
import Derived.Test.YtjdbnaedlljfhaaRows
import Derived.Test.YtjdbnaedlljfhaaOps
import Derived.WalkKit
import Derived.ProofKit
import Derived.OpenShut
import Derived.ShutString
import Derived.Carry
import Derived.Deep.Slices
import Derived.Deep.Fields
import Derived.ChangeSame
namespace Go.Proofs.Ytjdbnaedlljfhaa
open Go.ChangeShapes Go.WideShapes Go.ChangeAt Go.RowKit Go.Deep
theorem wf_u8 {a : Int} (h : (Lit.int .u8 a).wf = true) : 0 ≤ a ∧ a < 256 := by
  simp [Lit.wf] at h
  have e1 : IntKind.u8.min = 0 := rfl
  have e2 : IntKind.u8.max = 255 := rfl
  omega
set_option maxRecDepth 100000 in
theorem open_cal {H : Type} {enc : TypeId × Value → H} {w : World} {base : Nat} {spare : Nat → Bool} {held : Bool} {n : Nat} {cs : List Value} {x : DataW H × List MemPlace} (hl : cs.length = 11) (h : DataW.trod enc Try.prog w base spare held n 46 cs = some x) :
    ∃ o : Cal, cs = .int .u8 o.kind :: o.c.cells ∧ 0 ≤ o.kind ∧ o.kind < 256 ∧ o.c.fits ∧ o.c.hash.size ≤ maxLen ∧ o.c.sh.size ≤ maxLen := by
  have hC44 : Try.prog.cellsOf 44 = 10 := by kernel_rfl
  have hC5 : Try.prog.cellsOf 5 = 1 := by kernel_rfl
  match cs, hl with
  | [x0, x1, x2, x3, x4, x5, x6, x7, x8, x9, x10], _ =>
    obtain ⟨ys, m, _, _, _, hlen, hg⟩ := DataW.trod_struct Try.underlying46 h
    match ys, hlen with
    | [y0, y1], _ =>
      have g0 : DataW.trod enc Try.prog w base spare held m 5 (([x0, x1, x2, x3, x4, x5, x6, x7, x8, x9, x10].drop 0).take (Try.prog.cellsOf 5)) = some y0 := hg 0 _ rfl
      rw [hC5] at g0
      have g0 : DataW.trod enc Try.prog w base spare held m 5 [x0] = some y0 := g0
      obtain ⟨kd, ek, _, hwk⟩ := DataW.trod_int Try.underlying5 g0
      simp only [List.cons.injEq, and_true] at ek
      have g1 : DataW.trod enc Try.prog w base spare held m 44 (([x0, x1, x2, x3, x4, x5, x6, x7, x8, x9, x10].drop 1).take (Try.prog.cellsOf 44)) = some y1 := hg 1 _ rfl
      rw [hC44] at g1
      have g1 : DataW.trod enc Try.prog w base spare held m 44 [x1, x2, x3, x4, x5, x6, x7, x8, x9, x10] = some y1 := g1
      obtain ⟨zs, m', _, _, _, hlen', hg'⟩ := DataW.trod_struct Try.underlying44 g1
      match zs, hlen' with
      | [z0, z1, z2, z3, z4, z5, z6, z7, z8, z9], _ =>
        have c0 : Try.prog.cellsOf 9 = 1 := by kernel_rfl
        have j0 : DataW.trod enc Try.prog w base spare held m' 9 (([x1, x2, x3, x4, x5, x6, x7, x8, x9, x10].drop 0).take (Try.prog.cellsOf 9)) = some z0 := hg' 0 _ rfl
        rw [c0] at j0
        have j0 : DataW.trod enc Try.prog w base spare held m' 9 [x1] = some z0 := j0
        obtain ⟨a0, e0, _, s0⟩ := DataW.trod_string Try.underlying9 j0
        simp only [List.cons.injEq, and_true] at e0
        have c1 : Try.prog.cellsOf 2 = 1 := by kernel_rfl
        have j1 : DataW.trod enc Try.prog w base spare held m' 2 (([x1, x2, x3, x4, x5, x6, x7, x8, x9, x10].drop 1).take (Try.prog.cellsOf 2)) = some z1 := hg' 1 _ rfl
        rw [c1] at j1
        have j1 : DataW.trod enc Try.prog w base spare held m' 2 [x2] = some z1 := j1
        obtain ⟨a1, e1, _, s1⟩ := DataW.trod_int Try.underlying2 j1
        simp only [List.cons.injEq, and_true] at e1
        have c2 : Try.prog.cellsOf 9 = 1 := by kernel_rfl
        have j2 : DataW.trod enc Try.prog w base spare held m' 9 (([x1, x2, x3, x4, x5, x6, x7, x8, x9, x10].drop 2).take (Try.prog.cellsOf 9)) = some z2 := hg' 2 _ rfl
        rw [c2] at j2
        have j2 : DataW.trod enc Try.prog w base spare held m' 9 [x3] = some z2 := j2
        obtain ⟨a2, e2, _, s2⟩ := DataW.trod_string Try.underlying9 j2
        simp only [List.cons.injEq, and_true] at e2
        have c3 : Try.prog.cellsOf 2 = 1 := by kernel_rfl
        have j3 : DataW.trod enc Try.prog w base spare held m' 2 (([x1, x2, x3, x4, x5, x6, x7, x8, x9, x10].drop 3).take (Try.prog.cellsOf 2)) = some z3 := hg' 3 _ rfl
        rw [c3] at j3
        have j3 : DataW.trod enc Try.prog w base spare held m' 2 [x4] = some z3 := j3
        obtain ⟨a3, e3, _, s3⟩ := DataW.trod_int Try.underlying2 j3
        simp only [List.cons.injEq, and_true] at e3
        have c4 : Try.prog.cellsOf 2 = 1 := by kernel_rfl
        have j4 : DataW.trod enc Try.prog w base spare held m' 2 (([x1, x2, x3, x4, x5, x6, x7, x8, x9, x10].drop 4).take (Try.prog.cellsOf 2)) = some z4 := hg' 4 _ rfl
        rw [c4] at j4
        have j4 : DataW.trod enc Try.prog w base spare held m' 2 [x5] = some z4 := j4
        obtain ⟨a4, e4, _, s4⟩ := DataW.trod_int Try.underlying2 j4
        simp only [List.cons.injEq, and_true] at e4
        have c5 : Try.prog.cellsOf 2 = 1 := by kernel_rfl
        have j5 : DataW.trod enc Try.prog w base spare held m' 2 (([x1, x2, x3, x4, x5, x6, x7, x8, x9, x10].drop 5).take (Try.prog.cellsOf 2)) = some z5 := hg' 5 _ rfl
        rw [c5] at j5
        have j5 : DataW.trod enc Try.prog w base spare held m' 2 [x6] = some z5 := j5
        obtain ⟨a5, e5, _, s5⟩ := DataW.trod_int Try.underlying2 j5
        simp only [List.cons.injEq, and_true] at e5
        have c6 : Try.prog.cellsOf 3 = 1 := by kernel_rfl
        have j6 : DataW.trod enc Try.prog w base spare held m' 3 (([x1, x2, x3, x4, x5, x6, x7, x8, x9, x10].drop 6).take (Try.prog.cellsOf 3)) = some z6 := hg' 6 _ rfl
        rw [c6] at j6
        have j6 : DataW.trod enc Try.prog w base spare held m' 3 [x7] = some z6 := j6
        obtain ⟨a6, e6, _, s6⟩ := DataW.trod_int Try.underlying3 j6
        simp only [List.cons.injEq, and_true] at e6
        have c7 : Try.prog.cellsOf 3 = 1 := by kernel_rfl
        have j7 : DataW.trod enc Try.prog w base spare held m' 3 (([x1, x2, x3, x4, x5, x6, x7, x8, x9, x10].drop 7).take (Try.prog.cellsOf 3)) = some z7 := hg' 7 _ rfl
        rw [c7] at j7
        have j7 : DataW.trod enc Try.prog w base spare held m' 3 [x8] = some z7 := j7
        obtain ⟨a7, e7, _, s7⟩ := DataW.trod_int Try.underlying3 j7
        simp only [List.cons.injEq, and_true] at e7
        have c8 : Try.prog.cellsOf 22 = 1 := by kernel_rfl
        have j8 : DataW.trod enc Try.prog w base spare held m' 22 (([x1, x2, x3, x4, x5, x6, x7, x8, x9, x10].drop 8).take (Try.prog.cellsOf 22)) = some z8 := hg' 8 _ rfl
        rw [c8] at j8
        have j8 : DataW.trod enc Try.prog w base spare held m' 22 [x9] = some z8 := j8
        obtain ⟨a8, e8, _, s8⟩ := DataW.trod_string Try.underlying22 j8
        simp only [List.cons.injEq, and_true] at e8
        have c9 : Try.prog.cellsOf 22 = 1 := by kernel_rfl
        have j9 : DataW.trod enc Try.prog w base spare held m' 22 (([x1, x2, x3, x4, x5, x6, x7, x8, x9, x10].drop 9).take (Try.prog.cellsOf 22)) = some z9 := hg' 9 _ rfl
        rw [c9] at j9
        have j9 : DataW.trod enc Try.prog w base spare held m' 22 [x10] = some z9 := j9
        obtain ⟨a9, e9, _, s9⟩ := DataW.trod_string Try.underlying22 j9
        simp only [List.cons.injEq, and_true] at e9
        have hw := wf_u8 hwk
        subst ek e0 e1 e2 e3 e4 e5 e6 e7 e8 e9
        exact ⟨⟨kd, ⟨a0, a1, a2, a3, a4, a5, a6, a7, a8, a9⟩⟩, rfl, hw.1, hw.2, ⟨s0, s2⟩, s8, s9⟩
set_option maxRecDepth 100000 in
theorem open_ops {H : Type} {enc : TypeId × Value → H} {W : World} {base : Nat} {v : Value} {d : DataW H} {p : List MemPlace} (hval : Value.okWide Try.prog W .any base 35 v) (h : DataW.Trod enc Try.prog W 0 (fun _ => true) true 35 v d p) :
    ∃ (a : Option Addr) (cp : Nat) (ops : List Cal), v = .slice a ops.length cp ∧ OpsAt W a ops ∧ ops.length ≤ maxLen := by
  obtain ⟨a1, len, cap, rfl⟩ := okWide_slice Try.underlying35 hval
  obtain ⟨fuel, hf⟩ := h
  have hC : Try.prog.cellsOf 46 = 11 := by kernel_rfl
  rcases open_slice Try.underlying35 hf with ⟨hcs, _⟩ | ⟨a, len', cap', m, n, D, Pl, hcs, hb, hl, hm, hmm, hx, hi⟩
  · simp [Value.cells] at hcs
    obtain ⟨rfl, rfl, rfl⟩ := hcs
    exact ⟨none, 0, [], rfl, .inl rfl, Nat.zero_le _⟩
  · simp [Value.cells] at hcs
    obtain ⟨rfl, rfl, rfl⟩ := hcs
    simp only [if_true] at hmm
    have hrec : ∀ i, i < len → ∃ o : Cal, (∀ j, j < 11 → W.cell? (a.add (i * 11 + j)) = (Value.int .u8 o.kind :: o.c.cells)[j]?) ∧ 0 ≤ o.kind ∧ o.kind < 256 ∧ o.c.fits ∧ o.c.hash.size ≤ maxLen ∧ o.c.sh.size ≤ maxLen := fun i hil => by
      obtain ⟨cs', hc, ht'⟩ := hi i (by omega)
      rw [hC] at hc
      obtain ⟨_, hcl, hat⟩ := World.cells?_some hc
      obtain ⟨o, ho, h1⟩ := open_cal hcl ht'
      refine ⟨o, fun j hj => ?_, h1⟩
      rw [← ho, ← Go.Deep.add_add]
      exact hat j hj
    obtain ⟨L, hLl, hLi⟩ : ∃ L : List Cal, L.length = len ∧ ∀ (i : Nat) (o : Cal), L[i]? = some o → (∀ j, j < 11 → W.cell? (a.add (i * 11 + j)) = (Value.int .u8 o.kind :: o.c.cells)[j]?) ∧ 0 ≤ o.kind ∧ o.kind < 256 ∧ o.c.fits ∧ o.c.hash.size ≤ maxLen ∧ o.c.sh.size ≤ maxLen := by
      refine ⟨List.ofFn (n := len) fun i => (hrec i.1 i.2).choose, by simp, fun i o hio => ?_⟩
      have hil : i < len := by have := (List.getElem?_eq_some_iff.1 hio).1; simpa using this
      rw [List.getElem?_ofFn, dif_pos hil] at hio
      cases hio
      exact (hrec i hil).choose_spec
    subst hLl
    refine ⟨some a, cap, L, rfl, ?_, by omega⟩
    by_cases h0 : L = []
    · exact .inl h0
    · obtain ⟨b, off, spot⟩ := a
      have h0l : 0 < L.length := List.length_pos_iff.2 h0
      have hz := (hLi 0 _ (List.getElem?_eq_getElem h0l)).1 0 (by omega)
      have hspot : spot = none := by simpa [Addr.add] using World.cell?_spot (hz.trans rfl)
      subst hspot
      refine .inr ⟨b, off, rfl, fun k o hk => ?_⟩
      obtain ⟨hcell, h1⟩ := hLi k o hk
      have hc' : ∀ j, j < 11 → W.cell? ⟨b, off + k * 11 + j, none⟩ = (Value.int .u8 o.kind :: o.c.cells)[j]? := fun j hj => by
        have := hcell j hj
        rw [Addr.add_lit, ← Nat.add_assoc] at this
        exact this
      exact ⟨hc' 0 (by omega), ⟨hc' 1 (by omega), hc' 2 (by omega), hc' 3 (by omega), hc' 4 (by omega), hc' 5 (by omega), hc' 6 (by omega), hc' 7 (by omega), hc' 8 (by omega), hc' 9 (by omega), hc' 10 (by omega)⟩, h1⟩
end Go.Proofs.Ytjdbnaedlljfhaa
