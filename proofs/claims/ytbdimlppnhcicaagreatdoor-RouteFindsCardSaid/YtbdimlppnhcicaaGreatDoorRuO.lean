import Derived.Carry
import Derived.ChangeMaps5
import Derived.ChangeSame
import Derived.Deep.DeepHandedRow
import Derived.Deep.Fields
import Derived.Deep.Slices
import Derived.LaidHandle
import Derived.Lib.ItoaLen
import Derived.Lib.LaidTab
import Derived.MakeChecks
import Derived.OpenShut
import Derived.ProofKit
import Derived.ShutString
import Derived.SizedLaws
import Derived.SliceStrings
import Derived.Stop.LaidErr
import Derived.WalkKit
import Derived.Deep.CutBlock
import Derived.Deep.RegionHeld3
import Derived.StillTailTactics
import Derived.Lib.ParseIntB
import Derived.Lib.Bytealg
import Derived.Lib.ItoaNum
import Derived.Lib.ParseIntBCases
import Derived.Shelf.Strings.Builder1
import Derived.Shelf.Small.Bits
import Derived.Shelf.Small.Strs
import Derived.Shelf.Small.Wraps
import Derived.Shelf.Strings.BuilderF
import Derived.Shelf.Strings.BuilderK
import Derived.Shelf.Strconv.Itoa0
import Derived.Shelf.Strconv.Itoa1
import Derived.Shelf.LaysM
import Derived.Shelf.Strconv.Itoa2
import Derived.Shelf.Strconv.Itoa3
import Derived.Shelf.Strconv.Itoa4
import Derived.Shelf.Strconv.ParseIntEmpty
import Derived.Shelf.Strconv.Clone
import Derived.Shelf.Strconv.SyntaxError
import Derived.Shelf.LaysC
import Derived.Shelf.Strconv.ToError
import Derived.Shelf.Strconv.Lower
import Derived.Shelf.Strconv.ParseUint10
import Derived.Shelf.Strconv.ParseUint10Empty
import Derived.Shelf.Strconv.ParseUint10Any
import Derived.Shelf.Strconv.ParseInt10
import Derived.Shelf.Strconv.RangeError
import Derived.Shelf.Strconv.ToErrorRange
import Derived.Shelf.Strconv.ParseUintEmpty
import Derived.Shelf.Strconv.ParseUint10b64
import Derived.Shelf.Strconv.ParseUint10b32
import Derived.Shelf.Strconv.ParseUint10b16
import Derived.Shelf.Strconv.ParseUint10b8
import Derived.Shelf.Strconv.ParseUint10At
import Derived.Shelf.Strconv.ParseInt10At64
import Derived.Shelf.Strconv.ParseInt10At32
import Derived.Shelf.Strconv.ParseInt10At16
import Derived.Shelf.Strconv.ParseInt10At8
import Derived.Shelf.Strconv.ParseInt10All
import Derived.Shelf.Strconv.ParseIntPublic10
import Derived.Shelf.Strconv.ErrVarParseInt
import Derived.Shelf.Strings.Search1
import Derived.Shelf.Bits.Mul64
import Derived.Shelf.Strings.BuilderCap
import Derived.Ground.Names2Prog
import Derived.Shelf.Slices.Clone
import Derived.Shelf.Slices.SearchI
import Derived.Ground.SlgnProg
import Derived.Shelf.SlicesE.Clone
import Derived.WalkSpells
import Derived.WalkLawsBesides
import Derived.Handy
import Derived.Lib.Hide
import Derived.Deep.QuietTactic
import Derived.BigQuiet
import Derived.Lib.Strings
import Derived.Lib.IndexBytes
import Derived.BigRegion
import Derived.Deep.RegionLaw
import Derived.Deep.AppendLies
import Derived.Deep.LoopGhost
import Derived.Deep.Onto
import Derived.Deep.WholeRow
import Derived.Deep.CutRange
import Derived.Laws.CopyOwn
import Derived.Lib.AppendIntMem
import Derived.Deep.MidRow
import Derived.Deep.RegionHeld
import Derived.Outline
import Derived.Laws.Tables
import Derived.Laws.MakeOwn
import Derived.Laws.OwnMore
import Derived.WalkMore
import Derived.MapKept
import Derived.Test.YtbdimlppnhcicaaGreatDoorRows
import Derived.Test.YtbdimlppnhcicaaGreatDoorProg
import Derived.Test.YtbdimlppnhcicaaGreatDoorNu
import Derived.Test.YtbdimlppnhcicaaGreatDoorTa
import Derived.Test.YtbdimlppnhcicaaGreatDoorTl
import Derived.Test.YtbdimlppnhcicaaGreatDoorBa
import Derived.Test.YtbdimlppnhcicaaGreatDoorOe
import Derived.Test.YtbdimlppnhcicaaGreatDoorRo1
import Derived.Test.YtbdimlppnhcicaaGreatDoorOf
import Derived.Test.YtbdimlppnhcicaaGreatDoorOh
import Derived.Test.YtbdimlppnhcicaaGreatDoorRo2
import Derived.Test.YtbdimlppnhcicaaGreatDoorRo3
import Derived.Test.YtbdimlppnhcicaaGreatDoorRo4
import Derived.Test.YtbdimlppnhcicaaGreatDoorRo5
import Derived.Test.YtbdimlppnhcicaaGreatDoorRo7
import Derived.Test.YtbdimlppnhcicaaGreatDoorRo6
import Derived.Test.YtbdimlppnhcicaaGreatDoorRu2
namespace Go.Proofs.YtbdimlppnhcicaaGreatDoor
set_option linter.unusedVariables false
open Go.ChangeShapes Go.WideShapes Go.ChangeAt Go.RowKit Go.Deep Rte
/-! route: nets, asks, hops, policies, opened -/
theorem wf_i64' {a : Int} (h : (Lit.int .i64 a).wf = true) : -9223372036854775808 ≤ a ∧ a ≤ 9223372036854775807 := by
  simp [Lit.wf] at h
  have e1 : IntKind.i64.min = -9223372036854775808 := rfl
  have e2 : IntKind.i64.max = 9223372036854775807 := rfl
  omega
theorem weightsAll_mem' {H : Type} {P : Program} {e : TypeId} : ∀ {l : List (DataW H)} {d : DataW H}, d ∈ l → ∀ n ∈ d.weights P e, n ∈ DataW.weightsAll P e l
  | d' :: r, d, hd, n, hn => by
    simp only [DataW.weightsAll, List.mem_append]
    rcases List.mem_cons.1 hd with rfl | h
    · exact Or.inl hn
    · exact Or.inr (weightsAll_mem' h n hn)
/-- a row of structs of plain cells, opened -/
theorem open_rows {α : Type} (cells : α → List Value) (Q : α → Prop) (wts : α → List Nat) {t e n : Nat} (hn0 : 0 < n) (hcl : ∀ o, (cells o).length = n) (ht : Tryz.prog.underlying t = some (.slice e)) (hC : Tryz.prog.cellsOf e = n) {H : Type} {enc : TypeId × Value → H} {W : World} {held : Bool} {fuel : Nat} {v : Value} {x : DataW H × List MemPlace}
    (hel : ∀ (m : Nat) (cs : List Value) (y : DataW H × List MemPlace), cs.length = n → DataW.trod enc Tryz.prog W 0 (fun _ => true) held m e cs = some y → ∃ o : α, cs = cells o ∧ y.1.weights Tryz.prog e = wts o ∧ Q o)
    (hw : ∀ k ∈ x.1.weights Tryz.prog t, k ≤ 140737488351232) (hf : DataW.trod enc Tryz.prog W 0 (fun _ => true) held fuel t [v] = some x) :
    ∃ (a : Option Addr) (cp : Nat) (l : List α), v = .slice a l.length cp ∧ RowsAt n cells a l W ∧ l.length ≤ maxLen ∧ ∀ o ∈ l, Q o ∧ ∀ k ∈ wts o, k ≤ 140737488351232 := by
  rcases open_slice ht hf with ⟨hcs, _⟩ | ⟨a, len', cap', m, n', D, Pl, hcs, hb, hl, hm, hmm, hx, hi⟩
  · obtain rfl : v = .slice none 0 0 := by simpa using hcs
    exact ⟨none, 0, [], rfl, .inl rfl, Nat.zero_le _, fun o ho => by cases ho⟩
  · obtain rfl : v = .slice (some a) len' cap' := by simpa using hcs
    simp only [if_true] at hmm
    rw [hx] at hw
    have hrec : ∀ i, i < len' → ∃ o : α, (∀ j, j < n → W.cell? (a.add (i * n + j)) = (cells o)[j]?) ∧ Q o ∧ ∀ k ∈ wts o, k ≤ 140737488351232 := fun i hil => by
      obtain ⟨cs', hc, ht'⟩ := hi i (by omega)
      rw [hC] at hc
      obtain ⟨_, hcl', hat⟩ := World.cells?_some hc
      obtain ⟨o, ho, h1, h2⟩ := hel _ _ _ hcl' ht'
      have hmem : ∀ k ∈ (D i).weights Tryz.prog e, k ≤ 140737488351232 := fun k hk => hw k (by
        simp only [DataW.weights, ht, List.mem_cons, List.mem_append]
        exact Or.inr (Or.inl (weightsAll_mem' (List.mem_map.2 ⟨i, List.mem_range.2 hil, rfl⟩) k hk)))
      have h1 : (D i).weights Tryz.prog e = wts o := h1
      rw [h1] at hmem
      refine ⟨o, fun j hj => ?_, h2, hmem⟩
      rw [← ho, ← Go.Deep.add_add]
      exact hat j hj
    obtain ⟨L, hLl, hLi⟩ : ∃ L : List α, L.length = len' ∧ ∀ (i : Nat) (o : α), L[i]? = some o → (∀ j, j < n → W.cell? (a.add (i * n + j)) = (cells o)[j]?) ∧ Q o ∧ ∀ k ∈ wts o, k ≤ 140737488351232 := by
      refine ⟨List.ofFn (n := len') fun i => (hrec i.1 i.2).choose, by simp, fun i o hio => ?_⟩
      have hil : i < len' := by have := (List.getElem?_eq_some_iff.1 hio).1; simpa using this
      rw [List.getElem?_ofFn, dif_pos hil] at hio
      cases hio
      exact (hrec i hil).choose_spec
    subst hLl
    refine ⟨some a, cap', L, rfl, ?_, by omega, fun o ho => by
      obtain ⟨i, hio⟩ := List.getElem?_of_mem ho
      exact (hLi i o hio).2⟩
    by_cases h0 : L = []
    · exact .inl h0
    · obtain ⟨b, off, spot⟩ := a
      have h0l : 0 < L.length := List.length_pos_iff.2 h0
      have hz := (hLi 0 _ (List.getElem?_eq_getElem h0l)).1 0 hn0
      have hspot : spot = none := by simpa [Addr.add] using World.cell?_spot (hz.trans (List.getElem?_eq_getElem (by rw [hcl]; exact hn0)))
      subst hspot
      refine .inr ⟨b, off, rfl, fun k o hk j v hj => ?_⟩
      obtain ⟨hcell, _⟩ := hLi k o hk
      have hjn : j < n := by have := (List.getElem?_eq_some_iff.1 hj).1; rw [hcl] at this; exact this
      have := hcell j hjn
      rw [Addr.add_lit, ← Nat.add_assoc] at this
      exact this.trans hj
set_option maxRecDepth 100000 in
theorem open_edgE {H : Type} {enc : TypeId × Value → H} {w : World} {base : Nat} {spare : Nat → Bool} {held : Bool} {n : Nat} {cs : List Value} {x : DataW H × List MemPlace} (hl : cs.length = 4) (h : DataW.trod enc Tryz.prog w base spare held n 51 cs = some x) :
    ∃ o : Edg, cs = edgC o ∧ x.1.weights Tryz.prog 51 = [o.chan.size, o.a.size, o.b.size] ∧ True := by
  have hC2 : Tryz.prog.cellsOf 2 = 1 := by kernel_rfl
  have hC23 : Tryz.prog.cellsOf 23 = 1 := by kernel_rfl
  have hC9 : Tryz.prog.cellsOf 9 = 1 := by kernel_rfl
  match cs, hl with
  | [x0, x1, x2, x3], _ =>
    obtain ⟨ys, m, _, hx, _, hlen, hg⟩ := DataW.trod_struct Tryz.underlying51 h
    match ys, hlen with
    | [y0, y1, y2, y3], _ =>
      have g0 : DataW.trod enc Tryz.prog w base spare held m 9 (([x0, x1, x2, x3].drop 0).take (Tryz.prog.cellsOf 9)) = some y0 := hg 0 _ rfl
      rw [hC9] at g0
      have g0 : DataW.trod enc Tryz.prog w base spare held m 9 [x0] = some y0 := g0
      obtain ⟨c0, e0, z0, s0⟩ := DataW.trod_string Tryz.underlying9 g0
      simp only [List.cons.injEq, and_true] at e0
      have g1 : DataW.trod enc Tryz.prog w base spare held m 23 (([x0, x1, x2, x3].drop 1).take (Tryz.prog.cellsOf 23)) = some y1 := hg 1 _ rfl
      rw [hC23] at g1
      have g1 : DataW.trod enc Tryz.prog w base spare held m 23 [x1] = some y1 := g1
      obtain ⟨c1, e1, z1, s1⟩ := DataW.trod_string Tryz.underlying23 g1
      simp only [List.cons.injEq, and_true] at e1
      have g2 : DataW.trod enc Tryz.prog w base spare held m 23 (([x0, x1, x2, x3].drop 2).take (Tryz.prog.cellsOf 23)) = some y2 := hg 2 _ rfl
      rw [hC23] at g2
      have g2 : DataW.trod enc Tryz.prog w base spare held m 23 [x2] = some y2 := g2
      obtain ⟨c2, e2, z2, s2⟩ := DataW.trod_string Tryz.underlying23 g2
      simp only [List.cons.injEq, and_true] at e2
      have g3 : DataW.trod enc Tryz.prog w base spare held m 2 (([x0, x1, x2, x3].drop 3).take (Tryz.prog.cellsOf 2)) = some y3 := hg 3 _ rfl
      rw [hC2] at g3
      have g3 : DataW.trod enc Tryz.prog w base spare held m 2 [x3] = some y3 := g3
      obtain ⟨c3, e3, z3, s3⟩ := DataW.trod_int Tryz.underlying2 g3
      simp only [List.cons.injEq, and_true] at e3
      subst e0 e1 e2 e3
      refine ⟨⟨c0, c1, c2, c3⟩, rfl, ?_, trivial⟩
      subst z0 z1 z2
      rw [hx]
      have hw3 : y3.1.weights Tryz.prog 2 = [] := by rw [z3]; rfl
      simp [DataW.weights, DataW.weightsEach, Tryz.underlying51, hw3]
set_option maxRecDepth 100000 in
theorem open_hpE {H : Type} {enc : TypeId × Value → H} {w : World} {base : Nat} {spare : Nat → Bool} {held : Bool} {n : Nat} {cs : List Value} {x : DataW H × List MemPlace} (hl : cs.length = 4) (h : DataW.trod enc Tryz.prog w base spare held n 49 cs = some x) :
    ∃ o : Hp, cs = hpC o ∧ x.1.weights Tryz.prog 49 = [o.chan.size, o.node.size] ∧ HopOk o := by
  have hC2 : Tryz.prog.cellsOf 2 = 1 := by kernel_rfl
  have hC23 : Tryz.prog.cellsOf 23 = 1 := by kernel_rfl
  have hC3 : Tryz.prog.cellsOf 3 = 1 := by kernel_rfl
  have hC9 : Tryz.prog.cellsOf 9 = 1 := by kernel_rfl
  match cs, hl with
  | [x0, x1, x2, x3], _ =>
    obtain ⟨ys, m, _, hx, _, hlen, hg⟩ := DataW.trod_struct Tryz.underlying49 h
    match ys, hlen with
    | [y0, y1, y2, y3], _ =>
      have g0 : DataW.trod enc Tryz.prog w base spare held m 9 (([x0, x1, x2, x3].drop 0).take (Tryz.prog.cellsOf 9)) = some y0 := hg 0 _ rfl
      rw [hC9] at g0
      have g0 : DataW.trod enc Tryz.prog w base spare held m 9 [x0] = some y0 := g0
      obtain ⟨c0, e0, z0, s0⟩ := DataW.trod_string Tryz.underlying9 g0
      simp only [List.cons.injEq, and_true] at e0
      have g1 : DataW.trod enc Tryz.prog w base spare held m 23 (([x0, x1, x2, x3].drop 1).take (Tryz.prog.cellsOf 23)) = some y1 := hg 1 _ rfl
      rw [hC23] at g1
      have g1 : DataW.trod enc Tryz.prog w base spare held m 23 [x1] = some y1 := g1
      obtain ⟨c1, e1, z1, s1⟩ := DataW.trod_string Tryz.underlying23 g1
      simp only [List.cons.injEq, and_true] at e1
      have g2 : DataW.trod enc Tryz.prog w base spare held m 2 (([x0, x1, x2, x3].drop 2).take (Tryz.prog.cellsOf 2)) = some y2 := hg 2 _ rfl
      rw [hC2] at g2
      have g2 : DataW.trod enc Tryz.prog w base spare held m 2 [x2] = some y2 := g2
      obtain ⟨c2, e2, z2, s2⟩ := DataW.trod_int Tryz.underlying2 g2
      simp only [List.cons.injEq, and_true] at e2
      have g3 : DataW.trod enc Tryz.prog w base spare held m 3 (([x0, x1, x2, x3].drop 3).take (Tryz.prog.cellsOf 3)) = some y3 := hg 3 _ rfl
      rw [hC3] at g3
      have g3 : DataW.trod enc Tryz.prog w base spare held m 3 [x3] = some y3 := g3
      obtain ⟨c3, e3, z3, s3⟩ := DataW.trod_int Tryz.underlying3 g3
      simp only [List.cons.injEq, and_true] at e3
      subst e0 e1 e2 e3
      refine ⟨⟨c0, c1, c2, c3⟩, rfl, ?_, wf_i64' s3⟩
      subst z0 z1
      rw [hx]
      have hw2 : y2.1.weights Tryz.prog 2 = [] := by rw [z2]; rfl
      have hw3 : y3.1.weights Tryz.prog 3 = [] := by rw [z3]; rfl
      simp [DataW.weights, DataW.weightsEach, Tryz.underlying49, hw2, hw3]
set_option maxRecDepth 100000 in
theorem open_plcE {H : Type} {enc : TypeId × Value → H} {w : World} {base : Nat} {spare : Nat → Bool} {held : Bool} {n : Nat} {cs : List Value} {x : DataW H × List MemPlace} (hl : cs.length = 9) (h : DataW.trod enc Tryz.prog w base spare held n 53 cs = some x) :
    ∃ o : Plc, cs = plcC o ∧ x.1.weights Tryz.prog 53 = [o.chan.size, o.frm.size] ∧ True := by
  have hC2 : Tryz.prog.cellsOf 2 = 1 := by kernel_rfl
  have hC23 : Tryz.prog.cellsOf 23 = 1 := by kernel_rfl
  have hC3 : Tryz.prog.cellsOf 3 = 1 := by kernel_rfl
  have hC4 : Tryz.prog.cellsOf 4 = 1 := by kernel_rfl
  have hC9 : Tryz.prog.cellsOf 9 = 1 := by kernel_rfl
  match cs, hl with
  | [x0, x1, x2, x3, x4, x5, x6, x7, x8], _ =>
    obtain ⟨ys, m, _, hx, _, hlen, hg⟩ := DataW.trod_struct Tryz.underlying53 h
    match ys, hlen with
    | [y0, y1, y2, y3, y4, y5, y6, y7, y8], _ =>
      have g0 : DataW.trod enc Tryz.prog w base spare held m 9 (([x0, x1, x2, x3, x4, x5, x6, x7, x8].drop 0).take (Tryz.prog.cellsOf 9)) = some y0 := hg 0 _ rfl
      rw [hC9] at g0
      have g0 : DataW.trod enc Tryz.prog w base spare held m 9 [x0] = some y0 := g0
      obtain ⟨c0, e0, z0, s0⟩ := DataW.trod_string Tryz.underlying9 g0
      simp only [List.cons.injEq, and_true] at e0
      have g1 : DataW.trod enc Tryz.prog w base spare held m 23 (([x0, x1, x2, x3, x4, x5, x6, x7, x8].drop 1).take (Tryz.prog.cellsOf 23)) = some y1 := hg 1 _ rfl
      rw [hC23] at g1
      have g1 : DataW.trod enc Tryz.prog w base spare held m 23 [x1] = some y1 := g1
      obtain ⟨c1, e1, z1, s1⟩ := DataW.trod_string Tryz.underlying23 g1
      simp only [List.cons.injEq, and_true] at e1
      have g2 : DataW.trod enc Tryz.prog w base spare held m 2 (([x0, x1, x2, x3, x4, x5, x6, x7, x8].drop 2).take (Tryz.prog.cellsOf 2)) = some y2 := hg 2 _ rfl
      rw [hC2] at g2
      have g2 : DataW.trod enc Tryz.prog w base spare held m 2 [x2] = some y2 := g2
      obtain ⟨c2, e2, z2, s2⟩ := DataW.trod_int Tryz.underlying2 g2
      simp only [List.cons.injEq, and_true] at e2
      have g3 : DataW.trod enc Tryz.prog w base spare held m 2 (([x0, x1, x2, x3, x4, x5, x6, x7, x8].drop 3).take (Tryz.prog.cellsOf 2)) = some y3 := hg 3 _ rfl
      rw [hC2] at g3
      have g3 : DataW.trod enc Tryz.prog w base spare held m 2 [x3] = some y3 := g3
      obtain ⟨c3, e3, z3, s3⟩ := DataW.trod_int Tryz.underlying2 g3
      simp only [List.cons.injEq, and_true] at e3
      have g4 : DataW.trod enc Tryz.prog w base spare held m 2 (([x0, x1, x2, x3, x4, x5, x6, x7, x8].drop 4).take (Tryz.prog.cellsOf 2)) = some y4 := hg 4 _ rfl
      rw [hC2] at g4
      have g4 : DataW.trod enc Tryz.prog w base spare held m 2 [x4] = some y4 := g4
      obtain ⟨c4, e4, z4, s4⟩ := DataW.trod_int Tryz.underlying2 g4
      simp only [List.cons.injEq, and_true] at e4
      have g5 : DataW.trod enc Tryz.prog w base spare held m 3 (([x0, x1, x2, x3, x4, x5, x6, x7, x8].drop 5).take (Tryz.prog.cellsOf 3)) = some y5 := hg 5 _ rfl
      rw [hC3] at g5
      have g5 : DataW.trod enc Tryz.prog w base spare held m 3 [x5] = some y5 := g5
      obtain ⟨c5, e5, z5, s5⟩ := DataW.trod_int Tryz.underlying3 g5
      simp only [List.cons.injEq, and_true] at e5
      have g6 : DataW.trod enc Tryz.prog w base spare held m 2 (([x0, x1, x2, x3, x4, x5, x6, x7, x8].drop 6).take (Tryz.prog.cellsOf 2)) = some y6 := hg 6 _ rfl
      rw [hC2] at g6
      have g6 : DataW.trod enc Tryz.prog w base spare held m 2 [x6] = some y6 := g6
      obtain ⟨c6, e6, z6, s6⟩ := DataW.trod_int Tryz.underlying2 g6
      simp only [List.cons.injEq, and_true] at e6
      have g7 : DataW.trod enc Tryz.prog w base spare held m 2 (([x0, x1, x2, x3, x4, x5, x6, x7, x8].drop 7).take (Tryz.prog.cellsOf 2)) = some y7 := hg 7 _ rfl
      rw [hC2] at g7
      have g7 : DataW.trod enc Tryz.prog w base spare held m 2 [x7] = some y7 := g7
      obtain ⟨c7, e7, z7, s7⟩ := DataW.trod_int Tryz.underlying2 g7
      simp only [List.cons.injEq, and_true] at e7
      have g8 : DataW.trod enc Tryz.prog w base spare held m 4 (([x0, x1, x2, x3, x4, x5, x6, x7, x8].drop 8).take (Tryz.prog.cellsOf 4)) = some y8 := hg 8 _ rfl
      rw [hC4] at g8
      have g8 : DataW.trod enc Tryz.prog w base spare held m 4 [x8] = some y8 := g8
      obtain ⟨c8, e8, z8⟩ := DataW.trod_bool Tryz.underlying4 g8
      simp only [List.cons.injEq, and_true] at e8
      subst e0 e1 e2 e3 e4 e5 e6 e7 e8
      refine ⟨⟨c0, c1, c2, c3, c4, c5, c6, c7, c8⟩, rfl, ?_, trivial⟩
      subst z0 z1
      rw [hx]
      have hw2 : y2.1.weights Tryz.prog 2 = [] := by rw [z2]; rfl
      have hw3 : y3.1.weights Tryz.prog 2 = [] := by rw [z3]; rfl
      have hw4 : y4.1.weights Tryz.prog 2 = [] := by rw [z4]; rfl
      have hw5 : y5.1.weights Tryz.prog 3 = [] := by rw [z5]; rfl
      have hw6 : y6.1.weights Tryz.prog 2 = [] := by rw [z6]; rfl
      have hw7 : y7.1.weights Tryz.prog 2 = [] := by rw [z7]; rfl
      have hw8 : y8.1.weights Tryz.prog 4 = [] := by rw [z8]; rfl
      simp [DataW.weights, DataW.weightsEach, Tryz.underlying53, hw2, hw3, hw4, hw5, hw6, hw7, hw8]

theorem open_strs_at {H : Type} {enc : TypeId × Value → H} {W : World} {held : Bool} {fuel : Nat} {v : Value} {x : DataW H × List MemPlace} (hw : ∀ k ∈ x.1.weights Tryz.prog 37, k ≤ 140737488351232) (hf : DataW.trod enc Tryz.prog W 0 (fun _ => true) held fuel 37 [v] = some x) :
    ∃ (a : Option Addr) (cp : Nat) (K : List ByteArray), v = .slice a K.length cp ∧ StrsAt a K W ∧ K.length ≤ maxLen ∧ ∀ z ∈ K, z.size ≤ 140737488351232 := by
  have hc5 : Tryz.prog.cellsOf 9 = 1 := by kernel_rfl
  rcases open_strings Tryz.underlying37 Tryz.underlying9 hc5 hf with ⟨hcs, hx⟩ | ⟨a, len', cap', zs, hcs, _, hl, hm, hz, hx, hcell, hwz⟩
  · obtain rfl : v = .slice none 0 0 := by simpa using hcs
    exact ⟨none, 0, [], rfl, .inl rfl, Nat.zero_le _, fun z hz => by cases hz⟩
  · obtain rfl : v = .slice (some a) len' cap' := by simpa using hcs
    simp only [if_true] at hz
    have hlen : (zs.take len').length = len' := by simp; omega
    refine ⟨some a, cap', zs.take len', by rw [hlen], ?_, by rw [hlen]; omega, fun s hs => ?_⟩
    · by_cases h0 : len' = 0
      · left; subst h0; simp
      · obtain ⟨b, off, spot⟩ := a
        have hspot : spot = none := by simpa [Addr.add] using World.cell?_spot (hcell 0 (by omega))
        subst hspot
        refine .inr ⟨b, off, rfl, fun k x hk => ?_⟩
        rw [List.getElem?_take] at hk
        split at hk
        · have hkz : k < zs.length := by omega
          have hcell' := hcell k hkz
          rw [Addr.add_lit] at hcell'
          rw [List.getElem?_eq_getElem hkz] at hk
          cases hk
          rw [hcell', List.getD_eq_getElem?_getD, List.getElem?_eq_getElem hkz]
          rfl
        · cases hk
    · have hmem : (DataW.lit (.string s.data.toList) : DataW H) ∈ strs (zs.take len') := List.mem_map.2 ⟨s, hs, rfl⟩
      rw [hx] at hw
      have := hw s.data.toList.length (by
        simp only [DataW.weights, Tryz.underlying37, List.mem_cons, List.mem_append]
        exact Or.inr (Or.inl (weightsAll_mem' hmem _ (by simp [DataW.weights]))))
      rwa [list_size] at this
set_option maxRecDepth 100000 in
theorem open_net {H : Type} {enc : TypeId × Value → H} {W : World} {base : Nat} {v : Value} {d : DataW H} {p : List MemPlace} (hw : ∀ n ∈ d.weights Tryz.prog 36, n ≤ 140737488351232) (hval : Value.okWide Tryz.prog W .any base 36 v) (h : DataW.Trod enc Tryz.prog W 0 (fun _ => true) true 36 v d p) :
    ∃ (oe : Option Addr) (E : List Edg) (ce : Nat) (op : Option Addr) (P : List Plc) (cp : Nat), v = netV oe E.length ce op P.length cp ∧ RowsAt 4 edgC oe E W ∧ RowsAt 9 plcC op P W ∧ E.length ≤ maxLen ∧ P.length ≤ maxLen ∧ (∀ x ∈ E, x.chan.size ≤ 140737488351232 ∧ x.a.size ≤ 140737488351232 ∧ x.b.size ≤ 140737488351232) ∧ ∀ x ∈ P, x.chan.size ≤ 140737488351232 ∧ x.frm.size ≤ 140737488351232 := by
  obtain ⟨cs, rfl, hsz⟩ := okWide_struct Tryz.underlying36 hval
  obtain ⟨l⟩ := cs
  have hC : Tryz.prog.cellsOf 36 = 2 := by kernel_rfl
  have hC33 : Tryz.prog.cellsOf 33 = 1 := by kernel_rfl
  have hC34 : Tryz.prog.cellsOf 34 = 1 := by kernel_rfl
  obtain ⟨fuel, h⟩ := h
  have hl : l.length = 2 := hsz.trans hC
  replace h : DataW.trod enc Tryz.prog W 0 (fun _ => true) true fuel 36 l = some (d, p) := h
  match l, hl with
  | [x0, x1], _ =>
    obtain ⟨ys, m, _, hx, _, hlen, hg⟩ := DataW.trod_struct Tryz.underlying36 h
    match ys, hlen with
    | [y0, y1], _ =>
      have g0 : DataW.trod enc Tryz.prog W 0 (fun _ => true) true m 33 (([x0, x1].drop 0).take (Tryz.prog.cellsOf 33)) = some y0 := hg 0 _ rfl
      rw [hC33] at g0
      have g1 : DataW.trod enc Tryz.prog W 0 (fun _ => true) true m 34 (([x0, x1].drop 1).take (Tryz.prog.cellsOf 34)) = some y1 := hg 1 _ rfl
      rw [hC34] at g1
      simp only [Prod.mk.injEq] at hx
      have hwe : d.weights Tryz.prog 36 = y0.1.weights Tryz.prog 33 ++ y1.1.weights Tryz.prog 34 := by
        rw [hx.1]; simp [DataW.weights, DataW.weightsEach, Tryz.underlying36]
      rw [hwe] at hw
      obtain ⟨oe, ce, E, rfl, h1, h2, h3⟩ := open_rows edgC (fun _ => True) (fun o => [o.chan.size, o.a.size, o.b.size]) (by omega) edgC_len Tryz.underlying33 (by kernel_rfl) (fun m cs y a b => open_edgE a b) (fun k hk => hw k (List.mem_append_left _ hk)) g0
      obtain ⟨op, cp, P, rfl, k1, k2, k3⟩ := open_rows plcC (fun _ => True) (fun o => [o.chan.size, o.frm.size]) (by omega) plcC_len Tryz.underlying34 (by kernel_rfl) (fun m cs y a b => open_plcE a b) (fun k hk => hw k (List.mem_append_right _ hk)) g1
      exact ⟨oe, E, ce, op, P, cp, rfl, h1, k1, h2, k2, fun x hx => by have := (h3 x hx).2; exact ⟨this _ (by simp), this _ (by simp), this _ (by simp)⟩, fun x hx => by have := (k3 x hx).2; exact ⟨this _ (by simp), this _ (by simp)⟩⟩
set_option maxRecDepth 100000 in
theorem open_askR {H : Type} {enc : TypeId × Value → H} {W : World} {base : Nat} {v : Value} {d : DataW H} {p : List MemPlace} (hw : ∀ n ∈ d.weights Tryz.prog 39, n ≤ 140737488351232) (hval : Value.okWide Tryz.prog W .any base 39 v) (h : DataW.Trod enc Tryz.prog W 0 (fun _ => true) true 39 v d p) :
    ∃ (A : AskR) (ob : Option Addr) (cb : Nat), v = askV A ob cb ∧ StrsAt ob A.bad W ∧ A.bad.length ≤ maxLen ∧ (∀ z ∈ A.bad, z.size ≤ 140737488351232) ∧ A.frm.size ≤ 140737488351232 ∧ A.dst.size ≤ 140737488351232 ∧ -9223372036854775808 ≤ A.exp ∧ A.exp ≤ 9223372036854775807 := by
  obtain ⟨cs, rfl, hsz⟩ := okWide_struct Tryz.underlying39 hval
  obtain ⟨l⟩ := cs
  have hC : Tryz.prog.cellsOf 39 = 7 := by kernel_rfl
  have hC23 : Tryz.prog.cellsOf 23 = 1 := by kernel_rfl
  have hC2 : Tryz.prog.cellsOf 2 = 1 := by kernel_rfl
  have hC3 : Tryz.prog.cellsOf 3 = 1 := by kernel_rfl
  have hC37 : Tryz.prog.cellsOf 37 = 1 := by kernel_rfl
  obtain ⟨fuel, h⟩ := h
  have hl : l.length = 7 := hsz.trans hC
  replace h : DataW.trod enc Tryz.prog W 0 (fun _ => true) true fuel 39 l = some (d, p) := h
  match l, hl with
  | [x0, x1, x2, x3, x4, x5, x6], _ =>
    obtain ⟨ys, m, _, hx, _, hlen, hg⟩ := DataW.trod_struct Tryz.underlying39 h
    match ys, hlen with
    | [y0, y1, y2, y3, y4, y5, y6], _ =>
      have g0 : DataW.trod enc Tryz.prog W 0 (fun _ => true) true m 23 (([x0, x1, x2, x3, x4, x5, x6].drop 0).take (Tryz.prog.cellsOf 23)) = some y0 := hg 0 _ rfl
      rw [hC23] at g0
      have g0 : DataW.trod enc Tryz.prog W 0 (fun _ => true) true m 23 [x0] = some y0 := g0
      obtain ⟨c0, e0, z0, s0⟩ := DataW.trod_string Tryz.underlying23 g0
      simp only [List.cons.injEq, and_true] at e0
      have g1 : DataW.trod enc Tryz.prog W 0 (fun _ => true) true m 23 (([x0, x1, x2, x3, x4, x5, x6].drop 1).take (Tryz.prog.cellsOf 23)) = some y1 := hg 1 _ rfl
      rw [hC23] at g1
      have g1 : DataW.trod enc Tryz.prog W 0 (fun _ => true) true m 23 [x1] = some y1 := g1
      obtain ⟨c1, e1, z1, s1⟩ := DataW.trod_string Tryz.underlying23 g1
      simp only [List.cons.injEq, and_true] at e1
      have g2 : DataW.trod enc Tryz.prog W 0 (fun _ => true) true m 2 (([x0, x1, x2, x3, x4, x5, x6].drop 2).take (Tryz.prog.cellsOf 2)) = some y2 := hg 2 _ rfl
      rw [hC2] at g2
      have g2 : DataW.trod enc Tryz.prog W 0 (fun _ => true) true m 2 [x2] = some y2 := g2
      obtain ⟨c2, e2, z2, s2⟩ := DataW.trod_int Tryz.underlying2 g2
      simp only [List.cons.injEq, and_true] at e2
      have g3 : DataW.trod enc Tryz.prog W 0 (fun _ => true) true m 3 (([x0, x1, x2, x3, x4, x5, x6].drop 3).take (Tryz.prog.cellsOf 3)) = some y3 := hg 3 _ rfl
      rw [hC3] at g3
      have g3 : DataW.trod enc Tryz.prog W 0 (fun _ => true) true m 3 [x3] = some y3 := g3
      obtain ⟨c3, e3, z3, s3⟩ := DataW.trod_int Tryz.underlying3 g3
      simp only [List.cons.injEq, and_true] at e3
      have g4 : DataW.trod enc Tryz.prog W 0 (fun _ => true) true m 3 (([x0, x1, x2, x3, x4, x5, x6].drop 4).take (Tryz.prog.cellsOf 3)) = some y4 := hg 4 _ rfl
      rw [hC3] at g4
      have g4 : DataW.trod enc Tryz.prog W 0 (fun _ => true) true m 3 [x4] = some y4 := g4
      obtain ⟨c4, e4, z4, s4⟩ := DataW.trod_int Tryz.underlying3 g4
      simp only [List.cons.injEq, and_true] at e4
      have g5 : DataW.trod enc Tryz.prog W 0 (fun _ => true) true m 2 (([x0, x1, x2, x3, x4, x5, x6].drop 5).take (Tryz.prog.cellsOf 2)) = some y5 := hg 5 _ rfl
      rw [hC2] at g5
      have g5 : DataW.trod enc Tryz.prog W 0 (fun _ => true) true m 2 [x5] = some y5 := g5
      obtain ⟨c5, e5, z5, s5⟩ := DataW.trod_int Tryz.underlying2 g5
      simp only [List.cons.injEq, and_true] at e5
      have g6 : DataW.trod enc Tryz.prog W 0 (fun _ => true) true m 37 (([x0, x1, x2, x3, x4, x5, x6].drop 6).take (Tryz.prog.cellsOf 37)) = some y6 := hg 6 _ rfl
      rw [hC37] at g6
      have g6 : DataW.trod enc Tryz.prog W 0 (fun _ => true) true m 37 [x6] = some y6 := g6
      subst e0 e1 e2 e3 e4 e5
      simp only [Prod.mk.injEq] at hx
      have hw2 : y2.1.weights Tryz.prog 2 = [] := by rw [z2]; rfl
      have hw3 : y3.1.weights Tryz.prog 3 = [] := by rw [z3]; rfl
      have hw4 : y4.1.weights Tryz.prog 3 = [] := by rw [z4]; rfl
      have hw5 : y5.1.weights Tryz.prog 2 = [] := by rw [z5]; rfl
      subst z0 z1
      have hwe : d.weights Tryz.prog 39 = c0.size :: c1.size :: y6.1.weights Tryz.prog 37 := by
        rw [hx.1]; simp [DataW.weights, DataW.weightsEach, Tryz.underlying39, hw2, hw3, hw4, hw5]
      rw [hwe] at hw
      obtain ⟨ob, cb, K, rfl, h1, h2, h3⟩ := open_strs_at (fun k hk => hw k (by simp [hk])) g6
      have hs3 := wf_i64' s3
      exact ⟨⟨c0, c1, c2, c3, c4, c5, K⟩, ob, cb, rfl, h1, h2, h3, hw _ (by simp), hw _ (by simp), hs3.1, hs3.2⟩
set_option maxRecDepth 100000 in
theorem open_hopsR {H : Type} {enc : TypeId × Value → H} {W : World} {base : Nat} {v : Value} {d : DataW H} {p : List MemPlace} (hw : ∀ n ∈ d.weights Tryz.prog 41, n ≤ 140737488351232) (hval : Value.okWide Tryz.prog W .any base 41 v) (h : DataW.Trod enc Tryz.prog W 0 (fun _ => true) true 41 v d p) :
    ∃ (ol : Option Addr) (l : List Hp) (cl : Nat), v = .slice ol l.length cl ∧ RowsAt 4 hpC ol l W ∧ l.length ≤ maxLen ∧ (∀ x ∈ l, x.chan.size ≤ 140737488351232 ∧ x.node.size ≤ 140737488351232) ∧ ∀ x ∈ l, HopOk x := by
  obtain ⟨a1, len, cap, rfl⟩ := okWide_slice Tryz.underlying41 hval
  obtain ⟨fuel, hf⟩ := h
  obtain ⟨ol, cl, l, e, h1, h2, h3⟩ := open_rows hpC HopOk (fun o => [o.chan.size, o.node.size]) (by omega) hpC_len Tryz.underlying41 (by kernel_rfl) (fun m cs y a b => open_hpE a b) hw hf
  exact ⟨ol, l, cl, e, h1, h2, fun x hx => by have := (h3 x hx).2; exact ⟨this _ (by simp), this _ (by simp)⟩, fun x hx => (h3 x hx).1⟩
set_option maxRecDepth 100000 in
theorem open_plc {H : Type} {enc : TypeId × Value → H} {W : World} {base : Nat} {v : Value} {d : DataW H} {p : List MemPlace} (hval : Value.okWide Tryz.prog W .any base 53 v) (h : DataW.Trod enc Tryz.prog W 0 (fun _ => true) true 53 v d p) :
    ∃ q : Plc, v = plcV q := by
  obtain ⟨cs, rfl, hsz⟩ := okWide_struct Tryz.underlying53 hval
  obtain ⟨l⟩ := cs
  have hC : Tryz.prog.cellsOf 53 = 9 := by kernel_rfl
  obtain ⟨fuel, h⟩ := h
  have hl : l.length = 9 := hsz.trans hC
  replace h : DataW.trod enc Tryz.prog W 0 (fun _ => true) true fuel 53 l = some (d, p) := h
  obtain ⟨o, rfl, _⟩ := open_plcE hl h
  exact ⟨o, rfl⟩
end Go.Proofs.YtbdimlppnhcicaaGreatDoor
