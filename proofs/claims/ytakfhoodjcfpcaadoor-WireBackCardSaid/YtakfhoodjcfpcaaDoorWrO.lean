/- wire: arguments opened, the listed variables -/
import Derived.Test.YtakfhoodjcfpcaaDoorWrL
import Derived.Test.YtakfhoodjcfpcaaDoorCards
import Derived.Test.YtakfhoodjcfpcaaDoorTie
import Derived.WalkKit
import Derived.ProofKit
import Derived.OpenShut
import Derived.ShutString
import Derived.Carry
import Derived.SizedLaws
import Derived.SliceStrings
import Derived.ChangeMaps5
import Derived.Deep.DeepHandedRow
import Derived.Lib.LaidTab
import Derived.Stop.LaidErr
import Derived.LaidHandle
import Derived.MakeChecks
import Derived.Deep.Slices
import Derived.Deep.Fields
import Derived.ChangeSame
import Derived.Lib.ItoaLen
namespace Go.Proofs.YtakfhoodjcfpcaaDoor.T
open Go.ChangeShapes Go.WideShapes Go.ChangeAt Go.RowKit Go.Deep Tlv Wire
set_option linter.unusedVariables false
set_option maxRecDepth 100000
theorem own : ownKnob Tryd.prog.godebug = none := by kernel_rfl
theorem laidOut : laidOutB Tryd.prog = true := by kernel_rfl
theorem wf_u64 {a : Int} (h : (Lit.int .u64 a).wf = true) : 0 ≤ a ∧ a < 18446744073709551616 := by
  simp [Lit.wf] at h
  have e1 : IntKind.u64.min = 0 := rfl
  have e2 : IntKind.u64.max = 18446744073709551615 := rfl
  omega
theorem wf_u8 {a : Int} (h : (Lit.int .u8 a).wf = true) : 0 ≤ a ∧ a < 256 := by
  simp [Lit.wf] at h
  have e1 : IntKind.u8.min = 0 := rfl
  have e2 : IntKind.u8.max = 255 := rfl
  omega
section
variable {H : Type} {enc : TypeId × Value → H} {P : Program} {w : World} {base : Nat} {spare : Nat → Bool} {held : Bool}
theorem open_slice_fields {t e : TypeId} {fs : Array Field} {fuel : Nat} {cs : List Value} {x : DataW H × List MemPlace} (ht : P.underlying t = some (.slice e)) (he : P.underlying e = some (.struct fs))
    (hone : oneCellFields P fs = true) (hC : P.cellsOf e = fs.size) (h : DataW.trod enc P w base spare held fuel t cs = some x) :
    (cs = [.slice none 0 0] ∧ x = (.nil, [])) ∨
    ∃ (a : Addr) (len cap m : Nat) (D : Nat → DataW H) (Pl : Nat → List MemPlace), cs = [.slice (some a) len cap] ∧ base ≤ a.block ∧ len ≤ cap ∧ cap ≤ maxLen ∧ m = (if spare a.block then cap else len) ∧
      x = (.slice ((List.range len).map D) ((List.range (m - len)).map fun j => D (len + j)), MemPlace.row a (m * fs.size) ++ (List.range m).flatMap Pl) ∧
      ∀ i, i < m → ∃ (ys : List (DataW H × List MemPlace)) (n : Nat), D i = .agg (ys.map (·.1)) ∧ Pl i = ys.flatMap (·.2) ∧ ys.length = fs.size ∧
        ∀ (j : Nat) (f : Field), fs[j]? = some f → ∃ (v : Value) (y : DataW H × List MemPlace), w.cell? (a.add (i * fs.size + j)) = some v ∧ ys[j]? = some y ∧ DataW.trod enc P w base spare held n f.type [v] = some y := by
  rcases open_slice ht h with h0 | ⟨a, len, cap, m, n, D, Pl, hcs, hb, hl, hm, hmm, hx, hi⟩
  · exact .inl h0
  · refine .inr ⟨a, len, cap, m, D, Pl, hcs, hb, hl, hm, hmm, by rw [hC] at hx; exact hx, fun i him => ?_⟩
    obtain ⟨cs', hc, ht'⟩ := hi i him
    rw [hC] at hc
    obtain ⟨ys, n', hn', hy, hlen, hyl, hf⟩ := DataW.trod_struct he ht'
    obtain ⟨_, hcl, hat⟩ := World.cells?_some hc
    simp only [Prod.mk.injEq] at hy
    refine ⟨ys, n', hy.1, hy.2, hyl, fun j f hj => ?_⟩
    obtain ⟨ho, hk⟩ := hone_of hone j f hj
    have hjl : j < fs.size := (Array.getElem?_eq_some_iff.1 hj).1
    have hcell := hat j hjl
    have hv : cs'[j]? = some (cs'[j]'(by omega)) := List.getElem?_eq_getElem (by omega)
    have h1 := hf j f hj
    rw [ho, hk] at h1
    have hone' : (cs'.drop j).take 1 = [cs'[j]'(by omega)] := by
      rw [List.drop_eq_getElem_cons (by omega)]
      rfl
    rw [hone'] at h1
    have hys : ys[j]? = some (ys[j]'(by omega)) := List.getElem?_eq_getElem (by omega)
    refine ⟨_, _, ?_, hys, h1.trans hys⟩
    rw [← Go.Deep.add_add, hcell, hv]
end
theorem open_src_at {H : Type} {enc : TypeId × Value → H} {W : World} {spare : Nat → Bool} {held : Bool} {fuel : Nat} {v : Value} {x : DataW H × List MemPlace} (hf : DataW.trod enc Tryd.prog W 0 spare held fuel 33 [v] = some x) :
    ∃ (a : Option Addr) (cp : Nat) (l : List UInt8), v = .slice a l.length cp ∧ l.length ≤ cp ∧ cp ≤ maxLen ∧ Src W a l ∧ (a = none → cp = 0) := by
  have hc5 : Tryd.prog.cellsOf 5 = 1 := by kernel_rfl
  rcases open_ints Tryd.underlying33 Tryd.underlying5 hc5 hf with ⟨hcs, hx⟩ | ⟨a, len, cap, zs, hcs, _, hl, hm, hz, hx, hcell, hwz⟩
  · obtain rfl : v = .slice none 0 0 := by simpa using hcs
    exact ⟨none, 0, [], rfl, Nat.le_refl _, Nat.zero_le _, .inl rfl, fun _ => rfl⟩
  · obtain rfl : v = .slice (some a) len cap := by simpa using hcs
    have hlz : len ≤ zs.length := by rw [hz]; split <;> omega
    have hlen : ((zs.take len).map fun z => UInt8.ofNat z.toNat).length = len := by simp; omega
    refine ⟨some a, cap, (zs.take len).map fun z => UInt8.ofNat z.toNat, by rw [hlen], by omega, hm, ?_, fun e => by cases e⟩
    by_cases h0 : len = 0
    · left; subst h0; simp
    · obtain ⟨b, off, spot⟩ := a
      have hspot : spot = none := by simpa [Addr.add] using World.cell?_spot (hcell 0 (by omega))
      subst hspot
      refine .inr ⟨b, off, rfl, fun k c hk => ?_⟩
      rw [List.getElem?_map, List.getElem?_take] at hk
      split at hk
      · rename_i hkl
        have hkz : k < zs.length := by omega
        have hcell' := hcell k hkz
        rw [Addr.add_lit] at hcell'
        rw [List.getElem?_eq_getElem hkz] at hk
        simp only [Option.map_some, Option.some.injEq] at hk
        have hw := wf_u8 (hwz _ (List.getElem_mem hkz))
        rw [hcell', List.getD_eq_getElem?_getD, List.getElem?_eq_getElem hkz]
        subst hk
        simp only [Option.getD_some, bv, UInt8.toNat_ofNat']
        congr 2
        omega
      · cases hk
theorem open_src {H : Type} {enc : TypeId × Value → H} {W : World} {base : Nat} {v : Value} {d : DataW H} {p : List MemPlace} (hval : Value.okWide Tryd.prog W .any base 33 v) (h : DataW.Trod enc Tryd.prog W 0 (fun _ => true) true 33 v d p) :
    ∃ (a : Option Addr) (cp : Nat) (l : List UInt8), v = .slice a l.length cp ∧ l.length ≤ cp ∧ cp ≤ maxLen ∧ Src W a l ∧ (a = none → cp = 0) := by
  obtain ⟨a1, len, cap, rfl⟩ := okWide_slice Tryd.underlying33 hval
  obtain ⟨fuel, hf⟩ := h
  exact open_src_at hf
theorem open_recs_at {H : Type} {enc : TypeId × Value → H} {W : World} {held : Bool} {fuel : Nat} {v : Value} {x : DataW H × List MemPlace} (hf : DataW.trod enc Tryd.prog W 0 (fun _ => true) held fuel 25 [v] = some x) :
    ∃ (a : Option Addr) (cp : Nat) (L : List Rec), v = .slice a L.length cp ∧ Recs W a L ∧ L.length ≤ maxLen ∧ ∀ r ∈ L, r.t < 18446744073709551616 := by
  rcases open_slice_fields Tryd.underlying25 Tryd.underlying43 (by kernel_rfl) (by kernel_rfl) hf with ⟨hcs, hx⟩ | ⟨a, len', cap', m, D, Pl, hcs, _, hl, hm, hmm, hx, hi⟩
  · obtain rfl : v = .slice none 0 0 := by simpa using hcs
    exact ⟨none, 0, [], rfl, .inl rfl, Nat.zero_le _, fun r hr => by cases hr⟩
  · obtain rfl : v = .slice (some a) len' cap' := by simpa using hcs
    simp only [if_true] at hmm
    have hrec : ∀ i, i < len' → ∃ r : Rec, r.t < 18446744073709551616 ∧ ∃ ai ci, W.cell? (a.add (i * 2)) = some (.int .u64 (r.t : Int)) ∧ W.cell? (a.add (i * 2 + 1)) = some (.slice ai r.body.length ci) ∧ Src W ai r.body ∧ r.body.length ≤ ci ∧ ci ≤ maxLen ∧ (ai = none → ci = 0) := fun i hil => by
      obtain ⟨ys, n, _, _, _, hf⟩ := hi i (by omega)
      obtain ⟨v0, y0, c0, _, t0⟩ := hf 0 _ rfl
      obtain ⟨v1, y1, c1, _, t1⟩ := hf 1 _ rfl
      obtain ⟨x, hx0, _, hwf⟩ := DataW.trod_int Tryd.underlying41 t0
      obtain rfl : v0 = .int .u64 x := by simpa using hx0
      obtain ⟨ai, ci, l, rfl, h1, h2, h3, h4⟩ := open_src_at t1
      have hw := wf_u64 hwf
      exact ⟨⟨x.toNat, l⟩, by show x.toNat < _; omega, ai, ci, by rw [show (((⟨x.toNat, l⟩ : Rec).t : Nat) : Int) = x from by show ((x.toNat : Nat) : Int) = x; omega]; exact c0, c1, h3, h1, h2, h4⟩
    obtain ⟨L, hLl, hLi⟩ : ∃ L : List Rec, L.length = len' ∧ ∀ (i : Nat) (r : Rec), L[i]? = some r → r.t < 18446744073709551616 ∧ ∃ ai ci, W.cell? (a.add (i * 2)) = some (.int .u64 (r.t : Int)) ∧ W.cell? (a.add (i * 2 + 1)) = some (.slice ai r.body.length ci) ∧ Src W ai r.body ∧ r.body.length ≤ ci ∧ ci ≤ maxLen ∧ (ai = none → ci = 0) := by
      refine ⟨List.ofFn (n := len') fun i => (hrec i.1 i.2).choose, by simp, fun i r hir => ?_⟩
      have hil : i < len' := by have := (List.getElem?_eq_some_iff.1 hir).1; simpa using this
      rw [List.getElem?_ofFn, dif_pos hil] at hir
      cases hir
      exact (hrec i hil).choose_spec
    subst hLl
    refine ⟨some a, cap', L, rfl, ?_, by omega, fun r hr => by obtain ⟨i, hi⟩ := List.mem_iff_getElem?.1 hr; exact (hLi i r hi).1⟩
    by_cases h0 : L = []
    · exact .inl h0
    · obtain ⟨b, off, spot⟩ := a
      have h0l : 0 < L.length := List.length_pos_iff.2 h0
      obtain ⟨_, _, _, c0, _⟩ := hLi 0 _ (List.getElem?_eq_getElem h0l)
      have hspot : spot = none := by simpa [Addr.add] using World.cell?_spot c0
      subst hspot
      refine .inr ⟨b, off, rfl, fun k r hk => ?_⟩
      obtain ⟨_, ai, ci, c0, c1, h3, h4, h5⟩ := hLi k r hk
      rw [Addr.add_lit] at c0 c1
      exact ⟨ai, ci, c0, c1, h3, h4, h5⟩
theorem wf_i64 {a : Int} (h : (Lit.int .i64 a).wf = true) : -9223372036854775808 ≤ a ∧ a ≤ 9223372036854775807 := by
  simp [Lit.wf] at h
  have e1 : IntKind.i64.min = -9223372036854775808 := rfl
  have e2 : IntKind.i64.max = 9223372036854775807 := rfl
  omega
theorem wf_u16 {a : Int} (h : (Lit.int .u16 a).wf = true) : 0 ≤ a ∧ a < 65536 := by
  simp [Lit.wf] at h
  have e1 : IntKind.u16.min = 0 := rfl
  have e2 : IntKind.u16.max = 65535 := rfl
  omega
theorem open_ints_at {H : Type} {enc : TypeId × Value → H} {W : World} {held : Bool} {fuel : Nat} {v : Value} {x : DataW H × List MemPlace} (hf : DataW.trod enc Tryd.prog W 0 (fun _ => true) held fuel 23 [v] = some x) :
    ∃ (a : Option Addr) (cp : Nat) (K : List Int), v = .slice a K.length cp ∧ Ints W a K ∧ K.length ≤ maxLen ∧ ∀ z ∈ K, -9223372036854775808 ≤ z ∧ z < 9223372036854775808 := by
  have hc5 : Tryd.prog.cellsOf 2 = 1 := by kernel_rfl
  rcases open_ints Tryd.underlying23 Tryd.underlying2 hc5 hf with ⟨hcs, hx⟩ | ⟨a, len', cap', zs, hcs, _, hl, hm, hz, hx, hcell, hwz⟩
  · obtain rfl : v = .slice none 0 0 := by simpa using hcs
    exact ⟨none, 0, [], rfl, .inl rfl, Nat.zero_le _, fun z hz => by cases hz⟩
  · obtain rfl : v = .slice (some a) len' cap' := by simpa using hcs
    simp only [if_true] at hz
    have hlen : (zs.take len').length = len' := by simp; omega
    refine ⟨some a, cap', zs.take len', by rw [hlen], ?_, by rw [hlen]; omega, fun z hz => by have := wf_i64 (hwz z (List.mem_of_mem_take hz)); omega⟩
    by_cases h0 : len' = 0
    · left; subst h0; simp
    · obtain ⟨b, off, spot⟩ := a
      have hspot : spot = none := by simpa [Addr.add] using World.cell?_spot (hcell 0 (by omega))
      subst hspot
      refine .inr ⟨b, off, rfl, fun k x hk => ?_⟩
      rw [List.getElem?_take] at hk
      split at hk
      · have hkz : k < zs.length := by omega
        have hcell' := hcell k hkz
        rw [Addr.add_lit] at hcell'
        rw [List.getElem?_eq_getElem hkz] at hk
        cases hk
        rw [hcell', List.getD_eq_getElem?_getD, List.getElem?_eq_getElem hkz]
        rfl
      · cases hk
theorem open_strs_at {H : Type} {enc : TypeId × Value → H} {W : World} {held : Bool} {fuel : Nat} {v : Value} {x : DataW H × List MemPlace} (hf : DataW.trod enc Tryd.prog W 0 (fun _ => true) held fuel 24 [v] = some x) :
    ∃ (a : Option Addr) (cp : Nat) (K : List ByteArray), v = .slice a K.length cp ∧ Strs W a K ∧ K.length ≤ maxLen ∧ ∀ z ∈ K, z.size ≤ maxLen := by
  have hc5 : Tryd.prog.cellsOf 49 = 1 := by kernel_rfl
  rcases open_strings Tryd.underlying24 Tryd.underlying49 hc5 hf with ⟨hcs, hx⟩ | ⟨a, len', cap', zs, hcs, _, hl, hm, hz, hx, hcell, hwz⟩
  · obtain rfl : v = .slice none 0 0 := by simpa using hcs
    exact ⟨none, 0, [], rfl, .inl rfl, Nat.zero_le _, fun z hz => by cases hz⟩
  · obtain rfl : v = .slice (some a) len' cap' := by simpa using hcs
    simp only [if_true] at hz
    have hlen : (zs.take len').length = len' := by simp; omega
    refine ⟨some a, cap', zs.take len', by rw [hlen], ?_, by rw [hlen]; omega, fun z hz => hwz z (List.mem_of_mem_take hz)⟩
    by_cases h0 : len' = 0
    · left; subst h0; simp
    · obtain ⟨b, off, spot⟩ := a
      have hspot : spot = none := by simpa [Addr.add] using World.cell?_spot (hcell 0 (by omega))
      subst hspot
      refine .inr ⟨b, off, rfl, fun k x hk => ?_⟩
      rw [List.getElem?_take] at hk
      split at hk
      · have hkz : k < zs.length := by omega
        have hcell' := hcell k hkz
        rw [Addr.add_lit] at hcell'
        rw [List.getElem?_eq_getElem hkz] at hk
        cases hk
        rw [hcell', List.getD_eq_getElem?_getD, List.getElem?_eq_getElem hkz]
        rfl
      · cases hk
set_option maxRecDepth 100000 in
theorem open_msg {H : Type} {enc : TypeId × Value → H} {W : World} {base : Nat} {v : Value} {d : DataW H} {p : List MemPlace} (hval : Value.okWide Tryd.prog W .any base 27 v) (h : DataW.Trod enc Tryd.prog W 0 (fun _ => true) true 27 v d p) :
    ∃ (m : Wire.Msg) (na : Option Addr) (nc : Nat) (ta : Option Addr) (tc : Nat) (ra : Option Addr) (rc : Nat), v = .agg #[.int .u16 (m.kind : Int), .string m.chan, .slice na m.nums.length nc, .slice ta m.terms.length tc, .string m.text, .slice ra m.more.length rc] ∧ MA W m na ta ra ∧ MR m := by
  obtain ⟨cs, rfl, hsz⟩ := okWide_struct Tryd.underlying27 hval
  obtain ⟨l⟩ := cs
  have hC : Tryd.prog.cellsOf 27 = 6 := by kernel_rfl
  have hC22 : Tryd.prog.cellsOf 22 = 1 := by kernel_rfl
  have hC9 : Tryd.prog.cellsOf 9 = 1 := by kernel_rfl
  have hC23 : Tryd.prog.cellsOf 23 = 1 := by kernel_rfl
  have hC24 : Tryd.prog.cellsOf 24 = 1 := by kernel_rfl
  have hC25 : Tryd.prog.cellsOf 25 = 1 := by kernel_rfl
  obtain ⟨fuel, h⟩ := h
  have hl : l.length = 6 := hsz.trans hC
  replace h : DataW.trod enc Tryd.prog W 0 (fun _ => true) true fuel 27 l = some (d, p) := h
  match l, hl with
  | [x0, x1, x2, x3, x4, x5], _ =>
    obtain ⟨ys, m, _, hx, _, hlen, hg⟩ := DataW.trod_struct Tryd.underlying27 h
    match ys, hlen with
    | [y0, y1, y2, y3, y4, y5], _ =>
      have g0 : DataW.trod enc Tryd.prog W 0 (fun _ => true) true m 22 (([x0, x1, x2, x3, x4, x5].drop 0).take (Tryd.prog.cellsOf 22)) = some y0 := hg 0 _ rfl
      rw [hC22] at g0
      obtain ⟨k, e0, _, w0⟩ := DataW.trod_int Tryd.underlying22 g0
      obtain rfl : x0 = .int .u16 k := by simpa using e0
      have g1 : DataW.trod enc Tryd.prog W 0 (fun _ => true) true m 9 (([_, x1, x2, x3, x4, x5].drop 1).take (Tryd.prog.cellsOf 9)) = some y1 := hg 1 _ rfl
      rw [hC9] at g1
      obtain ⟨c, e1, _, s1⟩ := DataW.trod_string Tryd.underlying9 g1
      obtain rfl : x1 = .string c := by simpa using e1
      have g2 : DataW.trod enc Tryd.prog W 0 (fun _ => true) true m 23 (([_, _, x2, x3, x4, x5].drop 2).take (Tryd.prog.cellsOf 23)) = some y2 := hg 2 _ rfl
      rw [hC23] at g2
      obtain ⟨na, nc, N, rfl, hN, hNl, hNr⟩ := open_ints_at g2
      have g3 : DataW.trod enc Tryd.prog W 0 (fun _ => true) true m 24 (([_, _, _, x3, x4, x5].drop 3).take (Tryd.prog.cellsOf 24)) = some y3 := hg 3 _ rfl
      rw [hC24] at g3
      obtain ⟨ta, tc, T, rfl, hT, hTl, hTs⟩ := open_strs_at g3
      have g4 : DataW.trod enc Tryd.prog W 0 (fun _ => true) true m 9 (([_, _, _, _, x4, x5].drop 4).take (Tryd.prog.cellsOf 9)) = some y4 := hg 4 _ rfl
      rw [hC9] at g4
      obtain ⟨x, e4, _, s4⟩ := DataW.trod_string Tryd.underlying9 g4
      obtain rfl : x4 = .string x := by simpa using e4
      have g5 : DataW.trod enc Tryd.prog W 0 (fun _ => true) true m 25 (([_, _, _, _, _, x5].drop 5).take (Tryd.prog.cellsOf 25)) = some y5 := hg 5 _ rfl
      rw [hC25] at g5
      obtain ⟨ra, rc, L, rfl, hL, hLl, hLt⟩ := open_recs_at g5
      have hk := wf_u16 w0
      have hml : maxLen < 18446744073709551616 := by unfold maxLen; decide
      refine ⟨⟨k.toNat, c, N, T, x, L⟩, na, nc, ta, tc, ra, rc, ?_, ⟨hN, hT, hL⟩, ⟨⟨by show k.toNat < _; omega, hNr, Nat.lt_of_le_of_lt hNl hml, Nat.lt_of_le_of_lt hTl hml, fun t ht => Nat.lt_of_le_of_lt (hTs t ht) hml, Nat.lt_of_le_of_lt s1 hml, Nat.lt_of_le_of_lt s4 hml⟩, s1, s4, hNl, hTl, hLl, hTs, hLt⟩⟩
      show Value.agg #[_, _, _, _, _, _] = Value.agg #[_, _, _, _, _, _]
      rw [show ((k.toNat : Nat) : Int) = k by omega]
/-! the listed variables -/
theorem cells49 : Tryd.prog.cellsOf 49 = 1 := by kernel_rfl
theorem gSyntax : Tryd.prog.globalNamed "strconv.ErrSyntax" = some 1 := by kernel_rfl
theorem gSyntaxType : (Tryd.prog.globals[1]?).map (·.type) = some 133 := by kernel_rfl
theorem gRange : Tryd.prog.globalNamed "strconv.ErrRange" = some 2 := by kernel_rfl
theorem gRangeType : (Tryd.prog.globals[2]?).map (·.type) = some 133 := by kernel_rfl
theorem star : "*" ++ "errors.errorString" = "*errors.errorString" := by decide
set_option maxRecDepth 100000 in
theorem row151 (u : TypeId) (h : Tryd.prog.typeName? 3 u = some "*errors.errorString") : u = 151 :=
  typeName_ptr_named (nm := "errors.errorString") (by rw [star]; kernel_rfl) (by kernel_rfl) (by decide) u (by rw [star]; exact h)
def laidL : List (String × DataW Unit) := [("math/bits.deBruijn32tab", Rows.laid_math_bits_deBruijn32tab), ("math/bits.deBruijn64tab", Rows.laid_math_bits_deBruijn64tab), ("internal/strconv.uint64pow10", Rows.laid_internal_strconv_uint64pow10), ("strconv.ErrRange", Rows.laid_strconv_ErrRange), ("strconv.ErrSyntax", Rows.laid_strconv_ErrSyntax)]
theorem cell_of_var {P : Program} {W : World} {n : String} {g : Nat} {v : Value} (hg : P.globalNamed n = some g) (h : W.var? P n = some #[v]) : W.cell? ⟨g, 0, none⟩ = some v := by
  have := World.var?_cell hg h 0
  simpa using this
theorem laid_of {W : World} (h : laidMetH Tryd.prog laidL W) : LibOk W := by
  rw [Go.MakeChecks.laidMetH_plain _ _ _ (by rfl)] at h
  have h2 := h.tail.tail
  have h3 := h2.tail
  obtain ⟨a5, s5, v5, _⟩ := laid_sentinel h3 gRange gRangeType Tryd.underlying133 row151 Tryd.underlying151 Tryd.underlying153 rfl rfl Tryd.underlying9 (by kernel_rfl) (by kernel_rfl)
  obtain ⟨a4, s4, v4, _⟩ := laid_sentinel h3.tail gSyntax gSyntaxType Tryd.underlying133 row151 Tryd.underlying151 Tryd.underlying153 rfl rfl Tryd.underlying9 (by kernel_rfl) (by kernel_rfl)
  intro g hg
  rcases hg with rfl | rfl
  · exact ⟨_, cell_of_var gSyntax v4, .inr ⟨_, _, rfl⟩⟩
  · exact ⟨_, cell_of_var gRange v5, .inr ⟨_, _, rfl⟩⟩
noncomputable def low : Nat := (World.holding Tryd.prog default ⟨#[], #[], []⟩).heap.size
/-- a world for the witness: the settled one, the listed variables laid -/
noncomputable def laidWorld (os : Os) : World :=
  let w0 := World.holding Tryd.prog os ⟨#[.cells #[.string ⟨#[118, 97, 108, 117, 101, 32, 111, 117, 116, 32, 111, 102, 32, 114, 97, 110, 103, 101]⟩] 153, .cells #[.string ⟨#[105, 110, 118, 97, 108, 105, 100, 32, 115, 121, 110, 116, 97, 120]⟩] 153], #[], []⟩
  { w0 with heap := (((((w0.heap.modify 3 fun
      | .cells _ t frozen => .cells (Lib.pow10Tab.map fun z => Value.int .u64 z).toArray t frozen
      | o => o).modify 4 fun
      | .cells _ t frozen => .cells ([0, 1, 28, 2, 29, 14, 24, 3, 30, 22, 20, 15, 25, 17, 4, 8, 31, 27, 13, 23, 21, 19, 16, 7, 26, 12, 18, 6, 11, 5, 10, 9].map fun z => Value.int .u8 z).toArray t frozen
      | o => o).modify 5 fun
      | .cells _ t frozen => .cells ([0, 1, 56, 2, 57, 49, 28, 3, 61, 58, 42, 50, 38, 29, 17, 4, 62, 47, 59, 36, 45, 43, 51, 22, 53, 39, 33, 30, 24, 18, 12, 5, 63, 55, 48, 27, 60, 41, 37, 16, 46, 35, 44, 21, 52, 32, 23, 11, 54, 26, 40, 15, 34, 20, 31, 10, 25, 14, 19, 9, 13, 8, 7, 6].map fun z => Value.int .u8 z).toArray t frozen
      | o => o).modify 2 fun
      | .cells _ t frozen => .cells #[.iface 151 (.pointer (some ⟨low, 0, none⟩))] t frozen
      | o => o).modify 1 fun
      | .cells _ t frozen => .cells #[.iface 151 (.pointer (some ⟨low + 1, 0, none⟩))] t frozen
      | o => o) }
end Go.Proofs.YtakfhoodjcfpcaaDoor.T
