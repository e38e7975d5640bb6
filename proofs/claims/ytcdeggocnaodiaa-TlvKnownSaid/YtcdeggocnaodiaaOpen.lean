/- The frame's parts that the laws of this chapter share: numbers, bytes and records opened. (After the kit's proof-skeleton.mjs; open_slice_fields is a block of the kit's guide to copy.) -/
import Derived.Test.YtcdeggocnaodiaaRows
import Derived.Test.YtcdeggocnaodiaaH
import Derived.WalkKit
import Derived.ProofKit
import Derived.OpenShut
import Derived.ShutString
import Derived.Carry
import Derived.Deep.Slices
import Derived.Deep.Fields
import Derived.ChangeSame
namespace Go.Proofs.Ytcdeggocnaodiaa
open Go.ChangeShapes Go.WideShapes Go.ChangeAt Go.RowKit Go.Deep Tlv
theorem own : ownKnob Try.prog.godebug = none := by kernel_rfl
theorem laidOut : laidOutB Try.prog = true := by kernel_rfl
theorem wf_u64 {a : Int} (h : (Lit.int .u64 a).wf = true) : 0 ≤ a ∧ a < 18446744073709551616 := by
  simp [Lit.wf] at h
  have e1 : IntKind.u64.min = 0 := rfl
  have e2 : IntKind.u64.max = 18446744073709551615 := rfl
  omega
theorem wf_u8 {a : Int} (h : (Lit.int .u8 a).wf = true) : 0 ≤ a ∧ a < 256 := by
  simp [Lit.wf] at h
  have e1 : IntKind.u8.min = 0 := rfl
  have e2 : IntKind.u8.max = 255 := rfl
  omega
section
variable {H : Type} {enc : TypeId × Value → H} {P : Program} {w : World} {base : Nat} {spare : Nat → Bool} {held : Bool}
theorem open_slice_fields {t e : TypeId} {fs : Array Field} {fuel : Nat} {cs : List Value} {x : DataW H × List MemPlace} (ht : P.underlying t = some (.slice e)) (he : P.underlying e = some (.struct fs))
    (hone : oneCellFields P fs = true) (hC : P.cellsOf e = fs.size) (h : DataW.trod enc P w base spare held fuel t cs = some x) :
    (cs = [.slice none 0 0] ∧ x = (.nil, [])) ∨
    ∃ (a : Addr) (len cap m : Nat) (D : Nat → DataW H) (Pl : Nat → List MemPlace), cs = [.slice (some a) len cap] ∧ base ≤ a.block ∧ len ≤ cap ∧ cap ≤ maxLen ∧ m = (if spare a.block then cap else len) ∧
      x = (.slice ((List.range len).map D) ((List.range (m - len)).map fun j => D (len + j)), MemPlace.row a (m * fs.size) ++ (List.range m).flatMap Pl) ∧
      ∀ i, i < m → ∃ (ys : List (DataW H × List MemPlace)) (n : Nat), D i = .agg (ys.map (·.1)) ∧ Pl i = ys.flatMap (·.2) ∧ ys.length = fs.size ∧
        ∀ (j : Nat) (f : Field), fs[j]? = some f → ∃ (v : Value) (y : DataW H × List MemPlace), w.cell? (a.add (i * fs.size + j)) = some v ∧ ys[j]? = some y ∧ DataW.trod enc P w base spare held n f.type [v] = some y := by
  rcases open_slice ht h with h0 | ⟨a, len, cap, m, n, D, Pl, hcs, hb, hl, hm, hmm, hx, hi⟩
  · exact .inl h0
  · refine .inr ⟨a, len, cap, m, D, Pl, hcs, hb, hl, hm, hmm, by rw [hC] at hx; exact hx, fun i him => ?_⟩
    obtain ⟨cs', hc, ht'⟩ := hi i him
    rw [hC] at hc
    obtain ⟨ys, n', hn', hy, hlen, hyl, hf⟩ := DataW.trod_struct he ht'
    obtain ⟨_, hcl, hat⟩ := World.cells?_some hc
    simp only [Prod.mk.injEq] at hy
    refine ⟨ys, n', hy.1, hy.2, hyl, fun j f hj => ?_⟩
    obtain ⟨ho, hk⟩ := hone_of hone j f hj
    have hjl : j < fs.size := (Array.getElem?_eq_some_iff.1 hj).1
    have hcell := hat j hjl
    have hv : cs'[j]? = some (cs'[j]'(by omega)) := List.getElem?_eq_getElem (by omega)
    have h1 := hf j f hj
    rw [ho, hk] at h1
    have hone' : (cs'.drop j).take 1 = [cs'[j]'(by omega)] := by
      rw [List.drop_eq_getElem_cons (by omega)]
      rfl
    rw [hone'] at h1
    have hys : ys[j]? = some (ys[j]'(by omega)) := List.getElem?_eq_getElem (by omega)
    refine ⟨_, _, ?_, hys, h1.trans hys⟩
    rw [← Go.Deep.add_add, hcell, hv]
end
theorem open_src_at {H : Type} {enc : TypeId × Value → H} {W : World} {spare : Nat → Bool} {held : Bool} {fuel : Nat} {v : Value} {x : DataW H × List MemPlace} (hf : DataW.trod enc Try.prog W 0 spare held fuel 23 [v] = some x) :
    ∃ (a : Option Addr) (cp : Nat) (l : List UInt8), v = .slice a l.length cp ∧ l.length ≤ cp ∧ cp ≤ maxLen ∧ Src W a l ∧ (a = none → cp = 0) := by
  have hc5 : Try.prog.cellsOf 5 = 1 := by kernel_rfl
  rcases open_ints Try.underlying23 Try.underlying5 hc5 hf with ⟨hcs, hx⟩ | ⟨a, len, cap, zs, hcs, _, hl, hm, hz, hx, hcell, hwz⟩
  · obtain rfl : v = .slice none 0 0 := by simpa using hcs
    exact ⟨none, 0, [], rfl, Nat.le_refl _, Nat.zero_le _, .inl rfl, fun _ => rfl⟩
  · obtain rfl : v = .slice (some a) len cap := by simpa using hcs
    have hlz : len ≤ zs.length := by rw [hz]; split <;> omega
    have hlen : ((zs.take len).map fun z => UInt8.ofNat z.toNat).length = len := by simp; omega
    refine ⟨some a, cap, (zs.take len).map fun z => UInt8.ofNat z.toNat, by rw [hlen], by omega, hm, ?_, fun e => by cases e⟩
    by_cases h0 : len = 0
    · left; subst h0; simp
    · obtain ⟨b, off, spot⟩ := a
      have hspot : spot = none := by simpa [Addr.add] using World.cell?_spot (hcell 0 (by omega))
      subst hspot
      refine .inr ⟨b, off, rfl, fun k c hk => ?_⟩
      rw [List.getElem?_map, List.getElem?_take] at hk
      split at hk
      · rename_i hkl
        have hkz : k < zs.length := by omega
        have hcell' := hcell k hkz
        rw [Addr.add_lit] at hcell'
        rw [List.getElem?_eq_getElem hkz] at hk
        simp only [Option.map_some, Option.some.injEq] at hk
        have hw := wf_u8 (hwz _ (List.getElem_mem hkz))
        rw [hcell', List.getD_eq_getElem?_getD, List.getElem?_eq_getElem hkz]
        subst hk
        simp only [Option.getD_some, bv, UInt8.toNat_ofNat']
        congr 2
        omega
      · cases hk
theorem open_src {H : Type} {enc : TypeId × Value → H} {W : World} {base : Nat} {v : Value} {d : DataW H} {p : List MemPlace} (hval : Value.okWide Try.prog W .any base 23 v) (h : DataW.Trod enc Try.prog W 0 (fun _ => true) true 23 v d p) :
    ∃ (a : Option Addr) (cp : Nat) (l : List UInt8), v = .slice a l.length cp ∧ l.length ≤ cp ∧ cp ≤ maxLen ∧ Src W a l ∧ (a = none → cp = 0) := by
  obtain ⟨a1, len, cap, rfl⟩ := okWide_slice Try.underlying23 hval
  obtain ⟨fuel, hf⟩ := h
  exact open_src_at hf
theorem open_recs {H : Type} {enc : TypeId × Value → H} {W : World} {base : Nat} {v : Value} {d : DataW H} {p : List MemPlace} (hval : Value.okWide Try.prog W .any base 30 v) (h : DataW.Trod enc Try.prog W 0 (fun _ => true) true 30 v d p) :
    ∃ (a : Option Addr) (cp : Nat) (L : List Rec), v = .slice a L.length cp ∧ Recs W a L ∧ L.length ≤ maxLen ∧ ∀ r ∈ L, r.t < 18446744073709551616 := by
  obtain ⟨a1, len, cap, rfl⟩ := okWide_slice Try.underlying30 hval
  obtain ⟨fuel, hf⟩ := h
  rcases open_slice_fields Try.underlying30 Try.underlying39 (by kernel_rfl) (by kernel_rfl) hf with ⟨hcs, hx⟩ | ⟨a, len', cap', m, D, Pl, hcs, _, hl, hm, hmm, hx, hi⟩
  · simp [Value.cells] at hcs
    obtain ⟨rfl, rfl, rfl⟩ := hcs
    exact ⟨none, 0, [], rfl, .inl rfl, Nat.zero_le _, fun r hr => by cases hr⟩
  · simp [Value.cells] at hcs
    obtain ⟨rfl, rfl, rfl⟩ := hcs
    simp only [if_true] at hmm
    have hrec : ∀ i, i < len → ∃ r : Rec, r.t < 18446744073709551616 ∧ ∃ ai ci, W.cell? (a.add (i * 2)) = some (.int .u64 (r.t : Int)) ∧ W.cell? (a.add (i * 2 + 1)) = some (.slice ai r.body.length ci) ∧ Src W ai r.body ∧ r.body.length ≤ ci ∧ ci ≤ maxLen ∧ (ai = none → ci = 0) := fun i hil => by
      obtain ⟨ys, n, _, _, _, hf⟩ := hi i (by omega)
      obtain ⟨v0, y0, c0, _, t0⟩ := hf 0 _ rfl
      obtain ⟨v1, y1, c1, _, t1⟩ := hf 1 _ rfl
      obtain ⟨x, hx0, _, hwf⟩ := DataW.trod_int Try.underlying22 t0
      obtain rfl : v0 = .int .u64 x := by simpa using hx0
      obtain ⟨ai, ci, l, rfl, h1, h2, h3, h4⟩ := open_src_at t1
      have hw := wf_u64 hwf
      exact ⟨⟨x.toNat, l⟩, by show x.toNat < _; omega, ai, ci, by rw [show (((⟨x.toNat, l⟩ : Rec).t : Nat) : Int) = x from by show ((x.toNat : Nat) : Int) = x; omega]; exact c0, c1, h3, h1, h2, h4⟩
    obtain ⟨L, hLl, hLi⟩ : ∃ L : List Rec, L.length = len ∧ ∀ (i : Nat) (r : Rec), L[i]? = some r → r.t < 18446744073709551616 ∧ ∃ ai ci, W.cell? (a.add (i * 2)) = some (.int .u64 (r.t : Int)) ∧ W.cell? (a.add (i * 2 + 1)) = some (.slice ai r.body.length ci) ∧ Src W ai r.body ∧ r.body.length ≤ ci ∧ ci ≤ maxLen ∧ (ai = none → ci = 0) := by
      refine ⟨List.ofFn (n := len) fun i => (hrec i.1 i.2).choose, by simp, fun i r hir => ?_⟩
      have hil : i < len := by have := (List.getElem?_eq_some_iff.1 hir).1; simpa using this
      rw [List.getElem?_ofFn, dif_pos hil] at hir
      cases hir
      exact (hrec i hil).choose_spec
    subst hLl
    refine ⟨some a, cap, L, rfl, ?_, by omega, fun r hr => by obtain ⟨i, hi⟩ := List.mem_iff_getElem?.1 hr; exact (hLi i r hi).1⟩
    by_cases h0 : L = []
    · exact .inl h0
    · obtain ⟨b, off, spot⟩ := a
      have h0l : 0 < L.length := List.length_pos_iff.2 h0
      obtain ⟨_, _, _, c0, _⟩ := hLi 0 _ (List.getElem?_eq_getElem h0l)
      have hspot : spot = none := by simpa [Addr.add] using World.cell?_spot c0
      subst hspot
      refine .inr ⟨b, off, rfl, fun k r hk => ?_⟩
      obtain ⟨_, ai, ci, c0, c1, h3, h4, h5⟩ := hLi k r hk
      rw [Addr.add_lit] at c0 c1
      exact ⟨ai, ci, c0, c1, h3, h4, h5⟩
end Go.Proofs.Ytcdeggocnaodiaa
