/- wire: take and count -/
import Derived.Calls
import Derived.WalkKit
import Derived.WalkSpells
import Derived.WalkLawsBesides
import Derived.Handy
import Derived.Lib.Hide
import Derived.Deep.AppendLies
import Derived.Deep.LoopGhost
import Derived.Outline
import Derived.Laws.BitsAllLaws
import Derived.Laws.BitsLemmas
import Derived.Lib.AppendZeros
import Derived.Lib.AppendZerosOnto
import Derived.Maps.AppendAt
import Derived.Laws.Append
import Derived.Laws.AppendOwn
import Derived.Deep.QuietTactic
import Derived.BigQuiet
import Derived.Deep.RegionHeld3
import Derived.Lib.ConvBytes
import Derived.Laws.BytesArg
import Derived.Lib.ParseIntB
import Derived.Lib.Bytealg
import Derived.Shelf.Small.Strs
import Derived.Shelf.Strconv.Itoa0
import Derived.Shelf.Strconv.ParseIntEmpty
import Derived.Shelf.LaysM
import Derived.Shelf.Strconv.Clone
import Derived.Shelf.Strconv.SyntaxError
import Derived.Shelf.LaysC
import Derived.Shelf.Strconv.ToError
import Derived.Shelf.Strconv.Lower
import Derived.Shelf.Strconv.ParseUint10
import Derived.Shelf.Strconv.ParseUint10Empty
import Derived.Shelf.Strconv.ParseUint10Any
import Derived.Shelf.Strconv.ParseInt10
import Derived.Shelf.Strconv.RangeError
import Derived.Shelf.Strconv.ToErrorRange
import Derived.Shelf.Strconv.ParseUintEmpty
import Derived.Shelf.Strconv.ParseUint10b64
import Derived.Shelf.Strconv.ParseUint10b32
import Derived.Shelf.Strconv.ParseUint10b16
import Derived.Shelf.Strconv.ParseUint10b8
import Derived.Shelf.Strconv.ParseUint10At
import Derived.Shelf.Strconv.ParseInt10At64
import Derived.Shelf.Strconv.ParseInt10At32
import Derived.Shelf.Strconv.ParseInt10At16
import Derived.Shelf.Strconv.ParseInt10At8
import Derived.Shelf.Strconv.ParseInt10All
import Derived.Shelf.Strconv.ParseIntPublic10
import Derived.Shelf.Strconv.ErrVarParseInt
import Derived.Shelf.Strings.Search1
import Derived.Lib.Strings
import Derived.Lib.IndexBytes
import Derived.BigRegion
import Derived.Deep.RegionLaw
import Derived.Deep.Onto
import Derived.Deep.WholeRow
import Derived.Deep.CutRange
import Derived.Laws.CopyOwn
import Derived.Below
import Derived.WalkMore
import Derived.MapKept
import Derived.Carry
import Derived.Lib.AppendStr
import Derived.Test.YtakfhoodjcfpcaaDoorRows
import Derived.Test.YtakfhoodjcfpcaaDoorProg
import Derived.Test.YtakfhoodjcfpcaaDoorPl
import Derived.Test.YtakfhoodjcfpcaaDoorTlD
import Derived.Test.YtakfhoodjcfpcaaDoorTlF
import Derived.Test.YtakfhoodjcfpcaaDoorTlH
import Derived.Test.YtakfhoodjcfpcaaDoorTlI
import Derived.Test.YtakfhoodjcfpcaaDoorTlP
import Derived.Test.YtakfhoodjcfpcaaDoorTlU
import Derived.Test.YtakfhoodjcfpcaaDoorNumB
import Derived.Test.YtakfhoodjcfpcaaDoorTa
import Derived.Test.YtakfhoodjcfpcaaDoorRefG
import Derived.Test.YtakfhoodjcfpcaaDoorWirP
import Derived.Test.YtakfhoodjcfpcaaDoorWrA
import Derived.Test.YtakfhoodjcfpcaaDoorWrE
namespace Go.Proofs.YtakfhoodjcfpcaaDoor.T
set_option linter.unusedVariables false
set_option maxRecDepth 100000
open Go.RowKit Tlv Wire
/-! wire: what is read -/
/-- where the bytes behind the first k lie -/
def dA (a : Option Addr) (c k : Nat) : Option Addr := if c = k then a else a.map fun x => x.add k
theorem dA_none {a : Option Addr} {c k : Nat} (h : dA a c k = none) : a = none := by
  unfold dA at h
  split at h
  · exact h
  · cases a with
    | none => rfl
    | some x => cases h
theorem Src.dA {w : World} {a : Option Addr} {c k : Nat} {l : List UInt8} (h : Src w a l) (hl : l.length ≤ c) : Src w (dA a c k) (l.drop k) := by
  rcases h with h | ⟨b, off, rfl, hc⟩
  · subst h; exact .inl (by simp)
  · have h1 := Src.drop (k := k) (show Src w (some ⟨b, off, none⟩) l from .inr ⟨b, off, rfl, hc⟩) hl
    unfold T.dA
    by_cases hk : c = k
    · rw [if_pos hk] at h1 ⊢; exact h1
    · rw [if_neg hk] at h1 ⊢
      rw [Option.map_some, Addr.add_lit]
      exact h1
/-- the reader at that block: what is left, whether something did not fit -/
structure RS (W0 w : World) (rb : Nat) (T : TypeId) (fl : Bool) (s : St) (a : Option Addr) (c : Nat) : Prop where
  row : w.heap[rb]? = some (.cells #[.slice a s.l.length c, .bool fl] T (0, 0))
  src : Src W0 a s.l
  cap : s.l.length ≤ c
  max : c ≤ maxLen
  nil : a = none → c = 0
  low : Below W0.heap.size W0 w
  base : W0.heap.size ≤ rb
def RSt (W0 w : World) (rb : Nat) (s : St) : Prop := ∃ a c, RS W0 w rb 76 s.bad s a c
theorem low_fr {S : Nat → Prop} {W0 w w' : World} (h : Below W0.heap.size W0 w) (hf : Fr S w w') (hS : ∀ k, k < W0.heap.size → ¬ S k) : Below W0.heap.size W0 w' :=
  h.trans ⟨hf.os, hf.tape, hf.output, hf.size, fun k hk => hf.block k (Nat.lt_of_lt_of_le hk h.size) (hS k hk)⟩
theorem RS.fr {S : Nat → Prop} {W0 w w' : World} {rb : Nat} {T : TypeId} {fl : Bool} {s : St} {a : Option Addr} {c : Nat} (h : RS W0 w rb T fl s a c) (hf : Fr S w w') (hs : ¬ S rb) (hS : ∀ k, k < W0.heap.size → ¬ S k) : RS W0 w' rb T fl s a c :=
  ⟨(hf.block rb (lt_of_heap h.row) hs).trans h.row, h.src, h.cap, h.max, h.nil, low_fr h.low hf hS, h.base⟩
theorem RSt.fr {S : Nat → Prop} {W0 w w' : World} {rb : Nat} {s : St} (h : RSt W0 w rb s) (hf : Fr S w w') (hs : ¬ S rb) (hS : ∀ k, k < W0.heap.size → ¬ S k) : RSt W0 w' rb s := by
  obtain ⟨a, c, h⟩ := h
  exact ⟨a, c, h.fr hf hs hS⟩
def At (rb k : Nat) : Prop := k = rb
def TkPost (W0 : World) (rb : Nat) (n : Nat) (s : St) (w : World) (e : Ending) (w' : World) : Prop := ∃ a c, e = .returned (.slice a (takeS n s).1.length c) ∧ Src W0 a (takeS n s).1 ∧ (takeS n s).1.length ≤ c ∧ c ≤ maxLen ∧ (a = none → c = 0) ∧ RSt W0 w' rb (takeS n s).2 ∧ Fr (At rb) w w'
theorem fr_set {w : World} {rb o : Nat} {v : Value} : Fr (At rb) w (w.setCell ⟨rb, o, none⟩ v) := (Fr.refl _ w).set rb o v rfl
set_option maxHeartbeats 4000000 in
theorem take_bad' (W0 : World) (rb n : Nat) (s : St) (w : World) (hR : RSt W0 w rb s) (hb : s.bad = true) : Calls Tryd.prog 51 #[.pointer (some ⟨rb, 0, none⟩), .int .u64 (n : Int)] w (TkPost W0 rb n s w) := by
  have hT : takeS n s = ([], ⟨s.l, true⟩) := by unfold takeS; rw [if_pos (.inl hb)]
  unfold TkPost
  rw [hT]
  obtain ⟨a, c, h1, h2, h3, h4, h5, h6, h7⟩ := hR
  rw [hb] at h1
  have c0 : w.cell? ⟨rb, 0, none⟩ = some (.slice a s.l.length c) := by rw [cell_of_row _ _ _ _ _ _ h1]; rfl
  have c1 : w.cell? ⟨rb, 1, none⟩ = some (.bool true) := by rw [cell_of_row _ _ _ _ _ _ h1]; rfl
  have f1 : w.frozen? ⟨rb, 1, none⟩ = false := frozen_of_row _ _ _ _ _ h1
  have H1 := Lib.hid h1; have H2 := Lib.hid h2; have H5 := Lib.hid h5; have H6 := Lib.hid h6; have H7 := Lib.hid h7
  clear h1 h2 h5 h6 h7 hT
  go_enter Tryd.func51, Tryd.ntmps51
  go_wp2_with fail
  go_ret
  refine ⟨_, _, rfl, .inl rfl, Nat.le_refl _, Nat.zero_le _, fun _ => rfl, ⟨a, c, ?_, H2.out, h3, h4, H5.out, H6.out.setCell H7.out _, H7.out⟩, fr_set⟩
  exact heap_setCell_same _ _ _ _ _ _ H1.out
set_option maxHeartbeats 4000000 in
theorem take_few (W0 : World) (rb n : Nat) (s : St) (w : World) (hR : RSt W0 w rb s) (hb : s.bad = false) (hn : s.l.length < n) : Calls Tryd.prog 51 #[.pointer (some ⟨rb, 0, none⟩), .int .u64 (n : Int)] w (TkPost W0 rb n s w) := by
  have hT : takeS n s = ([], ⟨s.l, true⟩) := by unfold takeS; rw [if_pos (.inr hn)]
  unfold TkPost
  rw [hT]
  obtain ⟨a, c, h1, h2, h3, h4, h5, h6, h7⟩ := hR
  rw [hb] at h1
  have c0 : w.cell? ⟨rb, 0, none⟩ = some (.slice a s.l.length c) := by rw [cell_of_row _ _ _ _ _ _ h1]; rfl
  have c1 : w.cell? ⟨rb, 1, none⟩ = some (.bool false) := by rw [cell_of_row _ _ _ _ _ _ h1]; rfl
  have f1 : w.frozen? ⟨rb, 1, none⟩ = false := frozen_of_row _ _ _ _ _ h1
  have hu : IntKind.u64.wrap (s.l.length : Int) = (s.l.length : Int) := by
    unfold IntKind.wrap
    have e1 : (2 : Int) ^ IntKind.u64.bits = 18446744073709551616 := by decide
    simp [IntKind.signed, e1]
    unfold maxLen at h4
    omega
  have hni : (s.l.length : Int) < (n : Int) := by omega
  have H1 := Lib.hid h1; have H2 := Lib.hid h2; have H5 := Lib.hid h5; have H6 := Lib.hid h6; have H7 := Lib.hid h7
  clear h1 h2 h5 h6 h7 hT
  go_enter Tryd.func51, Tryd.ntmps51
  go_wp2_with fail
  go_ret
  refine ⟨_, _, rfl, .inl rfl, Nat.le_refl _, Nat.zero_le _, fun _ => rfl, ⟨a, c, ?_, H2.out, h3, h4, H5.out, H6.out.setCell H7.out _, H7.out⟩, fr_set⟩
  exact heap_setCell_same _ _ _ _ _ _ H1.out
set_option maxHeartbeats 4000000 in
theorem take_ok (W0 : World) (rb n : Nat) (s : St) (w : World) (hR : RSt W0 w rb s) (hb : s.bad = false) (hn : n ≤ s.l.length) : Calls Tryd.prog 51 #[.pointer (some ⟨rb, 0, none⟩), .int .u64 (n : Int)] w (TkPost W0 rb n s w) := by
  have hT : takeS n s = (s.l.take n, ⟨s.l.drop n, false⟩) := by unfold takeS; rw [if_neg (by rw [hb]; rintro (h | h); cases h; omega)]
  have htl : (s.l.take n).length = n := by rw [List.length_take]; omega
  unfold TkPost
  rw [hT]
  dsimp only
  rw [htl]
  clear htl
  obtain ⟨a, c, h1, h2, h3, h4, h5, h6, h7⟩ := hR
  rw [hb] at h1
  have c0 : w.cell? ⟨rb, 0, none⟩ = some (.slice a s.l.length c) := by rw [cell_of_row _ _ _ _ _ _ h1]; rfl
  have c1 : w.cell? ⟨rb, 1, none⟩ = some (.bool false) := by rw [cell_of_row _ _ _ _ _ _ h1]; rfl
  have f1 : w.frozen? ⟨rb, 0, none⟩ = false := frozen_of_row _ _ _ _ _ h1
  have hu : IntKind.u64.wrap (s.l.length : Int) = (s.l.length : Int) := by
    unfold IntKind.wrap
    have e1 : (2 : Int) ^ IntKind.u64.bits = 18446744073709551616 := by decide
    simp [IntKind.signed, e1]
    unfold maxLen at h4
    omega
  have hni : (n : Int) ≤ (s.l.length : Int) := by omega
  have hnc : (n : Int) ≤ (c : Int) := by omega
  have hn0 : (0 : Int) ≤ (n : Int) := by omega
  have H1 := Lib.hid h1; have H2 := Lib.hid h2; have H5 := Lib.hid h5; have H6 := Lib.hid h6; have H7 := Lib.hid h7
  clear h1 h2 h5 h6 h7 hT
  go_enter Tryd.func51, Tryd.ntmps51
  have hnil : a = none → c - n = 0 := fun h => by have := H5.out h; omega
  have HNIL := Lib.hid hnil
  clear hnil
  by_cases hcn : c = n
  · subst hcn
    go_wp2_with fail
    all_goals go_ret
    all_goals refine ⟨a, c, rfl, H2.out.take c, Nat.le_refl _, h4, H5.out, ⟨dA a c c, c - c, ?_, H2.out.dA h3, by simp; omega, by omega, fun h => by omega, H6.out.setCell H7.out _, H7.out⟩, fr_set⟩
    all_goals rw [heap_setCell_same _ _ _ _ _ _ H1.out]
    all_goals simp [T.dA]
    all_goals omega
  · go_wp2_with fail
    all_goals go_ret
    all_goals refine ⟨a, n, rfl, H2.out.take n, Nat.le_refl _, by omega, fun h => by have := H5.out h; omega, ⟨dA a c n, c - n, ?_, H2.out.dA h3, by simp; omega, by omega, fun h => by have := H5.out (dA_none h); omega, H6.out.setCell H7.out _, H7.out⟩, fr_set⟩
    all_goals rw [heap_setCell_same _ _ _ _ _ _ H1.out]
    all_goals simp [T.dA, hcn]
theorem take_any (W0 : World) (rb n : Nat) (s : St) (w : World) (hR : RSt W0 w rb s) : Calls Tryd.prog 51 #[.pointer (some ⟨rb, 0, none⟩), .int .u64 (n : Int)] w (TkPost W0 rb n s w) := by
  cases hb : s.bad with
  | true => exact take_bad' W0 rb n s w hR hb
  | false =>
    by_cases hn : s.l.length < n
    · exact take_few W0 rb n s w hR hb hn
    · exact take_ok W0 rb n s w hR hb (by omega)
def CtPost (W0 : World) (rb : Nat) (s : St) (w : World) (e : Ending) (w' : World) : Prop := e = .returned (.int .u64 ((countS false s).1 : Int)) ∧ RSt W0 w' rb (countS false s).2 ∧ Fr (At rb) w w'
set_option maxHeartbeats 4000000 in
theorem count_no (W0 : World) (rb : Nat) (s : St) (w : World) (hR : RSt W0 w rb s) (hg : (getN s.l).2.2 ≠ 0) : Calls Tryd.prog 34 #[.pointer (some ⟨rb, 0, none⟩)] w (CtPost W0 rb s w) := by
  have hT : countS false s = (0, ⟨s.l, true⟩) := by unfold countS; rw [if_pos (.inr hg)]
  unfold CtPost
  rw [hT]
  obtain ⟨a, c, h1, h2, h3, h4, h5, h6, h7⟩ := hR
  have c0 : w.cell? ⟨rb, 0, none⟩ = some (.slice a s.l.length c) := by rw [cell_of_row _ _ _ _ _ _ h1]; rfl
  have c1 : w.cell? ⟨rb, 1, none⟩ = some (.bool s.bad) := by rw [cell_of_row _ _ _ _ _ _ h1]; rfl
  have f1 : w.frozen? ⟨rb, 1, none⟩ = false := frozen_of_row _ _ _ _ _ h1
  have HG := get_any a s.l c w h3 h4 (h2.below h6)
  unfold GetPost at HG
  obtain ⟨g1, hg1⟩ : ∃ g : Int, ((getN s.l).1 : Int) = g := ⟨_, rfl⟩
  obtain ⟨g2, hg2⟩ : ∃ g : Int, ((getN s.l).2.1 : Int) = g := ⟨_, rfl⟩
  obtain ⟨g3, hg3⟩ : ∃ g : Int, ((getN s.l).2.2 : Int) = g := ⟨_, rfl⟩
  rw [hg1, hg2, hg3] at HG
  have hne : ¬ g3 = 0 := by omega
  have HG' := Lib.hid HG
  have H1 := Lib.hid h1; have H2 := Lib.hid h2; have H5 := Lib.hid h5; have H6 := Lib.hid h6; have H7 := Lib.hid h7
  clear h1 h2 h5 h6 h7 hT HG hg1 hg2 hg3 hg
  go_enter Tryd.func34, Tryd.ntmps34
  go_wp2_with (go_at_call 50; (with_reducible refine Calls.mono HG'.out ?_); rintro e w1 ⟨rfl, rfl⟩)
  go_ret
  refine ⟨rfl, ⟨a, c, ?_, H2.out, h3, h4, H5.out, H6.out.setCell H7.out _, H7.out⟩, fr_set⟩
  exact heap_setCell_same _ _ _ _ _ _ H1.out
set_option maxHeartbeats 4000000 in
theorem count_yes (W0 : World) (rb : Nat) (s : St) (w : World) (hR : RSt W0 w rb s) (hg : (getN s.l).2.2 = 0) : Calls Tryd.prog 34 #[.pointer (some ⟨rb, 0, none⟩)] w (CtPost W0 rb s w) := by
  have hT : countS false s = ((getN s.l).1, ⟨s.l.drop (getN s.l).2.1, s.bad⟩) := by unfold countS; rw [if_neg (by rintro (h | h); cases h; exact h hg)]
  unfold CtPost
  rw [hT]
  obtain ⟨a, c, h1, h2, h3, h4, h5, h6, h7⟩ := hR
  have c0 : w.cell? ⟨rb, 0, none⟩ = some (.slice a s.l.length c) := by rw [cell_of_row _ _ _ _ _ _ h1]; rfl
  have c1 : w.cell? ⟨rb, 1, none⟩ = some (.bool s.bad) := by rw [cell_of_row _ _ _ _ _ _ h1]; rfl
  have f1 : w.frozen? ⟨rb, 0, none⟩ = false := frozen_of_row _ _ _ _ _ h1
  have HG := get_any a s.l c w h3 h4 (h2.below h6)
  unfold GetPost at HG
  obtain ⟨k1, k2, k3⟩ := get_size s.l hg
  obtain ⟨n, hn⟩ : ∃ n, (getN s.l).2.1 = n := ⟨_, rfl⟩
  obtain ⟨g1, hg1⟩ : ∃ g : Int, ((getN s.l).1 : Int) = g := ⟨_, rfl⟩
  rw [hn] at k1 k2
  simp only [hg1, hn, hg] at HG
  dsimp only
  rw [hg1, hn]
  have hni : (n : Int) ≤ (s.l.length : Int) := by omega
  have hn0 : (0 : Int) ≤ (n : Int) := by omega
  have HG' := Lib.hid HG
  have H1 := Lib.hid h1; have H2 := Lib.hid h2; have H5 := Lib.hid h5; have H6 := Lib.hid h6; have H7 := Lib.hid h7
  clear h1 h2 h5 h6 h7 hT HG hg1 hg hn k3
  go_enter Tryd.func34, Tryd.ntmps34
  by_cases hcn : c = n
  · subst hcn
    go_wp2_with (go_at_call 50; (with_reducible refine Calls.mono HG'.out ?_); rintro e w1 ⟨rfl, rfl⟩)
    all_goals go_ret
    all_goals refine ⟨rfl, ⟨dA a c c, c - c, ?_, H2.out.dA h3, by simp; omega, by omega, fun h => by omega, H6.out.setCell H7.out _, H7.out⟩, fr_set⟩
    all_goals rw [heap_setCell_same _ _ _ _ _ _ H1.out]
    all_goals simp [T.dA]
    all_goals omega
  · go_wp2_with (go_at_call 50; (with_reducible refine Calls.mono HG'.out ?_); rintro e w1 ⟨rfl, rfl⟩)
    all_goals go_ret
    all_goals refine ⟨rfl, ⟨dA a c n, c - n, ?_, H2.out.dA h3, by simp; omega, by omega, fun h => by have := H5.out (dA_none h); omega, H6.out.setCell H7.out _, H7.out⟩, fr_set⟩
    all_goals rw [heap_setCell_same _ _ _ _ _ _ H1.out]
    all_goals simp [T.dA, hcn]
theorem countS_any (W0 : World) (rb : Nat) (s : St) (w : World) (hR : RSt W0 w rb s) : Calls Tryd.prog 34 #[.pointer (some ⟨rb, 0, none⟩)] w (CtPost W0 rb s w) := by
  by_cases hg : (getN s.l).2.2 = 0
  · exact count_yes W0 rb s w hR hg
  · exact count_no W0 rb s w hR hg
end Go.Proofs.YtakfhoodjcfpcaaDoor.T
