/- wire: the readers -/
import Derived.Test.YtakfhoodjcfpcaaDoorWrH
namespace Go.Proofs.YtakfhoodjcfpcaaDoor.T
set_option linter.unusedVariables false
set_option maxRecDepth 100000
open Go.RowKit Tlv Wire
/-! wire: texts and numbers read; the document's reader -/
theorem take_eq (n : Nat) (s : St) : (takeS n s).1.length ≤ n := by
  unfold takeS
  split
  · exact Nat.zero_le _
  · show (s.l.take n).length ≤ n
    rw [List.length_take]; omega
theorem fr2 {w w' w'' : World} {rb : Nat} (h : Fr (At rb) w w') (k : Fr (At rb) w' w'') : Fr (At rb) w w'' := h.trans k
def TxPost (W0 : World) (rb : Nat) (s : St) (w : World) (e : Ending) (w' : World) : Prop := e = .returned (.string (ba (textS false s).1)) ∧ RSt W0 w' rb (textS false s).2 ∧ Fr (At rb) w w'
set_option maxHeartbeats 4000000 in
theorem textS_any (W0 : World) (rb : Nat) (s : St) (w : World) (hR : RSt W0 w rb s) : Calls Tryd.prog 36 #[.pointer (some ⟨rb, 0, none⟩)] w (TxPost W0 rb s w) := by
  unfold TxPost textS
  have HC := Lib.hid (countS_any W0 rb s w hR)
  unfold CtPost at HC
  obtain ⟨n, hn⟩ : ∃ n, (countS false s).1 = n := ⟨_, rfl⟩
  obtain ⟨s1, hs1⟩ : ∃ q, (countS false s).2 = q := ⟨_, rfl⟩
  rw [hn, hs1] at HC ⊢
  have HT := Lib.hid (fun W (h : RSt W0 W rb s1) => take_any W0 rb n s1 W h)
  unfold TkPost at HT
  obtain ⟨l, hl⟩ : ∃ l, (takeS n s1).1 = l := ⟨_, rfl⟩
  obtain ⟨s2, hs2⟩ : ∃ q, (takeS n s1).2 = q := ⟨_, rfl⟩
  rw [hl, hs2] at HT ⊢
  have HCV := Lib.hid (fun (W : World) (a : Option Addr) (c : Nat) (h : Src W a l) => conv_src W a l c h)
  clear hR hn hs1 hl hs2
  go_enter Tryd.func36, Tryd.ntmps36
  go_wp2_with (first
    | (go_at_call 34; (with_reducible refine Calls.mono HC.out ?_); rintro e w1 ⟨rfl, hr1, hf1⟩; have HR1 := Lib.hid hr1; have HF1 := Lib.hid hf1; clear hr1 hf1)
    | (go_at_call 51; (with_reducible refine Calls.mono (HT.out _ HR1.out) ?_); rintro e w2 ⟨a, c, rfl, hs, hc1, hc2, hc3, hr2, hf2⟩; have HR2 := Lib.hid hr2; have HF2 := Lib.hid hf2; have hcv := HCV.out w2 a c (by obtain ⟨a', c', h⟩ := HR2.out; exact hs.below h.low); clear hr2 hf2 hs hc3))
  go_ret
  exact ⟨rfl, HR2.out, HF1.out.trans HF2.out⟩
def NmPost (W0 : World) (rb many : Nat) (s : St) (w : World) (e : Ending) (w' : World) : Prop := e = .returned (.int .u64 ((numS many s).1 : Int)) ∧ RSt W0 w' rb (numS many s).2 ∧ Fr (At rb) w w'
set_option maxHeartbeats 4000000 in
theorem numS_any (W0 : World) (rb many : Nat) (hm : many ≤ 8) (s : St) (w : World) (hR : RSt W0 w rb s) : Calls Tryd.prog 35 #[.pointer (some ⟨rb, 0, none⟩), .int .u64 (many : Int)] w (NmPost W0 rb many s w) := by
  unfold NmPost numS
  have HT := Lib.hid (take_any W0 rb many s w hR)
  unfold TkPost at HT
  have hle := take_eq many s
  obtain ⟨l, hl⟩ : ∃ l, (takeS many s).1 = l := ⟨_, rfl⟩
  obtain ⟨s2, hs2⟩ : ∃ q, (takeS many s).2 = q := ⟨_, rfl⟩
  rw [hl] at hle
  rw [hl, hs2] at HT ⊢
  dsimp only
  clear hR hl hs2
  go_enter Tryd.func35, Tryd.ntmps35
  go_wp2_with (go_at_call 51; (with_reducible refine Calls.mono HT.out ?_); rintro e w2 ⟨a, c, rfl, hs, hc1, hc2, hc3, hr2, hf2⟩; have HR2 := Lib.hid hr2; have HF2 := Lib.hid hf2; have HSR := Lib.hid (show Src w2 a l from by obtain ⟨a', c', h⟩ := HR2.out; exact hs.below h.low); clear hr2 hf2 hs hc3)
  go_loopw [4, 11] (fun nv iv wr => ∃ (t : Nat) (y : Int), t ≤ l.length ∧ iv = .int .i64 t ∧ nv = .int .u64 y ∧ wr = w2 ∧ Hid (y = (Tlv.val (l.take t) : Int))) (fun _ iv _ => l.length - (intOf iv).toNat)
  case atStart => exact ⟨0, 0, Nat.zero_le _, by go_num, rfl, rfl, by show (0 : Int) = _; simp [Tlv.val]⟩
  case round =>
    obtain ⟨t, y, ht, rfl, rfl, rfl, hy⟩ := hrel
    have hy0 : 0 ≤ y := by have := hy.out; omega
    by_cases hlt : t < l.length
    · have hy1 : y < 72057594037927936 := by have := hy.out; have := val_take_lt l t (by omega); omega
      obtain ⟨d, hd⟩ : ∃ d, l[t]? = some d := ⟨_, List.getElem?_eq_getElem hlt⟩
      have hne : l ≠ [] := by intro h; rw [h] at hlt; simp at hlt
      obtain ⟨b, off, rfl, hcell⟩ := HSR.out.resolve_left hne
      have hcd := hcell t d hd
      unfold bv at hcd
      have hd1 : (d.toNat : Int) < 256 := by have := d.toNat_lt; omega
      have hnx := val_take_succ l t d hd
      have HN : Hid (y * 256 + (d.toNat : Int) = (Tlv.val (l.take (t + 1)) : Int)) := by have := hy.out; show _ = _; rw [hnx, this]; omega
      have hor := or_byte y d.toNat hy0 hy1 (by omega) hd1
      obtain ⟨z, hz⟩ : ∃ z : Int, (d.toNat : Int) = z := ⟨_, rfl⟩
      rw [hz] at hcd hor HN hd1
      have htl : (t : Int) < (l.length : Int) := by omega
      clear hd hnx hz hcell
      go_wp2_with fail
      go_roundw
      case rel => exact ⟨t + 1, y * 256 + z, by omega, by go_num, rfl, by first | rfl | trivial, HN⟩
      case measure => simp [intOf]; omega
    · obtain rfl : t = l.length := by omega
      go_wp2_with fail
      go_ret
      refine ⟨?_, HR2.out, HF2.out⟩
      have := hy.out
      rw [List.take_length] at this
      rw [← this]
      rfl
theorem num2 (W0 : World) (rb : Nat) (s : St) (w : World) (hR : RSt W0 w rb s) : Calls Tryd.prog 35 #[.pointer (some ⟨rb, 0, none⟩), .int .u64 2] w (NmPost W0 rb 2 s w) := numS_any W0 rb 2 (by omega) s w hR
theorem num8 (W0 : World) (rb : Nat) (s : St) (w : World) (hR : RSt W0 w rb s) : Calls Tryd.prog 35 #[.pointer (some ⟨rb, 0, none⟩), .int .u64 8] w (NmPost W0 rb 8 s w) := numS_any W0 rb 8 (by omega) s w hR
def RSd (W0 w : World) (rb : Nat) (s : St) : Prop := ∃ a c, RS W0 w rb 84 (!s.bad) s a c
def TkPostr (W0 : World) (rb : Nat) (n : Nat) (s : St) (w : World) (e : Ending) (w' : World) : Prop := ∃ a c, e = .returned (.slice a (takeS n s).1.length c) ∧ Src W0 a (takeS n s).1 ∧ (takeS n s).1.length ≤ c ∧ c ≤ maxLen ∧ (a = none → c = 0) ∧ RSd W0 w' rb (takeS n s).2 ∧ Fr (At rb) w w'
set_option maxHeartbeats 4000000 in
theorem take_badr' (W0 : World) (rb n : Nat) (s : St) (w : World) (hR : RSd W0 w rb s) (hb : s.bad = true) : Calls Tryd.prog 53 #[.pointer (some ⟨rb, 0, none⟩), .int .u64 (n : Int)] w (TkPostr W0 rb n s w) := by
  have hT : takeS n s = ([], ⟨s.l, true⟩) := by unfold takeS; rw [if_pos (.inl hb)]
  unfold TkPostr
  rw [hT]
  obtain ⟨a, c, h1, h2, h3, h4, h5, h6, h7⟩ := hR
  rw [hb] at h1
  have c0 : w.cell? ⟨rb, 0, none⟩ = some (.slice a s.l.length c) := by rw [cell_of_row _ _ _ _ _ _ h1]; rfl
  have c1 : w.cell? ⟨rb, 1, none⟩ = some (.bool false) := by rw [cell_of_row _ _ _ _ _ _ h1]; rfl
  have f1 : w.frozen? ⟨rb, 1, none⟩ = false := frozen_of_row _ _ _ _ _ h1
  have H1 := Lib.hid h1; have H2 := Lib.hid h2; have H5 := Lib.hid h5; have H6 := Lib.hid h6; have H7 := Lib.hid h7
  clear h1 h2 h5 h6 h7 hT
  go_enter Tryd.func53, Tryd.ntmps53
  go_wp2_with fail
  go_ret
  refine ⟨_, _, rfl, .inl rfl, Nat.le_refl _, Nat.zero_le _, fun _ => rfl, ⟨a, c, ?_, H2.out, h3, h4, H5.out, H6.out.setCell H7.out _, H7.out⟩, fr_set⟩
  exact heap_setCell_same _ _ _ _ _ _ H1.out
set_option maxHeartbeats 4000000 in
theorem take_fewr (W0 : World) (rb n : Nat) (s : St) (w : World) (hR : RSd W0 w rb s) (hb : s.bad = false) (hn : s.l.length < n) : Calls Tryd.prog 53 #[.pointer (some ⟨rb, 0, none⟩), .int .u64 (n : Int)] w (TkPostr W0 rb n s w) := by
  have hT : takeS n s = ([], ⟨s.l, true⟩) := by unfold takeS; rw [if_pos (.inr hn)]
  unfold TkPostr
  rw [hT]
  obtain ⟨a, c, h1, h2, h3, h4, h5, h6, h7⟩ := hR
  rw [hb] at h1
  have c0 : w.cell? ⟨rb, 0, none⟩ = some (.slice a s.l.length c) := by rw [cell_of_row _ _ _ _ _ _ h1]; rfl
  have c1 : w.cell? ⟨rb, 1, none⟩ = some (.bool true) := by rw [cell_of_row _ _ _ _ _ _ h1]; rfl
  have f1 : w.frozen? ⟨rb, 1, none⟩ = false := frozen_of_row _ _ _ _ _ h1
  have hu : IntKind.u64.wrap (s.l.length : Int) = (s.l.length : Int) := by
    unfold IntKind.wrap
    have e1 : (2 : Int) ^ IntKind.u64.bits = 18446744073709551616 := by decide
    simp [IntKind.signed, e1]
    unfold maxLen at h4
    omega
  have hni : (s.l.length : Int) < (n : Int) := by omega
  have H1 := Lib.hid h1; have H2 := Lib.hid h2; have H5 := Lib.hid h5; have H6 := Lib.hid h6; have H7 := Lib.hid h7
  clear h1 h2 h5 h6 h7 hT
  go_enter Tryd.func53, Tryd.ntmps53
  go_wp2_with fail
  go_ret
  refine ⟨_, _, rfl, .inl rfl, Nat.le_refl _, Nat.zero_le _, fun _ => rfl, ⟨a, c, ?_, H2.out, h3, h4, H5.out, H6.out.setCell H7.out _, H7.out⟩, fr_set⟩
  exact heap_setCell_same _ _ _ _ _ _ H1.out
set_option maxHeartbeats 4000000 in
theorem take_okr (W0 : World) (rb n : Nat) (s : St) (w : World) (hR : RSd W0 w rb s) (hb : s.bad = false) (hn : n ≤ s.l.length) : Calls Tryd.prog 53 #[.pointer (some ⟨rb, 0, none⟩), .int .u64 (n : Int)] w (TkPostr W0 rb n s w) := by
  have hT : takeS n s = (s.l.take n, ⟨s.l.drop n, false⟩) := by unfold takeS; rw [if_neg (by rw [hb]; rintro (h | h); cases h; omega)]
  have htl : (s.l.take n).length = n := by rw [List.length_take]; omega
  unfold TkPostr
  rw [hT]
  dsimp only
  rw [htl]
  clear htl
  obtain ⟨a, c, h1, h2, h3, h4, h5, h6, h7⟩ := hR
  rw [hb] at h1
  have c0 : w.cell? ⟨rb, 0, none⟩ = some (.slice a s.l.length c) := by rw [cell_of_row _ _ _ _ _ _ h1]; rfl
  have c1 : w.cell? ⟨rb, 1, none⟩ = some (.bool true) := by rw [cell_of_row _ _ _ _ _ _ h1]; rfl
  have f1 : w.frozen? ⟨rb, 0, none⟩ = false := frozen_of_row _ _ _ _ _ h1
  have hu : IntKind.u64.wrap (s.l.length : Int) = (s.l.length : Int) := by
    unfold IntKind.wrap
    have e1 : (2 : Int) ^ IntKind.u64.bits = 18446744073709551616 := by decide
    simp [IntKind.signed, e1]
    unfold maxLen at h4
    omega
  have hni : (n : Int) ≤ (s.l.length : Int) := by omega
  have hnc : (n : Int) ≤ (c : Int) := by omega
  have hn0 : (0 : Int) ≤ (n : Int) := by omega
  have H1 := Lib.hid h1; have H2 := Lib.hid h2; have H5 := Lib.hid h5; have H6 := Lib.hid h6; have H7 := Lib.hid h7
  clear h1 h2 h5 h6 h7 hT
  go_enter Tryd.func53, Tryd.ntmps53
  have hnil : a = none → c - n = 0 := fun h => by have := H5.out h; omega
  have HNIL := Lib.hid hnil
  clear hnil
  by_cases hcn : c = n
  · subst hcn
    go_wp2_with fail
    all_goals go_ret
    all_goals refine ⟨a, c, rfl, H2.out.take c, Nat.le_refl _, h4, H5.out, ⟨dA a c c, c - c, ?_, H2.out.dA h3, by simp; omega, by omega, fun h => by omega, H6.out.setCell H7.out _, H7.out⟩, fr_set⟩
    all_goals rw [heap_setCell_same _ _ _ _ _ _ H1.out]
    all_goals simp [T.dA]
    all_goals omega
  · go_wp2_with fail
    all_goals go_ret
    all_goals refine ⟨a, c, rfl, H2.out.take n, by omega, h4, H5.out, ⟨dA a c n, c - n, ?_, H2.out.dA h3, by simp; omega, by omega, fun h => by have := H5.out (dA_none h); omega, H6.out.setCell H7.out _, H7.out⟩, fr_set⟩
    all_goals rw [heap_setCell_same _ _ _ _ _ _ H1.out]
    all_goals simp [T.dA, hcn]
theorem take_anyr (W0 : World) (rb n : Nat) (s : St) (w : World) (hR : RSd W0 w rb s) : Calls Tryd.prog 53 #[.pointer (some ⟨rb, 0, none⟩), .int .u64 (n : Int)] w (TkPostr W0 rb n s w) := by
  cases hb : s.bad with
  | true => exact take_badr' W0 rb n s w hR hb
  | false =>
    by_cases hn : s.l.length < n
    · exact take_fewr W0 rb n s w hR hb hn
    · exact take_okr W0 rb n s w hR hb (by omega)
def CtPostr (W0 : World) (rb : Nat) (s : St) (w : World) (e : Ending) (w' : World) : Prop := e = .returned (.int .u64 ((countS true s).1 : Int)) ∧ RSd W0 w' rb (countS true s).2 ∧ Fr (At rb) w w'
set_option maxHeartbeats 4000000 in
theorem count_nor (W0 : World) (rb : Nat) (s : St) (w : World) (hR : RSd W0 w rb s) (hg : s.bad = true ∨ (getN s.l).2.2 ≠ 0) : Calls Tryd.prog 40 #[.pointer (some ⟨rb, 0, none⟩)] w (CtPostr W0 rb s w) := by
  have hT : countS true s = (0, ⟨s.l, true⟩) := by unfold countS; rw [if_pos (by rcases hg with h | h; exact .inl (by rw [h]; rfl); exact .inr h)]
  unfold CtPostr
  rw [hT]
  obtain ⟨a, c, h1, h2, h3, h4, h5, h6, h7⟩ := hR
  have c0 : w.cell? ⟨rb, 0, none⟩ = some (.slice a s.l.length c) := by rw [cell_of_row _ _ _ _ _ _ h1]; rfl
  have HG := getr_any a s.l c w h3 h4 (h2.below h6)
  unfold GetrPost at HG
  obtain ⟨g1, hg1⟩ : ∃ g : Int, ((getN s.l).1 : Int) = g := ⟨_, rfl⟩
  obtain ⟨g2, hg2⟩ : ∃ g : Int, ((getN s.l).2.1 : Int) = g := ⟨_, rfl⟩
  obtain ⟨g3, hg3⟩ : ∃ g : Int, ((getN s.l).2.2 : Int) = g := ⟨_, rfl⟩
  rw [hg1, hg2, hg3] at HG
  obtain ⟨bd, hbd⟩ : ∃ bd, s.bad = bd := ⟨_, rfl⟩
  rw [hbd] at h1
  have hne : bd = true ∨ ¬ g3 = 0 := by
    rcases hg with h | h
    · left; rw [← hbd]; exact h
    · right; omega
  have HNE := Lib.hid hne
  have HG' := Lib.hid HG
  have H1 := Lib.hid h1; have H2 := Lib.hid h2; have H5 := Lib.hid h5; have H6 := Lib.hid h6; have H7 := Lib.hid h7
  clear h1 h2 h5 h6 h7 hT HG hg1 hg2 hg3 hg hne hbd
  cases bd with
  | true =>
    go_enter Tryd.func40, Tryd.ntmps40
    go_wp2_with (go_at_call 54; (with_reducible refine Calls.mono HG'.out ?_); rintro e w1 ⟨rfl, hb1⟩; have k1 := (hb1.block rb (lt_of_heap H1.out)).trans H1.out; have d1 : w1.cell? ⟨rb, 1, none⟩ = some (.bool false) := (by rw [cell_of_row _ _ _ _ _ _ k1]; rfl); have f1 : w1.frozen? ⟨rb, 1, none⟩ = false := frozen_of_row _ _ _ _ _ k1; have K1 := Lib.hid k1; have HB1 := Lib.hid hb1; clear k1 hb1)
    go_ret
    refine ⟨rfl, ⟨a, c, ?_, H2.out, h3, h4, H5.out, (H6.out.trans (HB1.out.mono H6.out.size)).setCell H7.out _, H7.out⟩, (Fr.below HB1.out).trans fr_set⟩
    exact heap_setCell_same _ _ _ _ _ _ K1.out
  | false =>
    have hne : ¬ g3 = 0 := by rcases HNE.out with h | h; cases h; exact h
    go_enter Tryd.func40, Tryd.ntmps40
    go_wp2_with (go_at_call 54; (with_reducible refine Calls.mono HG'.out ?_); rintro e w1 ⟨rfl, hb1⟩; have k1 := (hb1.block rb (lt_of_heap H1.out)).trans H1.out; have d1 : w1.cell? ⟨rb, 1, none⟩ = some (.bool true) := (by rw [cell_of_row _ _ _ _ _ _ k1]; rfl); have f1 : w1.frozen? ⟨rb, 1, none⟩ = false := frozen_of_row _ _ _ _ _ k1; have K1 := Lib.hid k1; have HB1 := Lib.hid hb1; clear k1 hb1)
    go_ret
    refine ⟨rfl, ⟨a, c, ?_, H2.out, h3, h4, H5.out, (H6.out.trans (HB1.out.mono H6.out.size)).setCell H7.out _, H7.out⟩, (Fr.below HB1.out).trans fr_set⟩
    exact heap_setCell_same _ _ _ _ _ _ K1.out
set_option maxHeartbeats 4000000 in
theorem count_yesr (W0 : World) (rb : Nat) (s : St) (w : World) (hR : RSd W0 w rb s) (hb : s.bad = false) (hg : (getN s.l).2.2 = 0) : Calls Tryd.prog 40 #[.pointer (some ⟨rb, 0, none⟩)] w (CtPostr W0 rb s w) := by
  have hT : countS true s = ((getN s.l).1, ⟨s.l.drop (getN s.l).2.1, false⟩) := by unfold countS; rw [hb, if_neg (by rintro (h | h); cases h; exact h hg)]
  unfold CtPostr
  rw [hT]
  obtain ⟨a, c, h1, h2, h3, h4, h5, h6, h7⟩ := hR
  rw [hb] at h1
  have c0 : w.cell? ⟨rb, 0, none⟩ = some (.slice a s.l.length c) := by rw [cell_of_row _ _ _ _ _ _ h1]; rfl
  have HG := getr_any a s.l c w h3 h4 (h2.below h6)
  unfold GetrPost at HG
  obtain ⟨k1, k2, k3⟩ := get_size s.l hg
  obtain ⟨n, hn⟩ : ∃ n, (getN s.l).2.1 = n := ⟨_, rfl⟩
  obtain ⟨g1, hg1⟩ : ∃ g : Int, ((getN s.l).1 : Int) = g := ⟨_, rfl⟩
  rw [hn] at k1 k2
  simp only [hg1, hn, hg] at HG
  dsimp only
  rw [hg1, hn]
  have hni : (n : Int) ≤ (s.l.length : Int) := by omega
  have hn0 : (0 : Int) ≤ (n : Int) := by omega
  have HG' := Lib.hid HG
  have H1 := Lib.hid h1; have H2 := Lib.hid h2; have H5 := Lib.hid h5; have H6 := Lib.hid h6; have H7 := Lib.hid h7
  clear h1 h2 h5 h6 h7 hT HG hg1 hg hn k3
  go_enter Tryd.func40, Tryd.ntmps40
  by_cases hcn : c = n
  · subst hcn
    go_wp2_with (go_at_call 54; (with_reducible refine Calls.mono HG'.out ?_); rintro e w1 ⟨rfl, hb1⟩; have k1 := (hb1.block rb (lt_of_heap H1.out)).trans H1.out; have d0 : w1.cell? ⟨rb, 0, none⟩ = some (.slice a s.l.length c) := (by rw [cell_of_row _ _ _ _ _ _ k1]; rfl); have d1 : w1.cell? ⟨rb, 1, none⟩ = some (.bool true) := (by rw [cell_of_row _ _ _ _ _ _ k1]; rfl); have f1 : w1.frozen? ⟨rb, 0, none⟩ = false := frozen_of_row _ _ _ _ _ k1; have K1 := Lib.hid k1; have HB1 := Lib.hid hb1; clear k1 hb1)
    all_goals go_ret
    all_goals refine ⟨rfl, ⟨dA a c c, c - c, ?_, H2.out.dA h3, by simp; omega, by omega, fun h => by omega, (H6.out.trans (HB1.out.mono H6.out.size)).setCell H7.out _, H7.out⟩, (Fr.below HB1.out).trans fr_set⟩
    all_goals rw [heap_setCell_same _ _ _ _ _ _ K1.out]
    all_goals simp [T.dA]
    all_goals omega
  · go_wp2_with (go_at_call 54; (with_reducible refine Calls.mono HG'.out ?_); rintro e w1 ⟨rfl, hb1⟩; have k1 := (hb1.block rb (lt_of_heap H1.out)).trans H1.out; have d0 : w1.cell? ⟨rb, 0, none⟩ = some (.slice a s.l.length c) := (by rw [cell_of_row _ _ _ _ _ _ k1]; rfl); have d1 : w1.cell? ⟨rb, 1, none⟩ = some (.bool true) := (by rw [cell_of_row _ _ _ _ _ _ k1]; rfl); have f1 : w1.frozen? ⟨rb, 0, none⟩ = false := frozen_of_row _ _ _ _ _ k1; have K1 := Lib.hid k1; have HB1 := Lib.hid hb1; clear k1 hb1)
    all_goals go_ret
    all_goals refine ⟨rfl, ⟨dA a c n, c - n, ?_, H2.out.dA h3, by simp; omega, by omega, fun h => by have := H5.out (dA_none h); omega, (H6.out.trans (HB1.out.mono H6.out.size)).setCell H7.out _, H7.out⟩, (Fr.below HB1.out).trans fr_set⟩
    all_goals rw [heap_setCell_same _ _ _ _ _ _ K1.out]
    all_goals simp [T.dA, hcn]
theorem countS_anyr (W0 : World) (rb : Nat) (s : St) (w : World) (hR : RSd W0 w rb s) : Calls Tryd.prog 40 #[.pointer (some ⟨rb, 0, none⟩)] w (CtPostr W0 rb s w) := by
  cases hb : s.bad with
  | true => exact count_nor W0 rb s w hR (.inl hb)
  | false =>
    by_cases hg : (getN s.l).2.2 = 0
    · exact count_yesr W0 rb s w hR hb hg
    · exact count_nor W0 rb s w hR (.inr hg)
def TxPostr (W0 : World) (rb : Nat) (s : St) (w : World) (e : Ending) (w' : World) : Prop := e = .returned (.string (ba (textS true s).1)) ∧ RSd W0 w' rb (textS true s).2 ∧ Fr (At rb) w w'
set_option maxHeartbeats 4000000 in
theorem textS_anyr (W0 : World) (rb : Nat) (s : St) (w : World) (hR : RSd W0 w rb s) : Calls Tryd.prog 39 #[.pointer (some ⟨rb, 0, none⟩)] w (TxPostr W0 rb s w) := by
  unfold TxPostr textS
  have HC := Lib.hid (countS_anyr W0 rb s w hR)
  unfold CtPostr at HC
  obtain ⟨n, hn⟩ : ∃ n, (countS true s).1 = n := ⟨_, rfl⟩
  obtain ⟨s1, hs1⟩ : ∃ q, (countS true s).2 = q := ⟨_, rfl⟩
  rw [hn, hs1] at HC ⊢
  have HT := Lib.hid (fun W (h : RSd W0 W rb s1) => take_anyr W0 rb n s1 W h)
  unfold TkPostr at HT
  obtain ⟨l, hl⟩ : ∃ l, (takeS n s1).1 = l := ⟨_, rfl⟩
  obtain ⟨s2, hs2⟩ : ∃ q, (takeS n s1).2 = q := ⟨_, rfl⟩
  rw [hl, hs2] at HT ⊢
  have HCV := Lib.hid (fun (W : World) (a : Option Addr) (c : Nat) (h : Src W a l) => conv_src W a l c h)
  clear hR hn hs1 hl hs2
  go_enter Tryd.func39, Tryd.ntmps39
  go_wp2_with (first
    | (go_at_call 40; (with_reducible refine Calls.mono HC.out ?_); rintro e w1 ⟨rfl, hr1, hf1⟩; have HR1 := Lib.hid hr1; have HF1 := Lib.hid hf1; clear hr1 hf1)
    | (go_at_call 53; (with_reducible refine Calls.mono (HT.out _ HR1.out) ?_); rintro e w2 ⟨a, c, rfl, hs, hc1, hc2, hc3, hr2, hf2⟩; have HR2 := Lib.hid hr2; have HF2 := Lib.hid hf2; have hcv := HCV.out w2 a c (by obtain ⟨a', c', h⟩ := HR2.out; exact hs.below h.low); clear hr2 hf2 hs hc3))
  go_ret
  exact ⟨rfl, HR2.out, HF1.out.trans HF2.out⟩
def NmPostr (W0 : World) (rb many : Nat) (s : St) (w : World) (e : Ending) (w' : World) : Prop := e = .returned (.int .u64 ((numS many s).1 : Int)) ∧ RSd W0 w' rb (numS many s).2 ∧ Fr (At rb) w w'
set_option maxHeartbeats 4000000 in
theorem numS_anyr (W0 : World) (rb many : Nat) (hm : many ≤ 8) (s : St) (w : World) (hR : RSd W0 w rb s) : Calls Tryd.prog 38 #[.pointer (some ⟨rb, 0, none⟩), .int .u64 (many : Int)] w (NmPostr W0 rb many s w) := by
  unfold NmPostr numS
  have HT := Lib.hid (take_anyr W0 rb many s w hR)
  unfold TkPostr at HT
  have hle := take_eq many s
  obtain ⟨l, hl⟩ : ∃ l, (takeS many s).1 = l := ⟨_, rfl⟩
  obtain ⟨s2, hs2⟩ : ∃ q, (takeS many s).2 = q := ⟨_, rfl⟩
  rw [hl] at hle
  rw [hl, hs2] at HT ⊢
  dsimp only
  clear hR hl hs2
  go_enter Tryd.func38, Tryd.ntmps38
  go_wp2_with (go_at_call 53; (with_reducible refine Calls.mono HT.out ?_); rintro e w2 ⟨a, c, rfl, hs, hc1, hc2, hc3, hr2, hf2⟩; have HR2 := Lib.hid hr2; have HF2 := Lib.hid hf2; have HSR := Lib.hid (show Src w2 a l from by obtain ⟨a', c', h⟩ := HR2.out; exact hs.below h.low); clear hr2 hf2 hs hc3)
  go_loopw [6, 7] (fun nv iv wr => ∃ (t : Nat) (y : Int), t ≤ l.length ∧ iv = .int .i64 t ∧ nv = .int .u64 y ∧ wr = w2 ∧ Hid (y = (Tlv.val (l.take t) : Int))) (fun _ iv _ => l.length - (intOf iv).toNat)
  case atStart => exact ⟨0, 0, Nat.zero_le _, by go_num, rfl, rfl, by show (0 : Int) = _; simp [Tlv.val]⟩
  case round =>
    obtain ⟨t, y, ht, rfl, rfl, rfl, hy⟩ := hrel
    have hy0 : 0 ≤ y := by have := hy.out; omega
    by_cases hlt : t < l.length
    · have hy1 : y < 72057594037927936 := by have := hy.out; have := val_take_lt l t (by omega); omega
      obtain ⟨d, hd⟩ : ∃ d, l[t]? = some d := ⟨_, List.getElem?_eq_getElem hlt⟩
      have hne : l ≠ [] := by intro h; rw [h] at hlt; simp at hlt
      obtain ⟨b, off, rfl, hcell⟩ := HSR.out.resolve_left hne
      have hcd := hcell t d hd
      unfold bv at hcd
      have hd1 : (d.toNat : Int) < 256 := by have := d.toNat_lt; omega
      have hnx := val_take_succ l t d hd
      have HN : Hid (y * 256 + (d.toNat : Int) = (Tlv.val (l.take (t + 1)) : Int)) := by have := hy.out; show _ = _; rw [hnx, this]; omega
      have hor := or_byte y d.toNat hy0 hy1 (by omega) hd1
      obtain ⟨z, hz⟩ : ∃ z : Int, (d.toNat : Int) = z := ⟨_, rfl⟩
      rw [hz] at hcd hor HN hd1
      have htl : (t : Int) < (l.length : Int) := by omega
      clear hd hnx hz hcell
      go_wp2_with fail
      go_roundw
      case rel => exact ⟨t + 1, y * 256 + z, by omega, by go_num, rfl, by first | rfl | trivial, HN⟩
      case measure => simp [intOf]; omega
    · obtain rfl : t = l.length := by omega
      go_wp2_with fail
      go_ret
      refine ⟨?_, HR2.out, HF2.out⟩
      have := hy.out
      rw [List.take_length] at this
      rw [← this]
      rfl
theorem num2r (W0 : World) (rb : Nat) (s : St) (w : World) (hR : RSd W0 w rb s) : Calls Tryd.prog 38 #[.pointer (some ⟨rb, 0, none⟩), .int .u64 2] w (NmPostr W0 rb 2 s w) := numS_anyr W0 rb 2 (by omega) s w hR
theorem num8r (W0 : World) (rb : Nat) (s : St) (w : World) (hR : RSd W0 w rb s) : Calls Tryd.prog 38 #[.pointer (some ⟨rb, 0, none⟩), .int .u64 8] w (NmPostr W0 rb 8 s w) := numS_anyr W0 rb 8 (by omega) s w hR
end Go.Proofs.YtakfhoodjcfpcaaDoor.T
