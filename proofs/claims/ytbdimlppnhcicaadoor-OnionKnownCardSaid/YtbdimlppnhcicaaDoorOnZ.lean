/- onion: OnionBack, walked -/
import Derived.Test.YtbdimlppnhcicaaDoorOnY
import Derived.Test.YtbdimlppnhcicaaDoorOnX
namespace Go.Proofs.YtbdimlppnhcicaaDoor
set_option linter.unusedVariables false
open Go.RowKit
/-! onion: OnionBack, walked -/
theorem StrsAt.take {o : Option Addr} {S : List ByteArray} {w : World} (h : StrsAt o S w) (k : Nat) : StrsAt o (S.take k) w := by
  rcases h with h | ⟨b, off, h1, h2⟩
  · left; rw [h]; exact List.take_nil
  · right
    exact ⟨b, off, h1, fun j s hj => h2 j s (by rw [List.getElem?_take] at hj; split at hj; exact hj; cases hj)⟩
theorem keys_small {l : List Nat} (h20 : l.length ≤ 20) (hv : ∀ v ∈ l, v ≤ 4294967295) : ∀ s ∈ rKeys l, s.size ≤ 47 := by
  intro s hs
  obtain ⟨i, hi⟩ := List.getElem?_of_mem hs
  have hl := (List.getElem?_eq_some_iff.1 hi).1
  rw [rKeys_len] at hl
  have := (rKey_rt h20 hv hl).s
  rwa [List.getD_eq_getElem?_getD, hi] at this
theorem keys_at {l : List Nat} {o : Option Addr} {w : World} (h : StrsAt o (rKeys l) w) {i : Nat} (hi : i < l.length) : ∃ b off, o = some ⟨b, off, none⟩ ∧ w.cell? ⟨b, off + i, none⟩ = some (.string ((rKeys l).getD i e0)) := by
  have hl : i < (rKeys l).length := by rw [rKeys_len]; exact hi
  have hne : rKeys l ≠ [] := by intro h; rw [h] at hl; simp at hl
  obtain ⟨b, off, h1, h2⟩ := h.resolve_left hne
  exact ⟨b, off, h1, h2 i _ (by rw [List.getD_eq_getElem?_getD, List.getElem?_eq_getElem hl]; rfl)⟩
theorem obuild_route {l : List Nat} (h1 : 1 ≤ l.length) (h20 : l.length ≤ 20) (hv : ∀ v ∈ l, v ≤ 4294967295) (od : Option Addr) (cd : Nat) (oh : Option Addr) (ch : Nat) (w : World) (hD : StrsAt od (rDrawn l) w) (hH : HopsAt oh (rHops l) w) (hL : LibOk w) (hT : Tab w) :
    Calls Tryd.prog 14 #[.slice od l.length cd, .slice oh l.length ch, .string ⟨#[72, 110, 57, 59]⟩] w fun e w' => Below w.heap.size w w' ∧ ∃ g cap, l.length ≤ cap ∧ cap ≤ maxLen ∧ e = .returned (.tuple #[.string (rPk l l.length), .slice (some ⟨g, 0, none⟩) l.length cap, .int .i64 0]) ∧ StrsAt (some ⟨g, 0, none⟩) (rKeys l) w' := by
  have hd : ∀ d ∈ rDrawn l, d.size ≤ maxLen := by
    intro d hd
    obtain ⟨v, hv', rfl⟩ := List.mem_map.1 hd
    have := (name_rt v (by have := hv v hv'; omega)).1.s
    unfold maxLen; omega
  have hb := obuild_any od (rDrawn l) cd oh (rHops l) ch hn9 w (by rw [rDrawn_len]; omega) (by rw [rHops_len]; omega) hD hd hH (by decide) hL hT
  rw [rDrawn_len, rHops_len, build_route h1 h20 hv] at hb
  refine hb.mono fun e w' ⟨b1, v, b2, b3⟩ => ⟨b1, ?_⟩
  dsimp only at b2 b3
  rw [rKeys_len] at b3
  obtain ⟨g, cap, cur, rfl, _, h3, h4, h5, _, h6⟩ := row_cellsG b3 (by omega)
  refine ⟨g, cap, h4, h5, b2, .inr ⟨g, 0, rfl, fun k s hk => ?_⟩⟩
  rw [Nat.zero_add]
  have hkl := (List.getElem?_eq_some_iff.1 hk).1
  rw [rKeys_len] at hkl
  have := h6 k (by omega)
  rw [List.getElem?_map, hk] at this
  simp only [World.cell?, h3]
  simpa using this
set_option maxRecDepth 100000 in
set_option maxHeartbeats 16000000 in
theorem back_any (o : Option Addr) (l : List Nat) (c : Nat) (at_ : Int) (why : ByteArray) (w : World) (hS : NumsAt o l w) (hl : l.length ≤ maxLen) (hw : why.size ≤ maxLen) (ha1 : -9223372036854775808 ≤ at_) (ha2 : at_ ≤ 9223372036854775807) (hL : LibOk w) (hT : Tab w) :
    Calls Tryd.prog 6 #[.slice o l.length c, .int .i64 at_, .string why] w fun e w' => e = .returned (.bool true) ∧ Below w.heap.size w w' := by
  have HW : Hid (∀ W, Below w.heap.size w W → Calls Tryd.prog 12 #[] W fun e w' => e = .returned (.bool true) ∧ Below W.heap.size W w') := fun W hW => works_onion W (hL.below hW) (hT.below hW)
  have HL := Lib.hid hL
  have HT := Lib.hid hT
  have HS := Lib.hid hS
  have hll : (l.length : Int) ≤ 9223372036854775807 := by unfold maxLen at hl; omega
  have hww : (why.size : Int) ≤ 9223372036854775807 := by unfold maxLen at hw; omega
  clear hL hT hS
  by_cases hb : l.length < 1 ∨ 20 < l.length ∨ 1000 < why.size
  · have hb2 : (l.length : Int) < 1 ∨ (20 : Int) < (l.length : Int) ∨ (1000 : Int) < (why.size : Int) := by omega
    have HWR := Lib.hid (HW.out w (Below.refl _ _))
    clear hb
    go_enter Tryd.func6, Tryd.ntmps6
    go_wp2_with (go_at_call 12; (with_reducible refine Calls.mono HWR.out ?_); rintro e w1 ⟨rfl, hb⟩; have B1 := Lib.hid hb; clear hb)
    all_goals
      go_ret
      exact ⟨rfl, B1.out⟩
  · have h1 : 1 ≤ l.length := by omega
    have h20 : l.length ≤ 20 := by omega
    have h1000 : why.size ≤ 1000 := by omega
    have q1 : ¬ (l.length : Int) < 1 := by omega
    have q2 : ¬ (20 : Int) < (l.length : Int) := by omega
    have q3 : ¬ (1000 : Int) < (why.size : Int) := by omega
    have HV := Lib.hid HS.out.small
    have HR : Hid (∀ W, Below w.heap.size w W → Calls Tryd.prog 22 #[.slice o l.length c] W fun e w' => ∃ o1 c1 o2 c2, e = .returned (.tuple #[.slice o1 l.length c1, .slice o2 l.length c2]) ∧ StrsAt o1 (rDrawn l) w' ∧ HopsAt o2 (rHops l) w' ∧ Below W.heap.size W w') := fun W h => route_any o l c W (HS.out.below h) (by omega) (HL.out.below h) (HT.out.below h)
    have HP : Hid (∀ W, Calls Tryd.prog 25 #[.int .i64 at_, .int .i64 (l.length : Int)] W fun e w' => ∃ k : Nat, k < l.length ∧ e = .returned (.int .i64 (k : Int)) ∧ Below W.heap.size W w') := fun W => pick_any at_ l.length W (by omega) (by omega) ha1 ha2
    have hl2 : (l.length : Int) ≤ 20 := by omega
    clear hb
    go_enter Tryd.func6, Tryd.ntmps6
    go_upto_region 8 with (first
      | (go_at_call 22; (with_reducible refine Calls.mono (HR.out _ (Below.refl _ _)) ?_); rintro e w1 ⟨o1, c1, o2, c2, rfl, hd, hh, hb⟩; have B1 := Lib.hid hb; have HB := Lib.hid (obuild_route h1 h20 HV.out o1 c1 o2 c2 w1 hd hh (HL.out.below hb) (HT.out.below hb)); clear hb hd hh)
      | (go_at_call 14; (with_reducible refine Calls.mono HB.out ?_); rintro e w2 ⟨hb, g, cap, hc1, hc2, rfl, hs⟩; have B2 := Lib.hid (B1.out.trans (hb.mono B1.out.size)); have KS := Lib.hid hs; clear hb hs HB)
      | (go_at_call 25; (with_reducible refine Calls.mono (HP.out _) ?_); rintro e w3 ⟨k, hk, rfl, hb⟩; have B3 := Lib.hid (B2.out.trans (hb.mono B2.out.size)); have KS3 := Lib.hid (KS.out.below hb); clear hb))
    have CH := Lib.hid (rd_chain (why := why) h20 HV.out h1000 hk)
    have HK20 := Lib.hid (keys_small h20 HV.out)
    have hki : (k : Int) < (l.length : Int) := by omega
    have KA : Hid (∀ W, StrsAt (some ⟨g, 0, none⟩) (rKeys l) W → ∀ i, i < l.length → W.cell? ⟨g, i, none⟩ = some (.string ((rKeys l).getD i e0))) := fun W h i hi => by
      obtain ⟨b, off, e1, e2⟩ := keys_at h hi
      cases e1
      rwa [Nat.zero_add] at e2
    have kc := KA.out w3 KS3.out k hk
    have HF : Hid (∀ W, Below w.heap.size w W → Calls Tryd.prog 26 #[.string ((rKeys l).getD k e0), .string why] W fun e w' => e = .returned (.tuple #[.string (bkF l why k 0), .int .i64 0]) ∧ Below W.heap.size W w') := fun W h => (ofail_any _ why W (by have := (rKey_rt h20 HV.out hk).s; unfold maxLen; omega) hw (HL.out.below h) (HT.out.below h)).mono fun e w' ⟨a1, a2⟩ => ⟨by rw [a1, (CH.out 0 (Nat.zero_le _)).2.2.2.2.1 rfl]; rfl, a2⟩
    have HWr : Hid (∀ W j, Below w.heap.size w W → j < k → Calls Tryd.prog 27 #[.string ((rKeys l).getD (k - 1 - j) e0), .string (bkF l why k j)] W fun e w' => e = .returned (.tuple #[.string (bkF l why k (j + 1)), .int .i64 0]) ∧ Below W.heap.size W w') := fun W j h hj => (owrap_any _ _ W (by have := (rKey_rt h20 HV.out (i := k - 1 - j) (by omega)).s; unfold maxLen; omega) (by have := (CH.out j (by omega)).2.2.1.s; unfold maxLen; omega) (HL.out.below h)).mono fun e w' ⟨a1, a2⟩ => ⟨by rw [a1, (CH.out (j + 1) (by omega)).2.2.2.2.2 j rfl]; rfl, a2⟩
    have HRd : Hid (∀ W c, Below w.heap.size w W → StrsAt (some ⟨g, 0, none⟩) (rKeys l) W → Calls Tryd.prog 28 #[.slice (some ⟨g, 0, none⟩) l.length c, .string (bkF l why k k)] W fun e w' => e = .returned (.tuple #[.int .i64 (k : Int), .string why, .int .i64 0]) ∧ Below W.heap.size W w') := fun W c h hs => by
      have hc := CH.out k (Nat.le_refl _)
      have h := oread_any (some ⟨g, 0, none⟩) (rKeys l) c (bkF l why k k) W hs (fun s hs => by have := HK20.out s hs; unfold maxLen; omega) (by rw [rKeys_len]; omega) (by have := hc.2.2.1.s; unfold maxLen; omega) (HL.out.below h)
      have e1 := hc.1
      rw [Nat.sub_self, List.drop_zero] at e1
      rwa [e1, rKeys_len] at h
    have HRo : Hid (∀ W c, Below w.heap.size w W → StrsAt (some ⟨g, 0, none⟩) (rKeys l) W → Calls Tryd.prog 28 #[.slice (some ⟨g, 0, none⟩) k c, .string (bkF l why k k)] W fun e w' => e = .returned (.tuple #[.int .i64 0, .string ⟨#[]⟩, .int .i64 220]) ∧ Below W.heap.size W w') := fun W c h hs => by
      have hc := CH.out k (Nat.le_refl _)
      have hkl : ((rKeys l).take k).length = k := by rw [List.length_take, rKeys_len]; omega
      have h := oread_any (some ⟨g, 0, none⟩) ((rKeys l).take k) c (bkF l why k k) W (hs.take k) (fun s hs => by have := HK20.out s (List.mem_of_mem_take hs); unfold maxLen; omega) (by omega) (by have := hc.2.2.1.s; unfold maxLen; omega) (HL.out.below h)
      have e1 := hc.2.1
      rw [Nat.sub_self, List.drop_zero] at e1
      rwa [e1, hkl] at h
    generalize (rKeys l).getD k e0 = kk at kc HF
    clear CH
    go_upto_region 11 with (go_at_call 26; (with_reducible refine Calls.mono (HF.out _ B3.out) ?_); rintro e w4 ⟨rfl, hb⟩; have B4 := Lib.hid (B3.out.trans (hb.mono B3.out.size)); have KS4 := Lib.hid (KS3.out.below hb); clear hb)
    go_wp2_with fail
    go_loopw [13, 15] (fun fv iv wr => ∃ j : Nat, j ≤ k ∧ iv = .int .i64 ((k : Int) - 1 - (j : Int)) ∧ fv = .string (bkF l why k j) ∧ Hid (StrsAt (some ⟨g, 0, none⟩) (rKeys l) wr) ∧ Hid (Below w.heap.size w wr)) (fun _ iv _ => (intOf iv + 1).toNat)
    case atStart => exact ⟨0, Nat.zero_le _, by simp, rfl, KS4.out, B4.out⟩
    case round =>
      obtain ⟨j, hj, rfl, rfl, hKr, hBr⟩ := hrel
      by_cases hlt : j < k
      · have hx : (k : Int) - 1 - (j : Int) = ((k - 1 - j : Nat) : Int) := by omega
        have kc := KA.out wr hKr.out (k - 1 - j) (by omega)
        have HWj : Hid (∀ W, Below w.heap.size w W → Calls Tryd.prog 27 #[.string ((rKeys l).getD (k - 1 - j) e0), .string (bkF l why k j)] W fun e w' => e = .returned (.tuple #[.string (bkF l why k (j + 1)), .int .i64 0]) ∧ Below W.heap.size W w') := fun W h => HWr.out W j h hlt
        generalize (rKeys l).getD (k - 1 - j) e0 = kk2 at kc HWj
        rw [hx]
        obtain ⟨y, hy⟩ : ∃ y : Nat, k - 1 - j = y := ⟨_, rfl⟩
        rw [hy] at kc ⊢
        have hyl : (y : Int) < (l.length : Int) := by omega
        go_wp2_with (go_at_call 27; (with_reducible refine Calls.mono (HWj.out _ hBr.out) ?_); rintro e w5 ⟨rfl, hb⟩; have B5 := Lib.hid (hBr.out.trans (hb.mono hBr.out.size)); have KS5 := Lib.hid (hKr.out.below hb); clear hb)
        go_roundw
        case rel => exact ⟨j + 1, by omega, by congr 1; omega, rfl, KS5.out, B5.out⟩
        case measure => first | (simp [intOf]; done) | (simp [intOf]; omega)
      · obtain rfl : j = k := by omega
        rw [show (j : Int) - 1 - (j : Int) = -1 by omega]
        have hj0 : (0 : Int) ≤ (j : Int) := by omega
        have hjc : (j : Int) ≤ (cap : Int) := by omega
        have hcm : (cap : Int) ≤ 9223372036854775807 := by unfold maxLen at hc2; omega
        go_wp2_with (first
          | (go_at_call 28; (with_reducible refine Calls.mono (HRd.out _ _ hBr.out hKr.out) ?_); rintro e w6 ⟨rfl, hb⟩; have B6 := Lib.hid (hBr.out.trans (hb.mono hBr.out.size)); have KS6 := Lib.hid (hKr.out.below hb); clear hb)
          | (go_at_call 28; (with_reducible refine Calls.mono (HRo.out _ _ B6.out KS6.out) ?_); rintro e w7 ⟨rfl, hb⟩; have B7 := Lib.hid (B6.out.trans (hb.mono B6.out.size)); clear hb)
          | (go_at_call 12; (with_reducible refine Calls.mono (HW.out _ B7.out) ?_); rintro e w8 ⟨rfl, hb⟩; have B8 := Lib.hid (B7.out.trans (hb.mono B7.out.size)); clear hb))
        go_ret
        exact ⟨rfl, B8.out⟩
end Go.Proofs.YtbdimlppnhcicaaDoor
