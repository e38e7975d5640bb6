/- the document's Build, walked -/
import Derived.Test.YtbdimlppnhcicaaGreatDoorOnG
import Derived.Test.YtbdimlppnhcicaaGreatDoorBldH
namespace Go.Proofs.YtbdimlppnhcicaaGreatDoor
set_option linter.unusedVariables false
open Go.RowKit
/-! onion: the document's Build, walked -/
structure StK (w0 : World) (kb : Nat) (ks : Array Value) (W : World) : Prop where
  bel : Below w0.heap.size w0 W
  k : W.heap[kb]? = some (.cells ks 23 (0, 0))
  hk : w0.heap.size ≤ kb
theorem StK.next {w0 W W' : World} {kb : Nat} {ks : Array Value} (h : StK w0 kb ks W) (hb : Below W.heap.size W W') : StK w0 kb ks W' :=
  ⟨h.bel.trans (hb.mono h.bel.size), (hb.block kb (lt_of_heap h.k)).trans h.k, h.hk⟩
theorem StK.put {w0 W : World} {kb : Nat} {ks : Array Value} (h : StK w0 kb ks W) (j : Nat) (v : Value) : StK w0 kb (ks.setIfInBounds j v) (W.setCell ⟨kb, j, none⟩ v) :=
  ⟨h.bel.setCell (p := ⟨kb, j, none⟩) h.hk _, heap_setCell_same _ kb j _ 23 _ h.k, h.hk⟩
def KD (drawn : List ByteArray) (hs : List Hp) (pay : ByteArray) (w : World) (kb : Nat) (k : Nat) (pv : Value) (W : World) : Prop :=
  ∃ p ks C, pv = .string p ∧ goB drawn hs pay k = some (p, ks) ∧ C.toList = keyRow hs.length ks ∧ StK w kb C W
set_option maxRecDepth 100000 in
set_option maxHeartbeats 16000000 in
theorem dbuild_any (od : Option Addr) (drawn : List ByteArray) (cd : Nat) (oh : Option Addr) (hs : List Hp) (ch : Nat) (pay : ByteArray) (w : World)
    (hdl : drawn.length ≤ 9223372036854775807) (hhl : hs.length ≤ 9223372036854775807) (hD : StrsAt od drawn w) (hds : ∀ d ∈ drawn, d.size ≤ maxLen) (hH : HopsAt oh hs w) (hp : pay.size ≤ maxLen) :
    Calls Tryz.prog 153 #[.slice od drawn.length cd, .slice oh hs.length ch, .string pay] w (BuildPost (buildR drawn hs pay) w) := by
  by_cases h0 : hs.length = 0 ∨ 20 < hs.length ∨ drawn.length ≠ hs.length
  · have HR : Hid (buildR drawn hs pay = (⟨#[]⟩, [], 2)) := by show _ = _; unfold buildR; rw [if_pos h0]
    clear hD hds hH
    by_cases h1 : hs.length = 0
    · have h1i : (hs.length : Int) < 1 := by omega
      clear h0 h1
      go_enter Tryz.func153, Tryz.ntmps153
      go_wp2_with fail
      go_ret3
      exact build_err HR.out rfl (Below.refl _ _)
    have h1i : (1 : Int) ≤ (hs.length : Int) := by omega
    have q1 := decN ((hs.length : Int) < 1) (by omega)
    by_cases h2 : 20 < hs.length
    · have h2i : (20 : Int) < (hs.length : Int) := by omega
      clear h0 h1 h2
      go_enter Tryz.func153, Tryz.ntmps153
      go_wp2_with fail
      go_ret3
      exact build_err HR.out rfl (Below.refl _ _)
    · have h2i : (hs.length : Int) ≤ 20 := by omega
      have q2 := decN (20 < (hs.length : Int)) (by omega)
      have h3i : ((drawn.length : Int) != (hs.length : Int)) = true := by simp; omega
      have h4i : ((drawn.length : Int) == (hs.length : Int)) = false := by simp; omega
      clear h0 h1 h2
      go_enter Tryz.func153, Tryz.ntmps153
      go_wp2_with fail
      go_ret3
      exact build_err HR.out rfl (Below.refl _ _)
  have HB0 : Hid (∀ r, (if hopsE drawn hs ≠ 0 then (⟨#[]⟩, [], hopsE drawn hs) else if rt pay = false then (⟨#[]⟩, [], 10) else match goB drawn hs pay hs.length with
    | none => ((⟨#[]⟩ : ByteArray), ([] : List ByteArray), (3 : Int))
    | some (p, ks) => (p, ks, 0)) = r → buildR drawn hs pay = r) := fun r h => by unfold buildR; rw [if_neg h0]; exact h
  have hn1 : 0 < hs.length := by omega
  have hn20 : hs.length ≤ 20 := by omega
  have hdn : drawn.length = hs.length := by omega
  have h1i : (1 : Int) ≤ (hs.length : Int) := by omega
  have q1 := decN ((hs.length : Int) < 1) (by omega)
  have h2i : (hs.length : Int) ≤ 20 := by omega
  have q2 := decN (20 < (hs.length : Int)) (by omega)
  rw [hdn] at hdl ⊢
  have HD := Lib.hid hD
  have HH := Lib.hid hH
  have HDS := Lib.hid hds
  have HDN := Lib.hid hdn
  have hrp : Hid (∀ W, Calls Tryz.prog 70 #[.string pay] W fun e w' => e = .returned (.bool (rt pay)) ∧ Below W.heap.size W w') := fun W => rright_any pay W hp
  clear hD hH hds hdn h0 hdl hhl
  obtain ⟨R, hR⟩ : ∃ R, buildR drawn hs pay = R := ⟨_, rfl⟩
  rw [hR] at HB0 ⊢
  clear hR
  go_enter Tryz.func153, Tryz.ntmps153
  go_wp2_with fail
  go_loopw [9] (fun iv wr => ∃ j : Nat, j ≤ hs.length ∧ iv = .int .i64 j ∧ Hid (Below w.heap.size w wr) ∧ Hid (∀ k, k < j → hopAt drawn hs k = 0)) (fun iv _ => hs.length - (intOf iv).toNat)
  case atStart => exact ⟨0, Nat.zero_le _, rfl, Below.refl _ _, fun k hk => absurd hk (Nat.not_lt_zero k)⟩
  case round =>
    obtain ⟨j, hj, rfl, hB, hZ⟩ := hrel
    have hBs := hB.out.size
    by_cases hlt : j < hs.length
    · obtain ⟨bd, fd, d, rfl, hd, d0⟩ := drawn_at (HD.out.below hB.out) (show j < drawn.length by rw [HDN.out]; exact hlt)
      obtain ⟨bh, fh, h, rfl, hh, hc1, hc2, a0, a1, a2, a3⟩ := hops_cells (HH.out.below hB.out) hlt
      have hji : (j : Int) < (hs.length : Int) := by omega
      obtain ⟨fb, hfb⟩ : ∃ fb, ((j : Int) == 0) = fb := ⟨_, rfl⟩
      have HE : Hid (hopE h fb d = hopAt drawn hs j) := by
        show _ = _
        unfold hopAt
        rw [getD_of hh, getDS_of hd, ← hfb]
        congr 1
        rw [Bool.eq_iff_iff, beq_iff_eq, beq_iff_eq]; omega
      have hdsz := HDS.out d (List.mem_of_getElem? hd)
      obtain ⟨cn, nd, am, ex⟩ := h
      simp only at hc1 hc2 a0 a1 a2 a3 HE
      obtain ⟨E, hE⟩ : ∃ E, hopAt drawn hs j = E := ⟨_, rfl⟩
      rw [hE] at HE
      have HEE := Lib.hid hE
      have HWL : Hid (∀ n : Later wr, Calls Tryz.prog 178 #[.agg #[.string cn, .string nd, .int .i64 am, .int .i64 ex], .bool fb, .string d] n.at_ fun e w' => e = .returned (.int .i64 E) ∧ Below n.at_.heap.size n.at_ w') := fun n => by
        have := dhop_any cn nd am ex fb d n.at_ hc1 hc2 hdsz
        rw [HE.out] at this
        exact this
      clear hE hc1 hc2 hdsz hh hd
      replace a0 := Later.cell a0; replace a1 := Later.cell a1; replace a2 := Later.cell a2; replace a3 := Later.cell a3; replace d0 := Later.cell d0
      go_upto_region 6 with fail
      refine wp_region_later (by kernel_rfl) (by kernel_rfl) ?_
      repeat (go_big_quiet_step ((go_at_call 178; exact calls_later (HWL.out _))))
      refine wpQuiet_nil ?_
      intro _ hw'
      obtain ⟨nq, rfl⟩ := hw'
      have B6 := Lib.hid (hB.out.trans (nq.below.mono hBs))
      clear a0 a1 a2 a3 d0
      generalize nq.at_ = w6 at B6 ⊢
      by_cases he : E = 0
      · subst he
        go_wp2_with fail
        go_roundw
        case rel =>
          refine ⟨j + 1, by omega, by go_num, B6, fun k hk => ?_⟩
          by_cases hkj : k = j
          · subst hkj; exact HEE.out
          · exact hZ.out k (by omega)
        case measure => simp [intOf]; omega
      · have e1 : (E != 0) = true := by simpa using he
        have e2 : (E == 0) = false := by simpa using he
        have HR : Hid (R = (⟨#[]⟩, [], E)) := by
          refine HB0.out _ ?_
          have hx : hopsE drawn hs = E := by
            rw [← HEE.out]
            exact hopsF_at hs.length 0 j (Nat.zero_le _) (by omega) (fun k _ hk => hZ.out k hk) (by rw [HEE.out]; exact he)
          rw [hx, if_pos he]
        clear he
        go_wp2_with fail
        go_ret3
        exact build_err HR.out rfl B6.out
    · obtain rfl : j = hs.length := by omega
      have HB1 : Hid (∀ r, (if rt pay = false then (⟨#[]⟩, [], 10) else match goB drawn hs pay hs.length with
        | none => ((⟨#[]⟩ : ByteArray), ([] : List ByteArray), (3 : Int))
        | some (p, ks) => (p, ks, 0)) = r → R = r) := fun r h => HB0.out r (by
          rw [if_neg (by rw [show hopsE drawn hs = 0 from hopsF_no hs.length 0 (fun k _ hk => hZ.out k (by omega))]; simp)]; exact h)
      have HOK : Hid (∀ h ∈ hs, HpOk h) := fun h hh => by
        obtain ⟨k, hk⟩ := List.mem_iff_getElem?.1 hh
        have hkl := (List.getElem?_eq_some_iff.1 hk).1
        have := hZ.out k hkl
        unfold hopAt at this
        rw [getD_of hk] at this
        exact hopE_ok this
      clear HB0 hZ
      cases hr : rt pay with
      | false =>
        rw [hr] at hrp
        have HR := Lib.hid (HB1.out _ (by rw [if_pos hr]))
        clear hr
        go_wp2_with (go_at_call 70; (with_reducible refine Calls.mono (hrp.out _) ?_); rintro e w7 ⟨rfl, hb⟩; have B7 := Lib.hid (hB.out.trans (hb.mono hBs)); clear hb)
        go_ret3
        exact build_err HR.out rfl B7.out
      | true =>
        rw [hr] at hrp
        have HB2 : Hid (∀ r, (match goB drawn hs pay hs.length with
          | none => ((⟨#[]⟩ : ByteArray), ([] : List ByteArray), (3 : Int))
          | some (p, ks) => (p, ks, 0)) = r → R = r) := fun r h => HB1.out r (by rw [if_neg (by rw [hr]; decide)]; exact h)
        clear hr HB1
        obtain ⟨C, hC, hmk⟩ := make_strs hs.length (by omega)
        go_upto_region 13 with (go_at_call 70; (with_reducible refine Calls.mono (hrp.out _) ?_); rintro e w7 ⟨rfl, hb⟩; have B7 := Lib.hid (hB.out.trans (hb.mono hBs)); clear hb)
        have HS0 : Hid (StK w w7.heap.size C (w7.alloc (.cells C 23))) := ⟨B7.out.alloc B7.out.size _, heap_alloc_at _ _, B7.out.size⟩
        generalize w7.alloc (.cells C 23) = w8 at HS0 ⊢
        generalize w7.heap.size = kb at HS0 ⊢
        have HC0 := Lib.hid hC
        clear hC hmk
        go_wp2_with fail
        go_loopw [11, 13] (fun pv iv wr => ∃ (k : Nat) (iz : Int), k ≤ hs.length ∧ iv = .int .i64 iz ∧ iz = (hs.length : Int) - 1 - (k : Int) ∧ Hid (KD drawn hs pay w kb k pv wr)) (fun _ iv _ => ((intOf iv) + 1).toNat)
        case atStart => exact ⟨0, _, Nat.zero_le _, rfl, by omega, ⟨_, [], C, rfl, rfl, by rw [HC0.out]; unfold keyRow; simp, HS0.out⟩⟩
        case round =>
          obtain ⟨k, iz, hk, rfl, hiz, hKB⟩ := hrel
          obtain ⟨p, ks, CC, rfl, hgo, hrow, hst⟩ := hKB.out
          have HST := Lib.hid hst
          have HGO := Lib.hid hgo
          have HROW := Lib.hid hrow
          have hkl := goB_len hgo
          have HPL := Lib.hid (goB_le hgo)
          clear hgo hrow hst hKB
          by_cases hkn : k < hs.length
          case neg =>
            obtain rfl : k = hs.length := by omega
            have hz0 : iz < 0 := by omega
            have HR : Hid (R = (p, ks, 0)) := HB2.out _ (by rw [HGO.out])
            have HIZ := Lib.hid hiz
            have HKL := Lib.hid hkl
            clear hiz hkl
            go_wp2_with fail
            go_ret3
            refine ⟨HST.out.bel, .slice (some ⟨kb, 0, none⟩) hs.length hs.length, by rw [HR.out]; rfl, ?_⟩
            rw [HR.out]
            show wr.ownsRow w.heap.size 23 1 _ ks.length (ks.map .string)
            have hsz := keyRow_size HROW.out (by rw [HKL.out]; exact Nat.le_refl _)
            refine ⟨by rw [List.length_map, Nat.mul_one], .inr ⟨kb, hs.length, CC, by rw [HKL.out], HST.out.hk, HST.out.k, by rw [HKL.out]; exact Nat.le_refl _, by unfold maxLen; omega, by rw [hsz, Nat.mul_one], ?_⟩⟩
            rw [HROW.out]
            unfold keyRow
            rw [HKL.out, Nat.sub_self, List.replicate_zero, List.nil_append, Nat.mul_one, List.take_of_length_le (by rw [List.length_map, HKL.out]; exact Nat.le_refl _)]
          obtain ⟨i, hi⟩ : ∃ i, i = hs.length - 1 - k := ⟨_, rfl⟩
          obtain rfl : iz = (i : Int) := by omega
          have hin : i < hs.length := by omega
          have hii : (i : Int) < (hs.length : Int) := by omega
          have hii0 : (0 : Int) ≤ (i : Int) := by omega
          have HI := Lib.hid hi
          have HKL := Lib.hid hkl
          have HKN := Lib.hid hkn
          have hcsz : CC.size = hs.length := keyRow_size HROW.out (by rw [HKL.out]; exact hk)
          clear hiz hi hkl
          have HPY : Hid (∀ W, Below w.heap.size w W → Calls Tryz.prog 179 #[.slice oh hs.length ch, .int .i64 i, .string pay] W fun e w' => e = .returned (pv (payP hs pay i)) ∧ Below W.heap.size W w') := fun W hW => dpay_any oh hs ch i pay W hin hn20 (HH.out.below hW) HOK.out hp
          obtain ⟨bd, fd, d, rfl, hd, d0⟩ := drawn_at HD.out (show i < drawn.length by rw [HDN.out]; exact hin)
          obtain ⟨bh, fh, h, rfl, hh, hc1, hc2, a0, a1, a2, a3⟩ := hops_cells HH.out hin
          have D0 := Lib.hid d0
          have A1 := Lib.hid a1
          have HDX := Lib.hid (getDS_of hd)
          have HHX := Lib.hid (getD_of hh)
          have hdsz := HDS.out d (List.mem_of_getElem? hd)
          have hnsz : h.node.size ≤ maxLen := hc2
          obtain ⟨pl, hpl⟩ : ∃ x, payP hs pay i = x := ⟨_, rfl⟩
          obtain ⟨ky, hky⟩ : ∃ x, agreeP d h.node = x := ⟨_, rfl⟩
          obtain ⟨tp, htp⟩ : ∃ x, tupleP [pl.1, p] = x := ⟨_, rfl⟩
          obtain ⟨bx, hbx⟩ : ∃ x, buildP ⟨#[66]⟩ [ky.1, tp.1] = x := ⟨_, rfl⟩
          obtain ⟨pb, hpb⟩ : ∃ x, pubP d = x := ⟨_, rfl⟩
          obtain ⟨al, hal⟩ : ∃ x, tupleP [pb.1, bx.1] = x := ⟨_, rfl⟩
          have HRND : Hid (rnd drawn hs pay i p = ⟨al.1, ky.1, bad6 pl.2 ky.2 tp.2 bx.2 pb.2 al.2⟩) := by
            show _ = _
            unfold rnd
            simp only [hpl, HDX.out, HHX.out, hky, htp, hbx, hpb, hal]
          have HPLS : Hid (pl.1.size ≤ 16384) := by rw [← hpl]; exact tupleP_le _
          have HKS : Hid (ky.1.size ≤ 16384) := by rw [← hky]; exact agreeP_le _ _
          have HTS : Hid (tp.1.size ≤ 16384) := by rw [← htp]; exact tupleP_le _
          have HXS : Hid (bx.1.size ≤ 16384) := by rw [← hbx]; exact buildP_le _ _
          have HPS : Hid (pb.1.size ≤ 16384) := by rw [← hpb]; exact pubP_le _
          rw [hpl] at HPY
          unfold pv at HPY
          have HT2 : Hid (∀ W o c, StrsAt o [pl.1, p] W → Calls Tryz.prog 72 #[.slice o 2 c] W fun y w' => y = .returned (.tuple #[.string tp.1, .int .i64 tp.2]) ∧ Below W.heap.size W w') := fun W o c hS => by
            have := rtuple_any o [pl.1, p] 2 c W rfl (by
              intro v hv
              simp only [List.mem_cons, List.not_mem_nil, or_false] at hv
              rcases hv with rfl | rfl
              · exact lt_max HPLS.out
              · exact lt_max HPL.out) hS
            rw [tupleV_P, htp] at this
            exact this
          have HAG : Hid (∀ W, Calls Tryz.prog 180 #[.string d, .string h.node] W fun y w' => y = .returned (.tuple #[.string ky.1, .int .i64 ky.2]) ∧ Below W.heap.size W w') := fun W => by
            have := ragree_any d h.node W hnsz hdsz
            rw [agreeV_P, hky] at this
            exact this
          have HBX : Hid (∀ W, Calls Tryz.prog 74 #[.int .u8 66, .string ky.1, .string tp.1] W fun y w' => y = .returned (.tuple #[.string bx.1, .int .i64 bx.2]) ∧ Below W.heap.size W w') := fun W => by
            have : Calls Tryz.prog 74 #[.int .u8 66, .string ky.1, .string tp.1] W fun y w' => y = .returned (buildV ⟨#[66]⟩ [ky.1, tp.1]) ∧ Below W.heap.size W w' := rtwo_any 66 ky.1 tp.1 W (lt_max HKS.out) (lt_max HTS.out)
            rw [buildV_P, hbx] at this
            exact this
          have HPB : Hid (∀ W, Calls Tryz.prog 181 #[.string d] W fun y w' => y = .returned (.tuple #[.string pb.1, .int .i64 pb.2]) ∧ Below W.heap.size W w') := fun W => by
            have := rpub_any d W hdsz
            rw [pubV_P, hpb] at this
            exact this
          have HT6 : Hid (∀ W o c, StrsAt o [pb.1, bx.1] W → Calls Tryz.prog 72 #[.slice o 2 c] W fun y w' => y = .returned (.tuple #[.string al.1, .int .i64 al.2]) ∧ Below W.heap.size W w') := fun W o c hS => by
            have := rtuple_any o [pb.1, bx.1] 2 c W rfl (by
              intro v hv
              simp only [List.mem_cons, List.not_mem_nil, or_false] at hv
              rcases hv with rfl | rfl
              · exact lt_max HPS.out
              · exact lt_max HXS.out) hS
            rw [tupleV_P, hal] at this
            exact this
          have KP : Hid (∀ W, Below w.heap.size w W → W.cell? ⟨bd, fd + i, none⟩ = some (.string d) ∧ W.cell? ⟨bh, fh + i * 4 + 1, none⟩ = some (.string h.node)) := fun W hW => ⟨cell_later hW D0.out, cell_later hW A1.out⟩
          clear hpl hky htp hbx hpb hal hdsz hnsz hc1 hc2 a0 a1 a2 a3 d0 hd hh
          go_upto_region 18 with (first
            | (go_at_call 72; (with_reducible refine Calls.mono (HT2.out _ _ _ (strs_two _ _ _)) ?_); rintro y wb ⟨rfl, hb⟩; have S2 := Lib.hid (S1.out.next ((below_new' wa _).trans (hb.mono (by simp)))); clear hb)
            | (go_at_call 179; (with_reducible refine Calls.mono (HPY.out _ HST.out.bel) ?_); rintro y wa ⟨rfl, hb⟩; have S1 := Lib.hid (HST.out.next hb); clear hb))
          obtain ⟨q0, q1⟩ := KP.out _ S2.out.bel
          replace q0 := Later.cell q0; replace q1 := Later.cell q1
          have HAL : Hid (∀ n : Later wb, Calls Tryz.prog 180 #[.string d, .string h.node] n.at_ fun y w' => y = .returned (.tuple #[.string ky.1, .int .i64 ky.2]) ∧ Below n.at_.heap.size n.at_ w') := fun n => HAG.out _
          refine wp_region_later (by kernel_rfl) (by kernel_rfl) ?_
          repeat (go_big_quiet_step ((go_at_call 180; exact calls_later (HAL.out _))))
          refine wpQuiet_nil ?_
          intro _ hw'
          obtain ⟨nq, rfl⟩ := hw'
          have S3 := Lib.hid (S2.out.next nq.below)
          clear q0 q1 HAL
          generalize nq.at_ = wc at S3 ⊢
          go_upto_region 20 with (go_at_call 74; (with_reducible refine Calls.mono (HBX.out _) ?_); rintro y wd ⟨rfl, hb⟩; have S4 := Lib.hid (S3.out.next hb); clear hb)
          have q0 := (KP.out _ S4.out.bel).1
          go_upto_region 22 with (first
            | (go_at_call 72; (with_reducible refine Calls.mono (HT6.out _ _ _ (strs_two _ _ _)) ?_); rintro y wf ⟨rfl, hb⟩; have S6 := Lib.hid (S5.out.next ((below_new' we _).trans (hb.mono (by simp)))); clear hb)
            | (go_at_call 181; (with_reducible refine Calls.mono (HPB.out _) ?_); rintro y we ⟨rfl, hb⟩; have S5 := Lib.hid (S4.out.next hb); clear hb))
          clear q0
          have hidx : Hid (hs.length - 1 - k = i) := HI.out.symm
          have BADR : Hid (bad6 pl.2 ky.2 tp.2 bx.2 pb.2 al.2 = true → R = (⟨#[]⟩, [], 3)) := fun hbd => HB2.out _ (by
            rw [goB_bad HGO.out (by rw [hidx.out, HRND.out]; exact hbd) HKN.out])
          by_cases z1 : pl.2 = 0
          case neg =>
            have HR := Lib.hid (BADR.out (by unfold bad6; simp [z1]))
            have e1 : (pl.2 != 0) = true := by simpa using z1
            have e2 : (pl.2 == 0) = false := by simpa using z1
            clear z1
            go_wp2_with fail
            go_ret3
            exact build_err HR.out rfl S6.out.bel
          have f1 : (pl.2 != 0) = false := by simpa using z1
          by_cases z2 : tp.2 = 0
          case neg =>
            have HR := Lib.hid (BADR.out (by unfold bad6; simp [z2]))
            have e1 : (tp.2 != 0) = true := by simpa using z2
            have e2 : (tp.2 == 0) = false := by simpa using z2
            clear z2
            go_wp2_with fail
            go_ret3
            exact build_err HR.out rfl S6.out.bel
          have f2 : (tp.2 != 0) = false := by simpa using z2
          by_cases z3 : ky.2 = 0
          case neg =>
            have HR := Lib.hid (BADR.out (by unfold bad6; simp [z3]))
            have e1 : (ky.2 != 0) = true := by simpa using z3
            have e2 : (ky.2 == 0) = false := by simpa using z3
            clear z3
            go_wp2_with fail
            go_ret3
            exact build_err HR.out rfl S6.out.bel
          have f3 : (ky.2 != 0) = false := by simpa using z3
          by_cases z4 : bx.2 = 0
          case neg =>
            have HR := Lib.hid (BADR.out (by unfold bad6; simp [z4]))
            have e1 : (bx.2 != 0) = true := by simpa using z4
            have e2 : (bx.2 == 0) = false := by simpa using z4
            clear z4
            go_wp2_with fail
            go_ret3
            exact build_err HR.out rfl S6.out.bel
          have f4 : (bx.2 != 0) = false := by simpa using z4
          by_cases z5 : pb.2 = 0
          case neg =>
            have HR := Lib.hid (BADR.out (by unfold bad6; simp [z5]))
            have e1 : (pb.2 != 0) = true := by simpa using z5
            have e2 : (pb.2 == 0) = false := by simpa using z5
            clear z5
            go_wp2_with fail
            go_ret3
            exact build_err HR.out rfl S6.out.bel
          have f5 : (pb.2 != 0) = false := by simpa using z5
          by_cases z6 : al.2 = 0
          case neg =>
            have HR := Lib.hid (BADR.out (by unfold bad6; simp [z6]))
            have e1 : (al.2 != 0) = true := by simpa using z6
            have e2 : (al.2 == 0) = false := by simpa using z6
            clear z6
            go_wp2_with fail
            go_ret3
            exact build_err HR.out rfl S6.out.bel
          have f6 : (al.2 != 0) = false := by simpa using z6
          have GOOD : Hid (goB drawn hs pay (k + 1) = some (al.1, ky.1 :: ks)) := by
            show _ = _
            have h1 := goB_next HGO.out (by rw [hidx.out, HRND.out]; show bad6 _ _ _ _ _ _ = false; unfold bad6; simp [z1, z2, z3, z4, z5, z6])
            rw [hidx.out, HRND.out] at h1
            exact h1
          clear z1 z2 z3 z4 z5 z6
          have hci : ∃ x, wf.cell? ⟨kb, i, none⟩ = some x := ⟨CC[i]'(by omega), by rw [cell_of_row _ _ _ _ _ _ S6.out.k]; exact Array.getElem?_eq_getElem _⟩
          obtain ⟨x, cx⟩ := hci
          have fx := frozen_of_row _ _ i _ _ S6.out.k
          have HROW2 : Hid ((CC.setIfInBounds i (Value.string ky.1)).toList = keyRow hs.length (ky.1 :: ks)) := by
            show _ = _
            have := keyRow_put HROW.out (by rw [HKL.out]; exact HKN.out) ky.1
            rwa [show hs.length - 1 - ks.length = i by rw [HKL.out]; exact HI.out.symm] at this
          clear hcsz
          go_wp2_with fail
          go_roundw
          case rel => exact ⟨k + 1, (i : Int) - 1, by have := HKN.out; omega, by first | rfl | go_num, by have := HI.out; have := HKN.out; omega, ⟨_, _, _, rfl, GOOD.out, HROW2.out, S6.out.put _ _⟩⟩
          case measure => (simp [intOf] <;> omega)
end Go.Proofs.YtbdimlppnhcicaaGreatDoor
