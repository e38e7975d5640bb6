/- onion: Build, walked -/
import Derived.Test.YtbdimlppnhcicaaGreatDoorOnF
import Derived.Laws.MakeOwn
import Derived.Laws.OwnMore
import Derived.Deep.RegionHeld3
namespace Go.Proofs.YtbdimlppnhcicaaGreatDoor
set_option linter.unusedVariables false
open Go.RowKit
/-! onion: Build, walked -/
theorem getDS_of {l : List ByteArray} {k : Nat} {s : ByteArray} (h : l[k]? = some s) : l.getD k ⟨#[]⟩ = s := by rw [List.getD_eq_getElem?_getD, h]; rfl
/-- a drawn secret's cell, a hop's cells -/
theorem drawn_at {od : Option Addr} {drawn : List ByteArray} {w : World} (hD : StrsAt od drawn w) {i : Nat} (hi : i < drawn.length) : ∃ b off s, od = some ⟨b, off, none⟩ ∧ drawn[i]? = some s ∧ w.cell? ⟨b, off + i, none⟩ = some (.string s) := by
  obtain ⟨s, hs⟩ : ∃ s, drawn[i]? = some s := ⟨_, List.getElem?_eq_getElem hi⟩
  obtain ⟨b, off, h1, h2⟩ := hD.resolve_left (by intro h; rw [h] at hi; simp at hi)
  exact ⟨b, off, s, h1, hs, h2 i s hs⟩
theorem hop_at {oh : Option Addr} {hs : List Hp} {w : World} (hH : HopsAt oh hs w) {i : Nat} (hi : i < hs.length) : ∃ b off h, oh = some ⟨b, off, none⟩ ∧ hs[i]? = some h ∧ w.rangeAt b (off + i * 4) h.cells ∧ h.chan.size ≤ maxLen ∧ h.node.size ≤ maxLen := by
  obtain ⟨h, hh⟩ : ∃ h, hs[i]? = some h := ⟨_, List.getElem?_eq_getElem hi⟩
  obtain ⟨b, off, h1, h2⟩ := hH.resolve_left (by intro h; rw [h] at hi; simp at hi)
  exact ⟨b, off, h, h1, hh, h2 i h hh⟩
theorem hops_cells {oh : Option Addr} {hs : List Hp} {w : World} (hH : HopsAt oh hs w) {i : Nat} (hi : i < hs.length) : ∃ b off h, oh = some ⟨b, off, none⟩ ∧ hs[i]? = some h ∧ h.chan.size ≤ maxLen ∧ h.node.size ≤ maxLen ∧ w.cell? ⟨b, off + i * 4, none⟩ = some (.string h.chan) ∧ w.cell? ⟨b, off + i * 4 + 1, none⟩ = some (.string h.node) ∧ w.cell? ⟨b, off + i * 4 + 2, none⟩ = some (.int .i64 h.amt) ∧ w.cell? ⟨b, off + i * 4 + 3, none⟩ = some (.int .i64 h.exp) := by
  obtain ⟨b, off, h, h1, h2, hr, h3, h4⟩ := hop_at hH hi
  exact ⟨b, off, h, h1, h2, h3, h4, hr 0 _ rfl, hr 1 _ rfl, hr 2 _ rfl, hr 3 _ rfl⟩
theorem Try.info24 : (Tryz.prog.info? 23).map (fun i => (i.zero, i.size, i.bytes)) = some (some (.string ⟨#[]⟩), 1, 16) := by kernel_rfl
theorem make_strs (n : Nat) (hn : n ≤ 10000) : ∃ C : Array Value, C.toList = List.replicate n (.string ⟨#[]⟩) ∧ ∀ w : World, (Instr.makeSlice 22 (.int .i64 (n : Int)) (.int .i64 (n : Int))).run Tryz.prog w = .ok (.slice (some ⟨w.heap.size, 0, none⟩) n n) (w.alloc (.cells C 23)) := by
  refine ⟨madeCells (Value.string ⟨#[]⟩).cells n, by rw [show (Value.string ⟨#[]⟩).cells = #[Value.string ⟨#[]⟩] from rfl, toList_madeCells_one], fun w => ?_⟩
  obtain ⟨i0, hi0, hz0, hz1, hz2⟩ := info_parts Try.info24
  have h := run_make (P := Tryz.prog) w 22 23 i0 (.string ⟨#[]⟩) Tryz.underlying22 hi0 hz0 .i64 .i64 (n : Int) (n : Int) (by omega) (by omega) (by rw [hz2]; omega) (by omega)
  rw [hz1, Nat.mul_one] at h
  simpa using h
/-- the keys' row as it is filled -/
def keyRow (n : Nat) (ks : List ByteArray) : List Value := List.replicate (n - ks.length) (Value.string ⟨#[]⟩) ++ ks.map .string
theorem keyRow_put {n : Nat} {ks : List ByteArray} {C : Array Value} (h : C.toList = keyRow n ks) (hl : ks.length < n) (s : ByteArray) : (C.setIfInBounds (n - 1 - ks.length) (.string s)).toList = keyRow n (s :: ks) := by
  rw [Array.toList_setIfInBounds, h]
  unfold keyRow
  rw [List.length_cons, List.map_cons, show n - ks.length = (n - (ks.length + 1)) + 1 by omega, List.replicate_succ', List.append_assoc, List.set_append_right _ _ (by rw [List.length_replicate]; omega), List.length_replicate, show n - 1 - ks.length - (n - (ks.length + 1)) = 0 by omega]
  rfl
theorem keyRow_size {n : Nat} {ks : List ByteArray} {C : Array Value} (h : C.toList = keyRow n ks) (hl : ks.length ≤ n) : C.size = n := by
  have := congrArg List.length h
  unfold keyRow at this
  rw [List.length_append, List.length_replicate, List.length_map, Array.length_toList] at this
  omega
/-- how the second loop stands -/
def KB (drawn : List ByteArray) (hs : List Hp) (pay : ByteArray) (w : World) (mb kb : Nat) (k : Nat) (pv : Value) (W : World) : Prop :=
  (∃ p ks C, pv = .string p ∧ goB drawn hs pay k = some (p, ks) ∧ C.toList = keyRow hs.length ks ∧ StC w mb kb false C W) ∨
  (∃ p C, pv = .string p ∧ goB drawn hs pay hs.length = none ∧ StC w mb kb true C W)
set_option maxRecDepth 100000 in
set_option maxHeartbeats 16000000 in
theorem obuild_any (od : Option Addr) (drawn : List ByteArray) (cd : Nat) (oh : Option Addr) (hs : List Hp) (ch : Nat) (pay : ByteArray) (w : World)
    (hdl : drawn.length ≤ 9223372036854775807) (hhl : hs.length ≤ 9223372036854775807) (hD : StrsAt od drawn w) (hds : ∀ d ∈ drawn, d.size ≤ maxLen) (hH : HopsAt oh hs w) (hp : pay.size ≤ maxLen) (hL : LibOk w) (hT : Tab w) :
    Calls Tryz.prog 54 #[.slice od drawn.length cd, .slice oh hs.length ch, .string pay] w (BuildPost (buildR drawn hs pay) w) := by
  by_cases h0 : hs.length = 0 ∨ 20 < hs.length ∨ drawn.length ≠ hs.length
  · have HR : Hid (buildR drawn hs pay = (⟨#[]⟩, [], 2)) := by show _ = _; unfold buildR; rw [if_pos h0]
    clear hD hds hH hL hT
    by_cases h1 : hs.length = 0
    · have h1i : ((hs.length : Int) == 0) = true := by simp [h1]
      clear h0 h1
      go_enter Tryz.func54, Tryz.ntmps54
      go_wp2_with fail
      go_ret3
      exact build_err HR.out rfl (Below.refl _ _)
    have h1i : ((hs.length : Int) == 0) = false := beq_eq_false_iff_ne.2 (by omega)
    by_cases h2 : 20 < hs.length
    · have h2i : (20 : Int) < (hs.length : Int) := by omega
      clear h0 h1 h2
      go_enter Tryz.func54, Tryz.ntmps54
      go_wp2_with fail
      go_ret3
      exact build_err HR.out rfl (Below.refl _ _)
    · have h2i : (hs.length : Int) ≤ 20 := by omega
      have q2 := decN (20 < (hs.length : Int)) (by omega)
      have h3i : ((drawn.length : Int) != (hs.length : Int)) = true := by simp; omega
      have h4i : ((drawn.length : Int) == (hs.length : Int)) = false := by simp; omega
      clear h0 h1 h2
      go_enter Tryz.func54, Tryz.ntmps54
      go_wp2_with fail
      go_ret3
      exact build_err HR.out rfl (Below.refl _ _)
  have HB0 : Hid (∀ r, (if hopsE drawn hs ≠ 0 then (⟨#[]⟩, [], hopsE drawn hs) else if rt pay = false then (⟨#[]⟩, [], 10) else match goB drawn hs pay hs.length with
    | none => ((⟨#[]⟩ : ByteArray), ([] : List ByteArray), (3 : Int))
    | some (p, ks) => (p, ks, 0)) = r → buildR drawn hs pay = r) := fun r h => by unfold buildR; rw [if_neg h0]; exact h
  have hn1 : 0 < hs.length := by omega
  have hn20 : hs.length ≤ 20 := by omega
  have hdn : drawn.length = hs.length := by omega
  have h1i : ((hs.length : Int) == 0) = false := beq_eq_false_iff_ne.2 (by omega)
  have h2i : (hs.length : Int) ≤ 20 := by omega
  have q2 := decN (20 < (hs.length : Int)) (by omega)
  have hposi : (0 : Int) < (hs.length : Int) := by omega
  rw [hdn] at hdl ⊢
  have HD := Lib.hid hD
  have HH := Lib.hid hH
  have HL := Lib.hid hL
  have HT := Lib.hid hT
  have HDS := Lib.hid hds
  have HDN := Lib.hid hdn
  have hrp : Hid (∀ W, Below w.heap.size w W → Calls Tryz.prog 66 #[.string pay] W fun e w' => e = .returned (.bool (rt pay)) ∧ Below W.heap.size W w') := fun W hW => right_any pay W hp (hL.below hW)
  clear hD hH hL hT hds hdn h0 hdl hhl
  obtain ⟨R, hR⟩ : ∃ R, buildR drawn hs pay = R := ⟨_, rfl⟩
  rw [hR] at HB0 ⊢
  clear hR
  go_enter Tryz.func54, Tryz.ntmps54
  go_wp2_with fail
  go_loopw [38] (fun iv wr => ∃ j : Nat, j ≤ hs.length ∧ iv = .int .i64 j ∧ Hid (Below w.heap.size w wr) ∧ Hid (∀ k, k < j → hopAt drawn hs k = 0)) (fun iv _ => hs.length - (intOf iv).toNat)
  case atStart => exact ⟨0, Nat.zero_le _, rfl, Below.refl _ _, fun k hk => absurd hk (Nat.not_lt_zero k)⟩
  case round =>
    obtain ⟨j, hj, rfl, hB, hZ⟩ := hrel
    have hBs := hB.out.size
    by_cases hlt : j < hs.length
    · obtain ⟨bd, fd, d, rfl, hd, d0⟩ := drawn_at (HD.out.below hB.out) (show j < drawn.length by rw [HDN.out]; exact hlt)
      obtain ⟨bh, fh, h, rfl, hh, hc1, hc2, a0, a1, a2, a3⟩ := hops_cells (HH.out.below hB.out) hlt
      have hji : (j : Int) < (hs.length : Int) := by omega
      obtain ⟨fb, hfb⟩ : ∃ fb, ((j : Int) == 0) = fb := ⟨_, rfl⟩
      have HE : Hid (hopE h fb d = hopAt drawn hs j) := by
        show _ = _
        unfold hopAt
        rw [getD_of hh, getDS_of hd, ← hfb]
        congr 1
        rw [Bool.eq_iff_iff, beq_iff_eq, beq_iff_eq]; omega
      have hdsz := HDS.out d (List.mem_of_getElem? hd)
      obtain ⟨cn, nd, am, ex⟩ := h
      simp only at hc1 hc2 a0 a1 a2 a3 HE
      obtain ⟨E, hE⟩ : ∃ E, hopAt drawn hs j = E := ⟨_, rfl⟩
      rw [hE] at HE
      have HEE := Lib.hid hE
      have HW : Hid (∀ W, Below w.heap.size w W → Calls Tryz.prog 116 #[.agg #[.string cn, .string nd, .int .i64 am, .int .i64 ex], .bool fb, .string d] W fun e w' => e = .returned (.int .i64 E) ∧ Below W.heap.size W w') := fun W hW => by
        have := wrong_any cn nd am ex fb d W hc1 hc2 hdsz (HL.out.below hW)
        rw [HE.out] at this
        exact this
      clear hE hc1 hc2 hdsz hh hd
      go_upto_region 6 with fail
      have K5 := heap_alloc_at wr (.cells #[.string cn, .string nd, .int .i64 am, .int .i64 ex] 49)
      have N5 := below_new' wr (.cells #[.string cn, .string nd, .int .i64 am, .int .i64 ex] 49)
      have B5 := Lib.hid (hB.out.trans (N5.mono hBs))
      replace d0 := cell_later N5 d0
      clear a0 a1 a2 a3 N5
      generalize wr.alloc (.cells #[.string cn, .string nd, .int .i64 am, .int .i64 ex] 49) = w5 at K5 B5 d0 ⊢
      generalize wr.heap.size = k5 at K5 ⊢
      obtain ⟨x0, x1, x2, x3⟩ := four K5
      clear K5
      replace x0 := Later.cell x0; replace x1 := Later.cell x1; replace x2 := Later.cell x2; replace x3 := Later.cell x3; replace d0 := Later.cell d0
      have HWL : Hid (∀ n : Later w5, Calls Tryz.prog 116 #[.agg #[.string cn, .string nd, .int .i64 am, .int .i64 ex], .bool fb, .string d] n.at_ fun e w' => e = .returned (.int .i64 E) ∧ Below n.at_.heap.size n.at_ w') := fun n => HW.out _ (B5.out.trans (n.below.mono B5.out.size))
      refine wp_region_later (by kernel_rfl) (by kernel_rfl) ?_
      repeat (go_big_quiet_step ((go_at_call 116; exact calls_later (HWL.out _))))
      refine wpQuiet_nil ?_
      intro _ hw'
      obtain ⟨nq, rfl⟩ := hw'
      have B6 := Lib.hid (B5.out.trans (nq.below.mono B5.out.size))
      clear x0 x1 x2 x3 d0
      generalize nq.at_ = w6 at B6 ⊢
      by_cases he : E = 0
      · subst he
        go_wp2_with fail
        go_roundw
        case rel =>
          refine ⟨j + 1, by omega, by go_num, B6, fun k hk => ?_⟩
          by_cases hkj : k = j
          · subst hkj; exact HEE.out
          · exact hZ.out k (by omega)
        case measure => simp [intOf]; omega
      · have e1 : (E != 0) = true := by simpa using he
        have e2 : (E == 0) = false := by simpa using he
        have HR : Hid (R = (⟨#[]⟩, [], E)) := by
          refine HB0.out _ ?_
          have hx : hopsE drawn hs = E := by
            rw [← HEE.out]
            exact hopsF_at hs.length 0 j (Nat.zero_le _) (by omega) (fun k _ hk => hZ.out k hk) (by rw [HEE.out]; exact he)
          rw [hx, if_pos he]
        clear he
        go_wp2_with fail
        go_ret3
        exact build_err HR.out rfl B6.out
    · obtain rfl : j = hs.length := by omega
      have HB1 : Hid (∀ r, (if rt pay = false then (⟨#[]⟩, [], 10) else match goB drawn hs pay hs.length with
        | none => ((⟨#[]⟩ : ByteArray), ([] : List ByteArray), (3 : Int))
        | some (p, ks) => (p, ks, 0)) = r → R = r) := fun r h => HB0.out r (by
          rw [if_neg (by rw [show hopsE drawn hs = 0 from hopsF_no hs.length 0 (fun k _ hk => hZ.out k (by omega))]; simp)]; exact h)
      have HOK : Hid (∀ h ∈ hs, HpOk h) := fun h hh => by
        obtain ⟨k, hk⟩ := List.mem_iff_getElem?.1 hh
        have hkl := (List.getElem?_eq_some_iff.1 hk).1
        have := hZ.out k hkl
        unfold hopAt at this
        rw [getD_of hk] at this
        exact hopE_ok this
      clear HB0 hZ
      cases hr : rt pay with
      | false =>
        rw [hr] at hrp
        have HR := Lib.hid (HB1.out _ (by rw [if_pos hr]))
        clear hr
        go_wp2_with (go_at_call 66; (with_reducible refine Calls.mono (hrp.out _ hB.out) ?_); rintro e w7 ⟨rfl, hb⟩; have B7 := Lib.hid (hB.out.trans (hb.mono hBs)); clear hb)
        go_ret3
        exact build_err HR.out rfl B7.out
      | true =>
        rw [hr] at hrp
        have HB2 : Hid (∀ r, (match goB drawn hs pay hs.length with
          | none => ((⟨#[]⟩ : ByteArray), ([] : List ByteArray), (3 : Int))
          | some (p, ks) => (p, ks, 0)) = r → R = r) := fun r h => HB1.out r (by rw [if_neg (by rw [hr]; decide)]; exact h)
        clear hr HB1
        obtain ⟨C, hC, hmk⟩ := make_strs hs.length (by omega)
        go_upto_region 13 with (go_at_call 66; (with_reducible refine Calls.mono (hrp.out _ hB.out) ?_); rintro e w7 ⟨rfl, hb⟩; have B7 := Lib.hid (hB.out.trans (hb.mono hBs)); clear hb)
        have hz7 := B7.out.size
        have KM := heap_alloc_at w7 (.cells #[.bool false] 123)
        have B8 := Lib.hid (B7.out.alloc B7.out.size (.cells #[.bool false] 123))
        have hmb : w.heap.size ≤ w7.heap.size := B7.out.size
        generalize w7.alloc (.cells #[.bool false] 123) = w8 at KM B8 ⊢
        obtain ⟨mb, hmbe⟩ : ∃ mb, w7.heap.size = mb := ⟨_, rfl⟩
        rw [hmbe] at KM hmb ⊢
        have HMB := Lib.hid hmb
        have HKM := Lib.hid KM
        have HC0 := Lib.hid hC
        clear hmbe hmb hz7 KM hC
        go_cut [13, 14] from 59 to 62 (fun a b wx => ∃ kb, a = .string ⟨#[84, 48, 58]⟩ ∧ b = .slice (some ⟨kb, 0, none⟩) hs.length hs.length ∧ Hid (StC w mb kb false C wx))
        case first =>
          go_region
          all_goals go_wp2_with fail
          all_goals go_meet
          all_goals exact ⟨w8.heap.size, rfl, rfl, ⟨(B8.out.alloc B8.out.size _).drew, ((below_new' w8 _).block _ (lt_of_heap HKM.out)).trans HKM.out, heap_alloc_at w8 _, HMB.out, B8.out.size⟩⟩
        case rest =>
          obtain ⟨kb, rfl, rfl, HS0⟩ := hcut
          clear hmk
          go_wp2_with fail
          go_loopw [13, 15] (fun pv iv wr => ∃ (k : Nat) (iz : Int), k ≤ hs.length ∧ iv = .int .i64 iz ∧ iz = (hs.length : Int) - 1 - (k : Int) ∧ Hid (KB drawn hs pay w mb kb k pv wr)) (fun _ iv _ => ((intOf iv) + 1).toNat)
          case atStart => exact ⟨0, _, Nat.zero_le _, rfl, by omega, .inl ⟨_, [], C, rfl, rfl, by rw [HC0.out]; unfold keyRow; simp, HS0.out⟩⟩
          case round =>
            obtain ⟨k, iz, hk, rfl, hiz, hKB⟩ := hrel
            rcases hKB.out with ⟨p, ks, CC, rfl, hgo, hrow, hst⟩ | ⟨p, CC, rfl, hgo, hst⟩
            case inr =>
              have c0 := hst.m.cell
              have HR : Hid (R = (⟨#[]⟩, [], 3)) := HB2.out _ (by rw [hgo])
              have BF := Lib.hid hst.bel
              clear hgo hst hKB
              by_cases hkn : k < hs.length
              · have hz0 : 0 ≤ iz := by omega
                have HIZ := Lib.hid hiz
                clear hiz
                go_wp2_with fail
                go_ret3
                exact build_err HR.out rfl BF.out
              · have hz0 : iz < 0 := by omega
                have HIZ := Lib.hid hiz
                clear hiz
                go_wp2_with fail
                go_ret3
                exact build_err HR.out rfl BF.out
            have c0 := hst.m.cell
            have HST := Lib.hid hst
            have HGO := Lib.hid hgo
            have HROW := Lib.hid hrow
            have hkl := goB_len hgo
            have HPL := Lib.hid (goB_le hgo)
            clear hgo hrow hst hKB
            by_cases hkn : k < hs.length
            case neg =>
              obtain rfl : k = hs.length := by omega
              have hz0 : iz < 0 := by omega
              have HR : Hid (R = (p, ks, 0)) := HB2.out _ (by rw [HGO.out])
              have HO : Hid (HST.out.k = HST.out.k) := rfl
              have HIZ := Lib.hid hiz
              have HKL := Lib.hid hkl
              clear hiz hkl
              go_wp2_with fail
              go_ret3
              refine ⟨HST.out.bel, .slice (some ⟨kb, 0, none⟩) hs.length hs.length, by rw [HR.out]; rfl, ?_⟩
              rw [HR.out]
              show wr.ownsRow w.heap.size 23 1 _ ks.length (ks.map .string)
              have hsz := keyRow_size HROW.out (by rw [HKL.out]; exact Nat.le_refl _)
              refine ⟨by rw [List.length_map, Nat.mul_one], .inr ⟨kb, hs.length, CC, by rw [HKL.out], HST.out.hk, HST.out.k, by rw [HKL.out]; exact Nat.le_refl _, by unfold maxLen; omega, by rw [hsz, Nat.mul_one], ?_⟩⟩
              rw [HROW.out]
              unfold keyRow
              rw [HKL.out, Nat.sub_self, List.replicate_zero, List.nil_append, Nat.mul_one, List.take_of_length_le (by rw [List.length_map, HKL.out]; exact Nat.le_refl _)]
            obtain ⟨i, hi⟩ : ∃ i, i = hs.length - 1 - k := ⟨_, rfl⟩
            obtain rfl : iz = (i : Int) := by omega
            have hin : i < hs.length := by omega
            have hii : (i : Int) < (hs.length : Int) := by omega
            have HI := Lib.hid hi
            have HKL := Lib.hid hkl
            have HKN := Lib.hid hkn
            clear hiz hi hkl
            obtain ⟨bd, fd, d, rfl, hd, d0⟩ := drawn_at HD.out (show i < drawn.length by rw [HDN.out]; exact hin)
            obtain ⟨bh, fh, h, rfl, hh, hc1, hc2, a0, a1, a2, a3⟩ := hops_cells HH.out hin
            have D0 := Lib.hid d0
            have A1 := Lib.hid a1
            have HDX := Lib.hid (getDS_of hd)
            have HHX := Lib.hid (getD_of hh)
            have hdsz := HDS.out d (List.mem_of_getElem? hd)
            have hokh := HOK.out h (List.mem_of_getElem? hh)
            obtain ⟨LH, hLH⟩ : ∃ LH, lastH hs i = LH := ⟨_, rfl⟩
            obtain ⟨nm, hnm⟩ : ∃ nm, nameAt hs i = nm := ⟨_, rfl⟩
            obtain ⟨of_, hof⟩ : ∃ o, ofAt hs pay i = o := ⟨_, rfl⟩
            have HPAY : Hid (payP hs pay i = tupleP [textS nm, textS (decS LH.amt), textS (decS LH.exp), of_]) := by
              show _ = _
              unfold payP
              rw [hLH, hnm, hof]
            go_upto_region 17 with fail
            replace a0 := cell_later HST.out.bel a0; replace a1 := cell_later HST.out.bel a1; replace a2 := cell_later HST.out.bel a2; replace a3 := cell_later HST.out.bel a3
            go_upto_region 18 with fail
            have KH := Lib.hid (heap_alloc_at wr (.cells #[.string h.chan, .string h.node, .int .i64 h.amt, .int .i64 h.exp] 49))
            have NB := below_new' wr (.cells #[.string h.chan, .string h.node, .int .i64 h.amt, .int .i64 h.exp] 49)
            have S1 := Lib.hid (HST.out.next NB)
            have hwk : w.heap.size ≤ wr.heap.size := HST.out.bel.size
            clear a0 a1 a2 a3 NB c0
            generalize wr.alloc (.cells #[.string h.chan, .string h.node, .int .i64 h.amt, .int .i64 h.exp] 49) = wA at KH S1 ⊢
            obtain ⟨kh, hkh⟩ : ∃ kh, wr.heap.size = kh := ⟨_, rfl⟩
            rw [hkh] at KH hwk ⊢
            have HWK := Lib.hid hwk
            clear hkh hwk
            obtain ⟨lb, hlb⟩ : ∃ b, decide ((i : Int) + 1 < (hs.length : Int)) = b := ⟨_, rfl⟩
            go_cut [85] from 81 to 86 (fun c wx => wx = wA ∧ c = .bool lb)
            case first =>
              go_wp2_with fail
              go_meet
              exact ⟨rfl, by first | rfl | rw [hlb]⟩
            obtain ⟨rfl, rfl⟩ := hcut
            apply_assumption
            go_cut [17, 18] from 86 to 93 (fun b c wx => b = .string nm ∧ c = .string of_ ∧ Hid (StH w mb kb kh false CC #[.string LH.chan, .string LH.node, .int .i64 LH.amt, .int .i64 LH.exp] wx))
            case first =>
              by_cases hl : i + 1 < hs.length
              · obtain ⟨bh2, fh2, g, he, hg, hg1, hg2, b0, b1, b2, b3⟩ := hops_cells HH.out hl
                cases he
                have hLg : LH = g := by rw [← hLH]; unfold lastH; rw [if_pos hl, getD_of hg]
                have hnm2 : nm = g.chan := by rw [← hnm]; unfold nameAt; rw [if_pos hl, getD_of hg]
                have hof2 : of_ = ⟨#[84, 48, 58]⟩ := by rw [← hof]; unfold ofAt; rw [if_pos hl]
                have hlt : lb = true := by rw [← hlb, decide_eq_true_eq]; omega
                subst hLg hnm2 hof2 hlt
                replace b0 := cell_later S1.out.bel b0; replace b1 := cell_later S1.out.bel b1; replace b2 := cell_later S1.out.bel b2; replace b3 := cell_later S1.out.bel b3
                have hl1 : (i : Int) + 1 < (hs.length : Int) := by omega
                clear hg hg1 hg2 hLH hnm hof hl d0 hd hh hc1 hc2 hdsz hokh hlb
                go_upto_region 20 with (refine wpList_store_row rfl 49 (.tmp 16) (.tmp 90) rfl kh #[.string LH.chan, .string LH.node, .int .i64 LH.amt, .int .i64 LH.exp] rfl rfl 49 _ KH.out (by kernel_rfl) rfl (by simp [Value.oneCell']) ?_)
                have KJ : (wc.setRow kh #[.string LH.chan, .string LH.node, .int .i64 LH.amt, .int .i64 LH.exp]).heap[kh]? = some (.cells #[.string LH.chan, .string LH.node, .int .i64 LH.amt, .int .i64 LH.exp] 49 (0, 0)) := setRow_heap wc kh _ _ 49 _ KH.out
                have S2 : Hid (StH w mb kb kh false CC #[.string LH.chan, .string LH.node, .int .i64 LH.amt, .int .i64 LH.exp] (wc.setRow kh #[.string LH.chan, .string LH.node, .int .i64 LH.amt, .int .i64 LH.exp])) := ⟨S1.out.row HWK.out KH.out _, KJ⟩
                obtain ⟨c0, _, _, _⟩ := four KJ
                clear KJ b0 b1 b2 b3
                generalize wc.setRow kh #[.string LH.chan, .string LH.node, .int .i64 LH.amt, .int .i64 LH.exp] = wB at S2 c0 ⊢
                go_wp2_with fail
                go_meet
                exact ⟨rfl, rfl, S2⟩
              · have hLg : LH = h := by rw [← hLH]; unfold lastH; rw [if_neg hl, HHX.out]
                have hnm2 : nm = ⟨#[]⟩ := by rw [← hnm]; unfold nameAt; rw [if_neg hl]
                have hof2 : of_ = pay := by rw [← hof]; unfold ofAt; rw [if_neg hl]
                have hlt : lb = false := by rw [← hlb, decide_eq_false_iff_not]; omega
                subst hLg hnm2 hof2 hlt
                clear hLH hnm hof hl d0 hd hh hc1 hc2 hdsz hokh hlb
                go_wp2_with fail
                go_meet
                exact ⟨rfl, rfl, S1.out, KH.out⟩
            case rest =>
              obtain ⟨rfl, rfl, HSH⟩ := hcut
              clear hlb
              have hnms : nm.size ≤ 4096 := by
                rw [← hnm]
                unfold nameAt
                by_cases hl : i + 1 < hs.length
                · rw [if_pos hl]
                  obtain ⟨_, _, g, _, hg, _⟩ := hops_cells HH.out hl
                  rw [getD_of hg]
                  have := (HOK.out g (List.mem_of_getElem? hg)).c
                  omega
                · rw [if_neg hl]; exact Nat.zero_le _
              have hofs : of_.size ≤ maxLen := by
                rw [← hof]
                unfold ofAt
                by_cases hl : i + 1 < hs.length
                · rw [if_pos hl]; decide
                · rw [if_neg hl]; exact hp
              have hlh : HpOk LH := by
                rw [← hLH]
                unfold lastH
                by_cases hl : i + 1 < hs.length
                · rw [if_pos hl]
                  obtain ⟨_, _, g, _, hg, _⟩ := hops_cells HH.out hl
                  rw [getD_of hg]
                  exact HOK.out g (List.mem_of_getElem? hg)
                · rw [if_neg hl, HHX.out]; exact hokh
              obtain ⟨LC, LN, LA, LE⟩ := LH
              have ha0 := hlh.a0
              have ha1 := hlh.a1
              have he0 := hlh.e0
              have he1 := hlh.e1
              simp only at ha0 ha1 he0 he1 HPAY HSH
              have hda : (decS LA).size ≤ 21 := decS_le (by omega) (by omega)
              have hde : (decS LE).size ≤ 21 := decS_le (by omega) (by omega)
              have HFI : Hid (∀ W, StH w mb kb kh false CC #[.string LC, .string LN, .int .i64 LA, .int .i64 LE] W → Calls Tryz.prog 114 #[.int .i64 LA, .int .i64 10] W fun y w' => y = .returned (.string (decS LA)) ∧ StH w mb kb kh false CC #[.string LC, .string LN, .int .i64 LA, .int .i64 LE] w') := fun W hW =>
                (Tryz.strconv_FormatInt_10 LA (by omega) (by omega) W (HT.out.below hW.1.bel)).mono fun y w' ⟨h1, q, os, h2⟩ => ⟨h1, hW.next (by rw [h2]; exact grow_below W q os)⟩
              have HIT : Hid (∀ W, StH w mb kb kh false CC #[.string LC, .string LN, .int .i64 LA, .int .i64 LE] W → Calls Tryz.prog 117 #[.int .i64 LE] W fun y w' => y = .returned (.string (decS LE)) ∧ StH w mb kb kh false CC #[.string LC, .string LN, .int .i64 LA, .int .i64 LE] w') := fun W hW =>
                (Tryz.strconv_Itoa LE (by omega) (by omega) W (HT.out.below hW.1.bel)).mono fun y w' ⟨h1, q, os, h2⟩ => ⟨h1, hW.next (by rw [h2]; exact grow_below W q os)⟩
              have HTX : Hid (∀ W s, s.size ≤ 4096 → StH w mb kb kh false CC #[.string LC, .string LN, .int .i64 LA, .int .i64 LE] W → Calls Tryz.prog 69 #[.pointer (some ⟨mb, 0, none⟩), .string s] W fun y w' => y = .returned (.string (textS s)) ∧ StH w mb kb kh false CC #[.string LC, .string LN, .int .i64 LA, .int .i64 LE] w') := fun W s hs hW =>
                (mtext_ok mb false s W hs hW.1.m (HT.out.below hW.1.bel)).mono fun y w' ⟨h1, h2⟩ => ⟨h1, hW.next h2⟩
              have h1s : (decS LA).size ≤ 4096 := by omega
              have h2s : (decS LE).size ≤ 4096 := by omega
              obtain ⟨pl, hpl⟩ : ∃ pl, payP hs pay i = pl := ⟨_, rfl⟩
              rw [hpl] at HPAY
              have HPLS : Hid (pl.1.size ≤ 16384) := by rw [HPAY.out]; exact tupleP_le _
              have HTU : Hid (∀ W o c, StrsAt o [textS nm, textS (decS LA), textS (decS LE), of_] W → StH w mb kb kh false CC #[.string LC, .string LN, .int .i64 LA, .int .i64 LE] W → Calls Tryz.prog 68 #[.slice o 4 c] W fun y w' => y = .returned (.tuple #[.string pl.1, .int .i64 pl.2]) ∧ StH w mb kb kh false CC #[.string LC, .string LN, .int .i64 LA, .int .i64 LE] w') := fun W o c hS hW => by
                have := tuple_any o [textS nm, textS (decS LA), textS (decS LE), of_] 4 c W rfl (by
                  intro v hv
                  simp only [List.mem_cons, List.not_mem_nil, or_false] at hv
                  rcases hv with rfl | rfl | rfl | rfl
                  · exact textS_le hnms
                  · exact textS_le h1s
                  · exact textS_le h2s
                  · exact hofs) hS (HL.out.below hW.1.bel) (HT.out.below hW.1.bel)
                rw [tupleV_P, ← HPAY.out] at this
                exact this.mono fun y w' ⟨h1, h2⟩ => ⟨h1, hW.next h2⟩
              have HOF : Hid (∀ W, StH w mb kb kh false CC #[.string LC, .string LN, .int .i64 LA, .int .i64 LE] W → Calls Tryz.prog 67 #[.pointer (some ⟨mb, 0, none⟩), .string pl.1, .int .i64 pl.2] W fun y w' => y = .returned (.string pl.1) ∧ StH w mb kb kh (false || decide (pl.2 ≠ 0)) CC #[.string LC, .string LN, .int .i64 LA, .int .i64 LE] w') := fun W hW => sth_of w mb kb kh false CC _ _ _ W hW
              have HPL1 := Lib.hid hpl
              clear hlh hofs hnm hof hLH hpl hda hde d0
              obtain ⟨fa, hfa⟩ : ∃ f, decS LA = f := ⟨_, rfl⟩
              obtain ⟨fe, hfe⟩ : ∃ f, decS LE = f := ⟨_, rfl⟩
              rw [hfa] at HFI HTU h1s
              rw [hfe] at HIT HTU h2s
              clear hfa hfe
              go_upto_region 21 with fail
              go_cut [19] from 93 to 113 (fun v wx => v = .string pl.1 ∧ Hid (StC w mb kb (false || decide (pl.2 ≠ 0)) CC wx))
              case first =>
                have Z0 : StH w mb kb kh false CC #[.string LC, .string LN, .int .i64 LA, .int .i64 LE] wc.drew := HSH.out.next (Below.refl _ _).drew
                go_region_held3 (fun w' => w'.cell? ⟨kh, 2, none⟩ = some (.int .i64 LA) ∧ w'.cell? ⟨kh, 3, none⟩ = some (.int .i64 LE))
                  (first | exact StH.cells (by assumption) | exact StH.cells (StH.next (by assumption) (below_new' _ _)) | go_keep)
                  ((first
                    | (go_at_call 69; (with_reducible refine Calls.mono (HTX.out _ _ (by assumption) (by assumption)) ?_); rintro y wa ⟨rfl, Za⟩)
                    | (go_at_call 114; (with_reducible refine Calls.mono (HFI.out _ (by assumption)) ?_); rintro y wa ⟨rfl, Za⟩)
                    | (go_at_call 117; (with_reducible refine Calls.mono (HIT.out _ (by assumption)) ?_); rintro y wa ⟨rfl, Za⟩)
                    | (go_at_call 68; (with_reducible refine Calls.mono (HTU.out _ _ _ strs_four (StH.next (by assumption) (below_new' _ _))) ?_); rintro y wa ⟨rfl, Za⟩)
                    | (go_at_call 67; (with_reducible refine Calls.mono (HOF.out _ (by assumption)) ?_); rintro y wa ⟨rfl, Zf⟩)))
                all_goals go_wp2_with fail
                all_goals go_meet
                all_goals exact ⟨rfl, Zf.1⟩
              case rest =>
                obtain ⟨rfl, HS1⟩ := hcut
                obtain ⟨ky, hky⟩ : ∃ x, agreeP d h.node = x := ⟨_, rfl⟩
                obtain ⟨tp, htp⟩ : ∃ x, tupleP [pl.1, p] = x := ⟨_, rfl⟩
                obtain ⟨bx, hbx⟩ : ∃ x, buildP ⟨#[66]⟩ [ky.1, tp.1] = x := ⟨_, rfl⟩
                obtain ⟨pb, hpb⟩ : ∃ x, pubP d = x := ⟨_, rfl⟩
                obtain ⟨al, hal⟩ : ∃ x, tupleP [pb.1, bx.1] = x := ⟨_, rfl⟩
                have HRND : Hid (rnd drawn hs pay i p = ⟨al.1, ky.1, bad6 pl.2 ky.2 tp.2 bx.2 pb.2 al.2⟩) := by
                  show _ = _
                  unfold rnd
                  simp only [HPL1.out, HDX.out, HHX.out, hky, htp, hbx, hpb, hal]
                have HKS : Hid (ky.1.size ≤ 16384) := by rw [← hky]; exact agreeP_le _ _
                have HTS : Hid (tp.1.size ≤ 16384) := by rw [← htp]; exact tupleP_le _
                have HXS : Hid (bx.1.size ≤ 16384) := by rw [← hbx]; exact buildP_le _ _
                have HPS : Hid (pb.1.size ≤ 16384) := by rw [← hpb]; exact pubP_le _
                obtain ⟨b1, hb1⟩ : ∃ b, (false || decide (pl.2 ≠ 0)) = b := ⟨_, rfl⟩
                obtain ⟨b2, hb2⟩ : ∃ b, (b1 || decide (ky.2 ≠ 0)) = b := ⟨_, rfl⟩
                obtain ⟨b3, hb3⟩ : ∃ b, (b2 || decide (tp.2 ≠ 0)) = b := ⟨_, rfl⟩
                obtain ⟨b4, hb4⟩ : ∃ b, (b3 || decide (bx.2 ≠ 0)) = b := ⟨_, rfl⟩
                obtain ⟨b5, hb5⟩ : ∃ b, (b4 || decide (pb.2 ≠ 0)) = b := ⟨_, rfl⟩
                obtain ⟨b6, hb6⟩ : ∃ b, (b5 || decide (al.2 ≠ 0)) = b := ⟨_, rfl⟩
                have HBAD : Hid (bad6 pl.2 ky.2 tp.2 bx.2 pb.2 al.2 = b6) := by
                  show _ = _
                  rw [← hb6, ← hb5, ← hb4, ← hb3, ← hb2, ← hb1]; rfl
                rw [hb1] at HS1
                have hnsz : h.node.size ≤ maxLen := hc2
                have HAG : Hid (∀ W, StC w mb kb b1 CC W → Calls Tryz.prog 118 #[.string d, .string h.node] W fun y w' => y = .returned (.tuple #[.string ky.1, .int .i64 ky.2]) ∧ StC w mb kb b1 CC w') := fun W hW => by
                  have := agree_any d h.node W hnsz hdsz (HL.out.below hW.bel)
                  rw [agreeV_P, hky] at this
                  exact this.mono fun y w' ⟨h1, h2⟩ => ⟨h1, hW.next h2⟩
                have hcsz : CC.size = hs.length := keyRow_size HROW.out (by rw [HKL.out]; exact hk)
                have HO2 : Hid (∀ W, StC w mb kb b1 CC W → Calls Tryz.prog 67 #[.pointer (some ⟨mb, 0, none⟩), .string ky.1, .int .i64 ky.2] W fun y w' => y = .returned (.string ky.1) ∧ StC w mb kb b2 CC w' ∧ (∃ x, w'.cell? ⟨kb, i, none⟩ = some x) ∧ w'.frozen? ⟨kb, i, none⟩ = false) := fun W hW =>
                  (stc_of w mb kb b1 CC ky.1 ky.2 W hW).mono fun y w' ⟨h1, h2⟩ => by
                    rw [hb2] at h2
                    exact ⟨h1, h2, ⟨CC[i]'(by omega), by rw [cell_of_row _ _ _ _ _ _ h2.k]; exact Array.getElem?_eq_getElem _⟩, frozen_of_row _ _ _ _ _ h2.k⟩
                have KP : Hid (∀ W, Below w.heap.size w W → W.cell? ⟨bd, fd + i, none⟩ = some (.string d) ∧ W.cell? ⟨bh, fh + i * 4 + 1, none⟩ = some (.string h.node)) := fun W hW => ⟨cell_later hW D0.out, cell_later hW A1.out⟩
                have hii0 : (0 : Int) ≤ (i : Int) := by omega
                go_upto_region 22 with fail
                go_cut [128] from 113 to 130 (fun v wx => Hid (StC w mb kb b2 (CC.setIfInBounds i (.string ky.1)) wx))
                case first =>
                  have Z0 : StC w mb kb b1 CC wc.drew := HS1.out.next (Below.refl _ _).drew
                  obtain ⟨q0, q1⟩ := KP.out _ Z0.bel
                  go_region_held3 (fun w' => w'.cell? ⟨bd, fd + i, none⟩ = some (.string d) ∧ w'.cell? ⟨bh, fh + i * 4 + 1, none⟩ = some (.string h.node))
                    (first | exact KP.out _ (StC.bel (by assumption)) | exact KP.out _ (StC.bel (StC.put (by assumption) _ _)) | go_keep)
                    ((first
                      | (go_at_call 118; (with_reducible refine Calls.mono (HAG.out _ (by assumption)) ?_); rintro y wa ⟨rfl, Za⟩)
                      | (go_at_call 67; (with_reducible refine Calls.mono (HO2.out _ (by assumption)) ?_); rintro y wa ⟨rfl, Zf, ⟨x, cx⟩, fx⟩)))
                  all_goals go_wp2_with fail
                  all_goals go_meet
                  all_goals exact Zf.put _ _
                case rest =>
                  have HS2 := hcut
                  have hci : (CC.setIfInBounds i (Value.string ky.1))[i]? = some (.string ky.1) := by rw [Array.getElem?_setIfInBounds_self]; simp; omega
                  have KQ : Hid (∀ W b, StC w mb kb b (CC.setIfInBounds i (.string ky.1)) W → W.cell? ⟨kb, i, none⟩ = some (.string ky.1)) := fun W b hW => by rw [cell_of_row _ _ _ _ _ _ hW.k]; exact hci
                  have HROW2 : Hid ((CC.setIfInBounds i (Value.string ky.1)).toList = keyRow hs.length (ky.1 :: ks)) := by
                    show _ = _
                    have := keyRow_put HROW.out (by rw [HKL.out]; exact HKN.out) ky.1
                    rwa [show hs.length - 1 - ks.length = i by rw [HKL.out]; exact HI.out.symm] at this
                  clear hci
                  generalize CC.setIfInBounds i (Value.string ky.1) = CD at HS2 KQ HROW2 ⊢
                  have HT2 : Hid (∀ W o c, StrsAt o [pl.1, p] W → StC w mb kb b2 CD W → Calls Tryz.prog 68 #[.slice o 2 c] W fun y w' => y = .returned (.tuple #[.string tp.1, .int .i64 tp.2]) ∧ StC w mb kb b2 CD w') := fun W o c hS hW => by
                    have := tuple_any o [pl.1, p] 2 c W rfl (by
                      intro v hv
                      simp only [List.mem_cons, List.not_mem_nil, or_false] at hv
                      rcases hv with rfl | rfl
                      · exact lt_max HPLS.out
                      · exact lt_max HPL.out) hS (HL.out.below hW.bel) (HT.out.below hW.bel)
                    rw [tupleV_P, htp] at this
                    exact this.mono fun y w' ⟨h1, h2⟩ => ⟨h1, hW.next h2⟩
                  have HO3 : Hid (∀ W, StC w mb kb b2 CD W → Calls Tryz.prog 67 #[.pointer (some ⟨mb, 0, none⟩), .string tp.1, .int .i64 tp.2] W fun y w' => y = .returned (.string tp.1) ∧ StC w mb kb b3 CD w') := fun W hW => (stc_of w mb kb b2 CD tp.1 tp.2 W hW).mono fun y w' ⟨h1, h2⟩ => ⟨h1, by rw [← hb3]; exact h2⟩
                  have HBX : Hid (∀ W, StC w mb kb b3 CD W → Calls Tryz.prog 73 #[.string ky.1, .string tp.1] W fun y w' => y = .returned (.tuple #[.string bx.1, .int .i64 bx.2]) ∧ StC w mb kb b3 CD w') := fun W hW => by
                    have := box_any ky.1 tp.1 W (lt_max HKS.out) (lt_max HTS.out) (HL.out.below hW.bel)
                    rw [buildV_P, hbx] at this
                    exact this.mono fun y w' ⟨h1, h2⟩ => ⟨h1, hW.next h2⟩
                  have HO4 : Hid (∀ W, StC w mb kb b3 CD W → Calls Tryz.prog 67 #[.pointer (some ⟨mb, 0, none⟩), .string bx.1, .int .i64 bx.2] W fun y w' => y = .returned (.string bx.1) ∧ StC w mb kb b4 CD w') := fun W hW => (stc_of w mb kb b3 CD bx.1 bx.2 W hW).mono fun y w' ⟨h1, h2⟩ => ⟨h1, by rw [← hb4]; exact h2⟩
                  have HPB : Hid (∀ W, StC w mb kb b4 CD W → Calls Tryz.prog 119 #[.string d] W fun y w' => y = .returned (.tuple #[.string pb.1, .int .i64 pb.2]) ∧ StC w mb kb b4 CD w') := fun W hW => by
                    have := pub_any d W hdsz (HL.out.below hW.bel)
                    rw [pubV_P, hpb] at this
                    exact this.mono fun y w' ⟨h1, h2⟩ => ⟨h1, hW.next h2⟩
                  have HO5 : Hid (∀ W, StC w mb kb b4 CD W → Calls Tryz.prog 67 #[.pointer (some ⟨mb, 0, none⟩), .string pb.1, .int .i64 pb.2] W fun y w' => y = .returned (.string pb.1) ∧ StC w mb kb b5 CD w') := fun W hW => (stc_of w mb kb b4 CD pb.1 pb.2 W hW).mono fun y w' ⟨h1, h2⟩ => ⟨h1, by rw [← hb5]; exact h2⟩
                  have HT6 : Hid (∀ W o c, StrsAt o [pb.1, bx.1] W → StC w mb kb b5 CD W → Calls Tryz.prog 68 #[.slice o 2 c] W fun y w' => y = .returned (.tuple #[.string al.1, .int .i64 al.2]) ∧ StC w mb kb b5 CD w') := fun W o c hS hW => by
                    have := tuple_any o [pb.1, bx.1] 2 c W rfl (by
                      intro v hv
                      simp only [List.mem_cons, List.not_mem_nil, or_false] at hv
                      rcases hv with rfl | rfl
                      · exact lt_max HPS.out
                      · exact lt_max HXS.out) hS (HL.out.below hW.bel) (HT.out.below hW.bel)
                    rw [tupleV_P, hal] at this
                    exact this.mono fun y w' ⟨h1, h2⟩ => ⟨h1, hW.next h2⟩
                  have HO6 : Hid (∀ W, StC w mb kb b5 CD W → Calls Tryz.prog 67 #[.pointer (some ⟨mb, 0, none⟩), .string al.1, .int .i64 al.2] W fun y w' => y = .returned (.string al.1) ∧ StC w mb kb b6 CD w') := fun W hW => (stc_of w mb kb b5 CD al.1 al.2 W hW).mono fun y w' ⟨h1, h2⟩ => ⟨h1, by rw [← hb6]; exact h2⟩
                  clear HFI HIT HTX HTU HOF HAG HO2 hb1 hb2 hb3 hb4 hb5 hb6 hky htp hbx hpb hal hnsz hcsz
                  go_upto_region 23 with fail
                  go_cut [20] from 130 to 147 (fun v wx => v = .string bx.1 ∧ Hid (StC w mb kb b4 CD wx))
                  case first =>
                    have Z0 : StC w mb kb b2 CD wc.drew := HS2.out.next (Below.refl _ _).drew
                    have q0 := KQ.out _ _ Z0
                    go_region_held3 (fun w' => w'.cell? ⟨kb, i, none⟩ = some (.string ky.1))
                      (first | exact KQ.out _ _ (by assumption) | exact KQ.out _ _ (StC.next (by assumption) (below_new' _ _)) | go_keep)
                      ((first
                        | (go_at_call 68; (with_reducible refine Calls.mono (HT2.out _ _ _ (strs_two _ _ _) (StC.next (by assumption) (below_new' _ _))) ?_); rintro y wa ⟨rfl, Za⟩)
                        | (go_at_call 67; (with_reducible refine Calls.mono (HO3.out _ (by assumption)) ?_); rintro y wa ⟨rfl, Zb⟩)
                        | (go_at_call 73; (with_reducible refine Calls.mono (HBX.out _ (by assumption)) ?_); rintro y wa ⟨rfl, Zc⟩)
                        | (go_at_call 67; (with_reducible refine Calls.mono (HO4.out _ (by assumption)) ?_); rintro y wa ⟨rfl, Zf⟩)))
                    all_goals go_wp2_with fail
                    all_goals go_meet
                    all_goals exact ⟨rfl, Zf⟩
                  case rest =>
                    obtain ⟨rfl, HS4⟩ := hcut
                    have q0 := (KP.out _ HS4.out.bel).1
                    go_wp2_with (first
                      | (go_at_call 67; (with_reducible refine Calls.mono (HO6.out _ Zc.out) ?_); rintro y wf ⟨rfl, zf⟩; have Zf := Lib.hid zf; clear zf)
                      | (go_at_call 68; (with_reducible refine Calls.mono (HT6.out _ _ _ (strs_two _ _ _) (Zb.out.next (below_new' _ _))) ?_); rintro y we ⟨rfl, ze⟩; have Zc := Lib.hid ze; clear ze)
                      | (go_at_call 67; (with_reducible refine Calls.mono (HO5.out _ Za.out) ?_); rintro y wd ⟨rfl, zd⟩; have Zb := Lib.hid zd; clear zd)
                      | (go_at_call 119; (with_reducible refine Calls.mono (HPB.out _ HS4.out) ?_); rintro y wa ⟨rfl, za⟩; have Za := Lib.hid za; clear za))
                    go_roundw
                    case rel =>
                      refine ⟨k + 1, (i : Int) - 1, by have := HKN.out; omega, by first | rfl | go_num, by have := HI.out; have := HKN.out; omega, ?_⟩
                      have hidx : hs.length - 1 - k = i := HI.out.symm
                      cases hbb : b6 with
                      | true =>
                        refine .inr ⟨_, CD, rfl, goB_bad HGO.out (by rw [hidx, HRND.out]; show bad6 _ _ _ _ _ _ = true; rw [HBAD.out, hbb]) HKN.out, ?_⟩
                        have := Zf.out
                        rw [hbb] at this
                        exact this
                      | false =>
                        have h1 := goB_next HGO.out (by rw [hidx, HRND.out]; show bad6 _ _ _ _ _ _ = false; rw [HBAD.out, hbb])
                        rw [hidx, HRND.out] at h1
                        have h2 := Zf.out
                        rw [hbb] at h2
                        exact .inl ⟨_, _, CD, rfl, h1, HROW2.out, h2⟩
                    case measure => (simp [intOf] <;> omega)
end Go.Proofs.YtbdimlppnhcicaaGreatDoor
