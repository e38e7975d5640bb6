/- wire: WireBack -/
import Derived.Test.YtakfhoodjcfpcaaDoorWrN
import Derived.Deep.CutRange
import Derived.Deep.CutBlock
import Derived.Laws.CopyOwn
namespace Go.Proofs.YtakfhoodjcfpcaaDoor.T
set_option linter.unusedVariables false
set_option maxRecDepth 100000
open Go.RowKit Tlv Wire
/-! wire: WireBack -/
theorem mb_ok {l : List UInt8} (hl : l.length ≤ 4000) (h : (Wire.decN R false l).2 = 0) : MB (Wire.decN R false l).1 ∧ (Wire.decN R false l).1.kind < 65536 := by
  obtain ⟨n1, q1, e1⟩ : ∃ n q, numS 2 ⟨l, false⟩ = (n, q) := ⟨_, _, rfl⟩
  obtain ⟨c2, q2, e2⟩ : ∃ n q, textS false q1 = (n, q) := ⟨_, _, rfl⟩
  obtain ⟨n3, q3, e3⟩ : ∃ n q, countS false q2 = (n, q) := ⟨_, _, rfl⟩
  obtain ⟨N4, q4, e4⟩ : ∃ n q, numsS n3 q3 = (n, q) := ⟨_, _, rfl⟩
  obtain ⟨n5, q5, e5⟩ : ∃ n q, countS false q4 = (n, q) := ⟨_, _, rfl⟩
  obtain ⟨T6, q6, e6⟩ : ∃ n q, termsS false n5 q5 = (n, q) := ⟨_, _, rfl⟩
  obtain ⟨x7, q7, e7⟩ : ∃ n q, textS false q6 = (n, q) := ⟨_, _, rfl⟩
  rw [dec_form l (by omega) e1 e2 e3 e4 e5 e6 e7] at h ⊢
  have hb := mb_dec l (by omega) e1 e2 e3 e4 e5 e6 e7
  have hk := num2_lt e1
  split at h
  · cases h
  · rename_i hn
    rw [if_neg hn]
    exact ⟨hb.1, hk⟩
theorem decM_no {l : List UInt8} {a : Option Addr} {c : Nat} {w : World} (hc : l.length ≤ c) (hm : c ≤ maxLen) (hs : Src w a l) (hn : a = none → c = 0) (hL : LibOk w) (h : (Wire.decN R false l).2 ≠ 0) : ∃ E : Nat, E ≠ 0 ∧ Calls Tryd.prog 16 #[.slice a l.length c] w fun e w' => ∃ na2 nc2 ta2 tc2 ra2 rc2, e = .returned (.tuple #[.agg #[.int .u16 0, .string ⟨#[]⟩, .slice na2 0 nc2, .slice ta2 0 tc2, .string ⟨#[]⟩, .slice ra2 0 rc2], .int .i64 (E : Int)]) ∧ Below w.heap.size w w' := by
  refine ⟨_, h, (decode_any a c l w hc hm hs hn hL).mono ?_⟩
  intro e w' hp
  have hno := dec_no R false l h
  obtain ⟨na, nc, ta, tc, ra, rc, he, _, hb⟩ := decM_of hp
  rw [hno] at he
  exact ⟨na, nc, ta, tc, ra, rc, he, hb⟩
theorem decM_yes {l : List UInt8} {a : Option Addr} {c : Nat} {w : World} (hc : l.length ≤ c) (hm : c ≤ maxLen) (hs : Src w a l) (hn : a = none → c = 0) (hL : LibOk w) (M : Wire.Msg) (h : Wire.decN R false l = (M, 0)) : Calls Tryd.prog 16 #[.slice a l.length c] w fun e w' => ∃ na2 nc2 ta2 tc2 ra2 rc2, e = .returned (.tuple #[.agg #[.int .u16 (M.kind : Int), .string M.chan, .slice na2 M.nums.length nc2, .slice ta2 M.terms.length tc2, .string M.text, .slice ra2 M.more.length rc2], .int .i64 0]) ∧ MA w' M na2 ta2 ra2 ∧ Below w.heap.size w w' := by
  refine (decode_any a c l w hc hm hs hn hL).mono ?_
  intro e w' hp
  rw [h] at hp
  obtain ⟨na, nc, ta, tc, ra, rc, he, ho, hb⟩ := decM_of hp
  obtain ⟨_, _, _, _, _, _, e1, e2, e3, hma⟩ := ho.ma
  cases e1; cases e2; cases e3
  exact ⟨na, nc, ta, tc, ra, rc, he, hma, hb⟩
set_option maxHeartbeats 4000000 in
theorem back_big (m : Wire.Msg) (na : Option Addr) (nc : Nat) (ta : Option Addr) (tc : Nat) (ra : Option Addr) (rc : Nat) (a : Option Addr) (c : Nat) (l : List UInt8) (w : World) (hm : MR m) (hA : MA w m na ta ra) (hL : LibOk w) (hlm : l.length ≤ maxLen) (hbig : 4000 < sizeM m ∨ 4000 < l.length) :
    Calls Tryd.prog 5 #[.agg #[.int .u16 (m.kind : Int), .string m.chan, .slice na m.nums.length nc, .slice ta m.terms.length tc, .string m.text, .slice ra m.more.length rc], .slice a l.length c] w (BoolPost true w) := by
  have hb1 := below_new w (.cells #[.int .u16 (m.kind : Int), .string m.chan, .slice na m.nums.length nc, .slice ta m.terms.length tc, .string m.text, .slice ra m.more.length rc] 27)
  have hm1 : MC (w.alloc (.cells #[.int .u16 (m.kind : Int), .string m.chan, .slice na m.nums.length nc, .slice ta m.terms.length tc, .string m.text, .slice ra m.more.length rc] 27)) w.heap.size #[.int .u16 (m.kind : Int), .string m.chan, .slice na m.nums.length nc, .slice ta m.terms.length tc, .string m.text, .slice ra m.more.length rc] := heap_alloc_at w _
  have HZ := Lib.hid (size_m m na nc ta tc ra rc (w.alloc (.cells #[.int .u16 (m.kind : Int), .string m.chan, .slice na m.nums.length nc, .slice ta m.terms.length tc, .string m.text, .slice ra m.more.length rc] 27)) hm.c hm.x hm.n hm.t hm.r hm.ts (hA.later hb1))
  have HB1 := Lib.hid hb1
  have HL1 := Lib.hid (lib_later hL hb1)
  obtain ⟨d0, d1, d2, d3, d4, d5⟩ := hm1.cells
  obtain ⟨S, hS⟩ : ∃ S, sizeM m = S := ⟨_, rfl⟩
  rw [hS] at HZ hbig
  have HBG := Lib.hid hbig
  unfold maxLen at hlm
  clear hm1 hb1 hA hL hm hS hbig
  by_cases h1 : 4000 < S
  · go_enter Tryd.func5, Tryd.ntmps5
    go_wp2_with (first
      | (go_at_call 8; (with_reducible refine Calls.mono HZ.out ?_); rintro e w2 ⟨rfl, hb2⟩; have HB2 := Lib.hid (HB1.out.trans (hb2.mono HB1.out.size)); have HWK := Lib.hid (works_any w2 (lib_later HL1.out hb2)); clear hb2)
      | (go_at_call 9; (with_reducible refine Calls.mono HWK.out ?_); rintro e w3 ⟨rfl, hb3⟩; have HB3 := Lib.hid (HB2.out.trans (hb3.mono HB2.out.size)); clear hb3))
    go_ret
    exact ⟨rfl, HB3.out⟩
  · have h2 : 4000 < l.length := HBG.out.resolve_left h1
    have hli : (4000 : Int) < (l.length : Int) := by omega
    have h1d : decide (4000 < S) = false := by simpa using h1
    go_enter Tryd.func5, Tryd.ntmps5
    go_wp2_with (first
      | (go_at_call 8; (with_reducible refine Calls.mono HZ.out ?_); rintro e w2 ⟨rfl, hb2⟩; have HB2 := Lib.hid (HB1.out.trans (hb2.mono HB1.out.size)); have HWK := Lib.hid (works_any w2 (lib_later HL1.out hb2)); clear hb2)
      | (go_at_call 9; (with_reducible refine Calls.mono HWK.out ?_); rintro e w3 ⟨rfl, hb3⟩; have HB3 := Lib.hid (HB2.out.trans (hb3.mono HB2.out.size)); clear hb3))
    go_ret
    exact ⟨rfl, HB3.out⟩
set_option maxHeartbeats 16000000 in
theorem back_small (m : Wire.Msg) (na : Option Addr) (nc : Nat) (ta : Option Addr) (tc : Nat) (ra : Option Addr) (rc : Nat) (a : Option Addr) (c : Nat) (l : List UInt8) (w : World) (hm : MR m) (hA : MA w m na ta ra) (hL : LibOk w) (hsm : ¬ 4000 < sizeM m) (hl : l.length ≤ 4000) (hc : l.length ≤ c) (hcm : c ≤ maxLen) (hs : Src w a l) (hn : a = none → c = 0) :
    Calls Tryd.prog 5 #[.agg #[.int .u16 (m.kind : Int), .string m.chan, .slice na m.nums.length nc, .slice ta m.terms.length tc, .string m.text, .slice ra m.more.length rc], .slice a l.length c] w (BoolPost true w) := by
  have hS := small_of hsm
  have hMB := hS.mb hm.rt
  have hb1 := below_new w (.cells #[.int .u16 (m.kind : Int), .string m.chan, .slice na m.nums.length nc, .slice ta m.terms.length tc, .string m.text, .slice ra m.more.length rc] 27)
  have hm1 : MC (w.alloc (.cells #[.int .u16 (m.kind : Int), .string m.chan, .slice na m.nums.length nc, .slice ta m.terms.length tc, .string m.text, .slice ra m.more.length rc] 27)) w.heap.size #[.int .u16 (m.kind : Int), .string m.chan, .slice na m.nums.length nc, .slice ta m.terms.length tc, .string m.text, .slice ra m.more.length rc] := heap_alloc_at w _
  have HZ := Lib.hid (size_m m na nc ta tc ra rc (w.alloc (.cells #[.int .u16 (m.kind : Int), .string m.chan, .slice na m.nums.length nc, .slice ta m.terms.length tc, .string m.text, .slice ra m.more.length rc] 27)) hm.c hm.x hm.n hm.t hm.r hm.ts (hA.later hb1))
  have HB1 := Lib.hid hb1
  have HLB : Hid (∀ W, Below w.heap.size w W → LibOk W) := fun W h => lib_later hL h
  have HAB : Hid (∀ W, Below w.heap.size w W → MA W m na ta ra) := fun W h => hA.later h
  have HSB : Hid (∀ W, Below w.heap.size w W → Src W a l) := fun W h => hs.below h
  have HMR := Lib.hid hm
  have HMB := Lib.hid hMB
  have HM1 := Lib.hid hm1
  have HEN : Hid (∀ W, Below w.heap.size w W → Calls Tryd.prog 13 #[.agg #[.int .u16 (m.kind : Int), .string m.chan, .slice na m.nums.length nc, .slice ta m.terms.length tc, .string m.text, .slice ra m.more.length rc]] W (EncPost m W)) := fun W h => encode_any m na nc ta tc ra rc W hMB hm.vm.kind (hA.later h) (lib_later hL h)
  unfold EncPost at HEN
  have HB0 : Hid ((encN R m).2 ≠ 0 → (encN R m).1 = []) := enc_no R m
  have HD0 : Hid ((encN R m).2 = 0 → Wire.decN R false (encN R m).1 = (m, 0)) := dec_enc R m hm.vm hm.rt
  obtain ⟨B, hB⟩ : ∃ B, (encN R m).1 = B := ⟨_, rfl⟩
  obtain ⟨E, hE⟩ : ∃ E, (encN R m).2 = E := ⟨_, rfl⟩
  rw [hB, hE] at HEN HB0 HD0
  obtain ⟨d0, d1, d2, d3, d4, d5⟩ := hm1.cells
  obtain ⟨S, hSz⟩ : ∃ S, sizeM m = S := ⟨_, rfl⟩
  rw [hSz] at HZ hsm
  have hsd : decide (4000 < S) = false := by simpa using hsm
  have hli : (l.length : Int) ≤ 4000 := by omega
  have HCAP : Hid (l.length ≤ c ∧ c ≤ maxLen ∧ (a = none → c = 0)) := ⟨hc, hcm, hn⟩
  have HLL : Hid (l.length ≤ 4000) := hl
  have HDN : Hid (∀ W, Below w.heap.size w W → (Wire.decN R false l).2 ≠ 0 → ∃ E : Nat, E ≠ 0 ∧ Calls Tryd.prog 16 #[.slice a l.length c] W fun e w' => ∃ na2 nc2 ta2 tc2 ra2 rc2, e = .returned (.tuple #[.agg #[.int .u16 0, .string ⟨#[]⟩, .slice na2 0 nc2, .slice ta2 0 tc2, .string ⟨#[]⟩, .slice ra2 0 rc2], .int .i64 (E : Int)]) ∧ Below W.heap.size W w') := fun W h => decM_no hc hcm (hs.below h) hn (lib_later hL h)
  have HDY : Hid (∀ W M, Below w.heap.size w W → Wire.decN R false l = (M, 0) → Calls Tryd.prog 16 #[.slice a l.length c] W fun e w' => ∃ na2 nc2 ta2 tc2 ra2 rc2, e = .returned (.tuple #[.agg #[.int .u16 (M.kind : Int), .string M.chan, .slice na2 M.nums.length nc2, .slice ta2 M.terms.length tc2, .string M.text, .slice ra2 M.more.length rc2], .int .i64 0]) ∧ MA w' M na2 ta2 ra2 ∧ Below W.heap.size W w') := fun W M h => decM_yes hc hcm (hs.below h) hn (lib_later hL h) M
  have HCV : Hid (∀ (W : World) (b : Option Addr) (c : Nat), Src W b l → (convert 33 9 (.slice b l.length c)).run Tryd.prog W = .ok (.string ⟨l.toArray⟩) W) := fun W b c h => conv_src W b l c h
  clear hm1 hb1 hA hL hm hSz hS hMB hB hE hl hc hcm hs hn
  go_enter Tryd.func5, Tryd.ntmps5
  go_upto_region 4 with (first
    | (go_at_call 8; (with_reducible refine Calls.mono HZ.out ?_); rintro e w2 ⟨rfl, hb2⟩; have HB2 := Lib.hid (HB1.out.trans (hb2.mono HB1.out.size)); have HM2 := Lib.hid (HM1.out.later hb2); obtain ⟨f0, f1, f2, f3, f4, f5⟩ := (HM1.out.later hb2).cells; clear hb2)
    | (go_at_call 13; (with_reducible refine Calls.mono (HEN.out _ HB2.out) ?_); rintro e w3 ⟨v3, rfl, hv3, hb3⟩; obtain ⟨a3, c3, rfl⟩ := own_slice hv3; have HV3 := Lib.hid hv3; have HB3 := Lib.hid (HB2.out.trans (hb3.mono HB2.out.size)); have HM3 := Lib.hid (HM2.out.later hb3); clear hv3 hb3))
  clear d0 d1 d2 d3 d4 d5 f0 f1 f2 f3 f4 f5
  go_upto_if 27 with fail
  go_cut [7, 8] from 26 to 43 (fun _ _ wx => Hid (Below w.heap.size w wx))
  case first =>
    by_cases hE0 : E = 0
    · subst hE0
      have hD := HD0.out rfl
      obtain ⟨k1, k2, k3⟩ := byt_cap HV3.out
      have HD := Lib.hid (decM_yes k1 k2 (Src.of_byt HV3.out) k3 (HLB.out _ HB3.out) m hD)
      clear hD k1 k2 k3 HD0 HB0
      go_upto_region 6 with (go_at_call 16; (with_reducible refine Calls.mono HD.out ?_); rintro e w4 ⟨na2, nc2, ta2, tc2, ra2, rc2, rfl, hma4, hb4⟩; have HMA4 := Lib.hid hma4; have HB4 := Lib.hid hb4; clear hma4 hb4)
      have hb5 := below_new w4 (.cells #[.int .u16 (m.kind : Int), .string m.chan, .slice na2 m.nums.length nc2, .slice ta2 m.terms.length tc2, .string m.text, .slice ra2 m.more.length rc2] 27)
      have hm5 : MC (w4.alloc (.cells #[.int .u16 (m.kind : Int), .string m.chan, .slice na2 m.nums.length nc2, .slice ta2 m.terms.length tc2, .string m.text, .slice ra2 m.more.length rc2] 27)) w4.heap.size #[.int .u16 (m.kind : Int), .string m.chan, .slice na2 m.nums.length nc2, .slice ta2 m.terms.length tc2, .string m.text, .slice ra2 m.more.length rc2] := heap_alloc_at w4 _
      have hb35 : Below w3.heap.size w3 (w4.alloc (.cells #[.int .u16 (m.kind : Int), .string m.chan, .slice na2 m.nums.length nc2, .slice ta2 m.terms.length tc2, .string m.text, .slice ra2 m.more.length rc2] 27)) := HB4.out.trans (hb5.mono HB4.out.size)
      have hn5 := HM3.out.later hb35
      have hma5 := HMA4.out.later hb5
      have hbw5 := HB3.out.trans (hb35.mono HB3.out.size)
      obtain ⟨vb, hvb⟩ : ∃ vb, w4.heap.size = vb := ⟨_, rfl⟩
      rw [hvb] at hm5 ⊢
      clear hb5 hb35 hvb HMA4 HB4
      generalize w4.alloc (.cells #[.int .u16 (m.kind : Int), .string m.chan, .slice na2 m.nums.length nc2, .slice ta2 m.terms.length tc2, .string m.text, .slice ra2 m.more.length rc2] 27) = w5 at hm5 hn5 hma5 hbw5
      have HS := Lib.hid (same_m m na nc ta tc ra rc na2 nc2 ta2 tc2 ra2 rc2 w5 HMR.out.n HMR.out.t HMR.out.r (HAB.out _ hbw5) hma5)
      have HB5 := Lib.hid hbw5
      obtain ⟨d0, d1, d2, d3, d4, d5⟩ := hm5.cells
      obtain ⟨f0, f1, f2, f3, f4, f5⟩ := hn5.cells
      clear hm5 hn5 hma5 hbw5
      go_wp2_with (go_at_call 15; (with_reducible refine Calls.mono HS.out ?_); rintro e w6 ⟨rfl, hb6⟩; have HB6 := Lib.hid (HB5.out.trans (hb6.mono HB5.out.size)); clear hb6)
      go_meet
      case rel => exact HB6
    · have hEi : ((E : Int) == 0) = false := by simpa using hE0
      obtain rfl := HB0.out hE0
      go_wp2_with fail
      go_meet
      case rel => exact HB3
  case rest =>
    have hB := hcut
    clear HB3 HM3 HV3 HB2 HM2 HZ HEN
    by_cases hD : (Wire.decN R false l).2 = 0
    · obtain ⟨M, hM⟩ : ∃ M, (Wire.decN R false l).1 = M := ⟨_, rfl⟩
      have hMM : Wire.decN R false l = (M, 0) := by rw [← hM, ← hD]
      have HMO := Lib.hid (mb_ok HLL.out hD)
      have HEE := Lib.hid (enc_dec R l hD)
      have hfc := dec_facts l HLL.out
      rw [hM] at HMO HEE hfc
      have HD := Lib.hid (HDY.out wc M hB.out hMM)
      clear hD hM hMM hfc HDN HDY
      go_upto_region 11 with (go_at_call 16; (with_reducible refine Calls.mono HD.out ?_); rintro e w4 ⟨na2, nc2, ta2, tc2, ra2, rc2, rfl, hma4, hb4⟩; have HMA4 := Lib.hid hma4; have HB4 := Lib.hid hb4; clear hma4 hb4)
      have hb5 := below_new w4 (.cells #[.int .u16 (M.kind : Int), .string M.chan, .slice na2 M.nums.length nc2, .slice ta2 M.terms.length tc2, .string M.text, .slice ra2 M.more.length rc2] 27)
      have hm5 : MC (w4.alloc (.cells #[.int .u16 (M.kind : Int), .string M.chan, .slice na2 M.nums.length nc2, .slice ta2 M.terms.length tc2, .string M.text, .slice ra2 M.more.length rc2] 27)) w4.heap.size #[.int .u16 (M.kind : Int), .string M.chan, .slice na2 M.nums.length nc2, .slice ta2 M.terms.length tc2, .string M.text, .slice ra2 M.more.length rc2] := heap_alloc_at w4 _
      have hma5 := HMA4.out.later hb5
      have hbw5 := (hB.out.trans (HB4.out.mono hB.out.size)).trans (hb5.mono (Nat.le_trans hB.out.size HB4.out.size))
      obtain ⟨vb, hvb⟩ : ∃ vb, w4.heap.size = vb := ⟨_, rfl⟩
      rw [hvb] at hm5 ⊢
      clear hb5 hvb HMA4 HB4
      generalize w4.alloc (.cells #[.int .u16 (M.kind : Int), .string M.chan, .slice na2 M.nums.length nc2, .slice ta2 M.terms.length tc2, .string M.text, .slice ra2 M.more.length rc2] 27) = w5 at hm5 hma5 hbw5
      have HE := Lib.hid (encode_any M na2 nc2 ta2 tc2 ra2 rc2 w5 HMO.out.1 HMO.out.2 hma5 (HLB.out _ hbw5))
      unfold EncPost at HE
      rw [HEE.out] at HE
      have HB5 := Lib.hid hbw5
      obtain ⟨d0, d1, d2, d3, d4, d5⟩ := hm5.cells
      clear hm5 hma5 hbw5
      go_upto_region 14 with (go_at_call 13; (with_reducible refine Calls.mono HE.out ?_); rintro e w6 ⟨v6, rfl, hv6, hb6⟩; obtain ⟨a6, c6, rfl⟩ := own_slice hv6; have HB6 := Lib.hid (HB5.out.trans (hb6.mono HB5.out.size)); have cv1 := HCV.out w6 a6 c6 (Src.of_byt hv6); clear hv6 hb6)
      have cv2 := HCV.out w6 a c (HSB.out w6 HB6.out)
      generalize (⟨l.toArray⟩ : ByteArray) = T6 at cv1 cv2
      have HWK := Lib.hid (works_any w6 (HLB.out _ HB6.out))
      go_wp2_with (go_at_call 9; (with_reducible refine Calls.mono HWK.out ?_); rintro e w7 ⟨rfl, hb7⟩; have HB7 := Lib.hid (HB6.out.trans (hb7.mono HB6.out.size)); clear hb7)
      go_ret
      exact ⟨rfl, HB7.out⟩
    · obtain ⟨E2, hE2, hcall⟩ := HDN.out wc hB.out hD
      have hEi : ((E2 : Int) != 0) = true := by simpa using hE2
      have HD := Lib.hid hcall
      clear hcall hD HDN HDY
      go_upto_region 12 with (go_at_call 16; (with_reducible refine Calls.mono HD.out ?_); rintro e w4 ⟨na2, nc2, ta2, tc2, ra2, rc2, rfl, hb4⟩; have HB4 := Lib.hid hb4; clear hb4)
      have hb5 := below_new w4 (.cells #[.int .u16 0, .string ⟨#[]⟩, .slice na2 0 nc2, .slice ta2 0 tc2, .string ⟨#[]⟩, .slice ra2 0 rc2] 27)
      have hm5 : MC (w4.alloc (.cells #[.int .u16 0, .string ⟨#[]⟩, .slice na2 0 nc2, .slice ta2 0 tc2, .string ⟨#[]⟩, .slice ra2 0 rc2] 27)) w4.heap.size #[.int .u16 0, .string ⟨#[]⟩, .slice na2 0 nc2, .slice ta2 0 tc2, .string ⟨#[]⟩, .slice ra2 0 rc2] := heap_alloc_at w4 _
      have hbw5 := (hB.out.trans (HB4.out.mono hB.out.size)).trans (hb5.mono (Nat.le_trans hB.out.size HB4.out.size))
      obtain ⟨vb, hvb⟩ : ∃ vb, w4.heap.size = vb := ⟨_, rfl⟩
      rw [hvb] at hm5 ⊢
      clear hb5 hvb HB4
      generalize w4.alloc (.cells #[.int .u16 0, .string ⟨#[]⟩, .slice na2 0 nc2, .slice ta2 0 tc2, .string ⟨#[]⟩, .slice ra2 0 rc2] 27) = w5 at hm5 hbw5
      have HS : Hid (Calls Tryd.prog 15 #[.agg #[.int .u16 0, .string ⟨#[]⟩, .slice na2 0 nc2, .slice ta2 0 tc2, .string ⟨#[]⟩, .slice ra2 0 rc2], .agg #[.int .u16 0, .string ⟨#[]⟩, .slice none 0 0, .slice none 0 0, .string ⟨#[]⟩, .slice none 0 0]] w5 (BoolPost true w5)) := same_m no na2 nc2 ta2 tc2 ra2 rc2 none 0 none 0 none 0 w5 (Nat.zero_le _) (Nat.zero_le _) (Nat.zero_le _) ⟨.inl rfl, .inl rfl, .inl rfl⟩ ⟨.inl rfl, .inl rfl, .inl rfl⟩
      have HB5 := Lib.hid hbw5
      obtain ⟨d0, d1, d2, d3, d4, d5⟩ := hm5.cells
      clear hm5 hbw5
      go_wp2_with (first
        | (go_at_call 15; (with_reducible refine Calls.mono HS.out ?_); rintro e w6 ⟨rfl, hb6⟩; have HB6 := Lib.hid (HB5.out.trans (hb6.mono HB5.out.size)); have HWK := Lib.hid (works_any w6 (HLB.out _ HB6.out)); clear hb6)
        | (go_at_call 9; (with_reducible refine Calls.mono HWK.out ?_); rintro e w7 ⟨rfl, hb7⟩; have HB7 := Lib.hid (HB6.out.trans (hb7.mono HB6.out.size)); clear hb7))
      go_ret
      exact ⟨rfl, HB7.out⟩
theorem back_any (m : Wire.Msg) (na : Option Addr) (nc : Nat) (ta : Option Addr) (tc : Nat) (ra : Option Addr) (rc : Nat) (a : Option Addr) (c : Nat) (l : List UInt8) (w : World) (hm : MR m) (hA : MA w m na ta ra) (hL : LibOk w) (hc : l.length ≤ c) (hcm : c ≤ maxLen) (hs : Src w a l) (hn : a = none → c = 0) :
    Calls Tryd.prog 5 #[.agg #[.int .u16 (m.kind : Int), .string m.chan, .slice na m.nums.length nc, .slice ta m.terms.length tc, .string m.text, .slice ra m.more.length rc], .slice a l.length c] w (BoolPost true w) := by
  by_cases h1 : 4000 < sizeM m
  · exact back_big m na nc ta tc ra rc a c l w hm hA hL (by omega) (.inl h1)
  · by_cases h2 : 4000 < l.length
    · exact back_big m na nc ta tc ra rc a c l w hm hA hL (by omega) (.inr h2)
    · exact back_small m na nc ta tc ra rc a c l w hm hA hL h1 (by omega) hc hcm hs hn
end Go.Proofs.YtakfhoodjcfpcaaDoor.T
