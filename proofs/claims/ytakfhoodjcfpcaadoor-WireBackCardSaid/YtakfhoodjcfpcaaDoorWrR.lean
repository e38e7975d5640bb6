/- wire: WireCut -/
import Derived.Test.YtakfhoodjcfpcaaDoorWrQ
namespace Go.Proofs.YtakfhoodjcfpcaaDoor.T
set_option linter.unusedVariables false
set_option maxRecDepth 100000
open Go.RowKit Tlv Wire
/-! wire: WireCut -/
def bare (m : Wire.Msg) : Wire.Msg := { m with more := [] }
theorem decM_80 {l : List UInt8} {a : Option Addr} {c n : Nat} (hln : l.length = n) {w : World} (hc : n ≤ c) (hm : c ≤ maxLen) (hs : Src w a l) (hn : a = none → c = 0) (hL : LibOk w) (h : Wire.decN R false l = (no, 80)) : Calls Tryd.prog 16 #[.slice a n c] w fun e w' => ∃ na2 nc2 ta2 tc2 ra2 rc2, e = .returned (.tuple #[.agg #[.int .u16 0, .string ⟨#[]⟩, .slice na2 0 nc2, .slice ta2 0 tc2, .string ⟨#[]⟩, .slice ra2 0 rc2], .int .i64 80]) ∧ Below w.heap.size w w' := by
  subst hln
  refine (decode_any a c l w hc hm hs hn hL).mono ?_
  intro e w' hp
  rw [h] at hp
  obtain ⟨na, nc, ta, tc, ra, rc, he, _, hb⟩ := decM_of hp
  exact ⟨na, nc, ta, tc, ra, rc, he, hb⟩
set_option maxHeartbeats 4000000 in
theorem cut_big (m : Wire.Msg) (na : Option Addr) (nc : Nat) (ta : Option Addr) (tc : Nat) (ra : Option Addr) (rc : Nat) (at_ : Int) (w : World) (hm : MR m) (hA : MA w m na ta ra) (hL : LibOk w) (hbig : 4000 < sizeM m) :
    Calls Tryd.prog 6 #[.agg #[.int .u16 (m.kind : Int), .string m.chan, .slice na m.nums.length nc, .slice ta m.terms.length tc, .string m.text, .slice ra m.more.length rc], .int .i64 at_] w (BoolPost true w) := by
  have hb1 := below_new w (.cells #[.int .u16 (m.kind : Int), .string m.chan, .slice na m.nums.length nc, .slice ta m.terms.length tc, .string m.text, .slice ra m.more.length rc] 27)
  have hm1 : MC (w.alloc (.cells #[.int .u16 (m.kind : Int), .string m.chan, .slice na m.nums.length nc, .slice ta m.terms.length tc, .string m.text, .slice ra m.more.length rc] 27)) w.heap.size #[.int .u16 (m.kind : Int), .string m.chan, .slice na m.nums.length nc, .slice ta m.terms.length tc, .string m.text, .slice ra m.more.length rc] := heap_alloc_at w _
  have HZ := Lib.hid (size_m m na nc ta tc ra rc (w.alloc (.cells #[.int .u16 (m.kind : Int), .string m.chan, .slice na m.nums.length nc, .slice ta m.terms.length tc, .string m.text, .slice ra m.more.length rc] 27)) hm.c hm.x hm.n hm.t hm.r hm.ts (hA.later hb1))
  have HB1 := Lib.hid hb1
  have HL1 := Lib.hid (lib_later hL hb1)
  obtain ⟨d0, d1, d2, d3, d4, d5⟩ := hm1.cells
  obtain ⟨S, hS⟩ : ∃ S, sizeM m = S := ⟨_, rfl⟩
  rw [hS] at HZ hbig
  clear hm1 hb1 hA hL hm hS
  go_enter Tryd.func6, Tryd.ntmps6
  go_wp2_with (first
    | (go_at_call 8; (with_reducible refine Calls.mono HZ.out ?_); rintro e w2 ⟨rfl, hb2⟩; have HB2 := Lib.hid (HB1.out.trans (hb2.mono HB1.out.size)); have HWK := Lib.hid (works_any w2 (lib_later HL1.out hb2)); clear hb2)
    | (go_at_call 9; (with_reducible refine Calls.mono HWK.out ?_); rintro e w3 ⟨rfl, hb3⟩; have HB3 := Lib.hid (HB2.out.trans (hb3.mono HB2.out.size)); clear hb3))
  go_ret
  exact ⟨rfl, HB3.out⟩
set_option maxHeartbeats 16000000 in
theorem cut_small (m : Wire.Msg) (na : Option Addr) (nc : Nat) (ta : Option Addr) (tc : Nat) (ra : Option Addr) (rc : Nat) (at_ : Int) (w : World) (hm : MR m) (hA : MA w m na ta ra) (hL : LibOk w) (hsm : ¬ 4000 < sizeM m) :
    Calls Tryd.prog 6 #[.agg #[.int .u16 (m.kind : Int), .string m.chan, .slice na m.nums.length nc, .slice ta m.terms.length tc, .string m.text, .slice ra m.more.length rc], .int .i64 at_] w (BoolPost true w) := by
  have hS := small_of hsm
  have hMB : MB (bare m) := (show Small (bare m) from ⟨hS.c, hS.x, hS.n, hS.t, Nat.zero_le _⟩).mb (fun r h => by cases h)
  have hVM : VM (bare m) := ⟨hm.vm.kind, hm.vm.nums, hm.vm.ln, hm.vm.lt, hm.vm.terms, hm.vm.chan, hm.vm.text⟩
  have hb1 := below_new w (.cells #[.int .u16 (m.kind : Int), .string m.chan, .slice na m.nums.length nc, .slice ta m.terms.length tc, .string m.text, .slice ra m.more.length rc] 27)
  have hm1 : MC (w.alloc (.cells #[.int .u16 (m.kind : Int), .string m.chan, .slice na m.nums.length nc, .slice ta m.terms.length tc, .string m.text, .slice ra m.more.length rc] 27)) w.heap.size #[.int .u16 (m.kind : Int), .string m.chan, .slice na m.nums.length nc, .slice ta m.terms.length tc, .string m.text, .slice ra m.more.length rc] := heap_alloc_at w _
  have HZ := Lib.hid (size_m m na nc ta tc ra rc (w.alloc (.cells #[.int .u16 (m.kind : Int), .string m.chan, .slice na m.nums.length nc, .slice ta m.terms.length tc, .string m.text, .slice ra m.more.length rc] 27)) hm.c hm.x hm.n hm.t hm.r hm.ts (hA.later hb1))
  have HB1 := Lib.hid hb1
  have HLB : Hid (∀ W, Below w.heap.size w W → LibOk W) := fun W h => lib_later hL h
  have HM1 := Lib.hid hm1
  have HEN : Hid (∀ W, Below w.heap.size w W → Calls Tryd.prog 13 #[.agg #[.int .u16 (m.kind : Int), .string m.chan, .slice na m.nums.length nc, .slice ta m.terms.length tc, .string m.text, .slice none 0 0]] W (EncPost (bare m) W)) := fun W h => encode_any (bare m) na nc ta tc none 0 W hMB hm.vm.kind ⟨(hA.later h).nums, (hA.later h).terms, .inl rfl⟩ (lib_later hL h)
  unfold EncPost at HEN
  have HB0 : Hid ((encN R (bare m)).2 = 0 → 0 < (encN R (bare m)).1.length ∧ (encN R (bare m)).1.length < 32768) := fun h => by
    obtain ⟨h1, h2, _⟩ := enc_ok R h
    rw [h2]
    have := enc_pos (bare m)
    exact ⟨by show 0 < (encB (bare m)).length; omega, enc_short R (bare m) rfl h1 (by have := hS.t; show tsum m.terms ≤ _; omega)⟩
  have HD1 : Hid (∀ k, (encN R (bare m)).2 = 0 → k < (encN R (bare m)).1.length → Wire.decN R false ((encN R (bare m)).1.take k) = (no, 80)) := fun k h hk => cut_less R (bare m) hVM rfl h k hk
  have HD2 : Hid ((encN R (bare m)).2 = 0 → (encN R (bare m)).1.length < 32768 → Wire.decN R false ((encN R (bare m)).1 ++ [1]) = (no, 80)) := fun h hk => cut_more R (bare m) hVM rfl h hk
  obtain ⟨B, hB⟩ : ∃ B, (encN R (bare m)).1 = B := ⟨_, rfl⟩
  obtain ⟨E, hE⟩ : ∃ E, (encN R (bare m)).2 = E := ⟨_, rfl⟩
  rw [hB, hE] at HEN HB0 HD2
  simp only [hB, hE] at HD1
  obtain ⟨d0, d1, d2, d3, d4, d5⟩ := hm1.cells
  obtain ⟨S, hSz⟩ : ∃ S, sizeM m = S := ⟨_, rfl⟩
  rw [hSz] at HZ hsm
  obtain ⟨i0, hi0, hz0, hz1, hz2⟩ := info_parts Tryd.info5
  clear hm1 hb1 hA hL hm hSz hS hMB hB hE hVM
  go_enter Tryd.func6, Tryd.ntmps6
  go_upto_region 3 with (go_at_call 8; (with_reducible refine Calls.mono HZ.out ?_); rintro e w2 ⟨rfl, hb2⟩; have HB2 := Lib.hid (HB1.out.trans (hb2.mono HB1.out.size)); have HM2 := Lib.hid (HM1.out.later hb2); clear hb2)
  obtain ⟨_, _, _, _, _, f5⟩ := HM2.out.cells
  have fz : w2.frozen? ⟨w.heap.size, 5, none⟩ = false := frozen_of_row _ _ _ _ _ HM2.out
  go_upto_region 4 with fail
  have hm3 : MC (w2.setCell ⟨w.heap.size, 5, none⟩ (.slice none 0 0)) w.heap.size #[.int .u16 (m.kind : Int), .string m.chan, .slice na m.nums.length nc, .slice ta m.terms.length tc, .string m.text, .slice none 0 0] := by
    show (w2.setCell _ _).heap[_]? = _
    rw [heap_setCell_same _ _ _ _ _ _ HM2.out]; rfl
  have hb3 : Below w.heap.size w (w2.setCell ⟨w.heap.size, 5, none⟩ (.slice none 0 0)) := HB2.out.setCell (Nat.le_refl _) _
  clear d0 d1 d2 d3 d4 d5 f5 fz
  generalize w2.setCell ⟨w.heap.size, 5, none⟩ (.slice none 0 0) = w3 at hm3 hb3
  obtain ⟨d0, d1, d2, d3, d4, d5⟩ := hm3.cells
  have HB3 := Lib.hid hb3
  clear hm3 hb3
  go_upto_region 5 with (go_at_call 13; (with_reducible refine Calls.mono (HEN.out _ HB3.out) ?_); rintro e w4 ⟨v4, rfl, hv4, hb4⟩; obtain ⟨a4, c4, rfl⟩ := own_slice hv4; have HV4 := Lib.hid hv4; have HB4 := Lib.hid (HB3.out.trans (hb4.mono HB3.out.size)); have hz4 := hb4.size; clear hv4 hb4)
  by_cases hE0 : E = 0
  · subst hE0
    obtain ⟨hp1, hp2⟩ := HB0.out rfl
    obtain ⟨k1, k2, k3⟩ := byt_cap HV4.out
    have hp1i : (0 : Int) < (B.length : Int) := by omega
    obtain ⟨u, hu⟩ : ∃ u, IntKind.u64.wrap at_ = u := ⟨_, rfl⟩
    have hu0 : 0 ≤ u := by
      rw [← hu]
      unfold IntKind.wrap
      have e1 : (2 : Int) ^ IntKind.u64.bits = 18446744073709551616 := by decide
      simp [IntKind.signed, e1]
      omega
    obtain ⟨nB, hnB⟩ : ∃ n : Int, (B.length : Int) = n := ⟨_, rfl⟩
    rw [hnB] at hp1i
    have hwB : IntKind.u64.wrap nB = nB := by rw [← hnB]; exact u64_nat B.length (by omega)
    have hne : (nB == 0) = false := by simp; omega
    have hne2 : ¬ nB = 0 := by omega
    have hk0 : 0 ≤ u % nB := Int.emod_nonneg _ (by omega)
    have hk1 : u % nB < nB := Int.emod_lt_of_pos _ hp1i
    have HK := Lib.hid (show ∃ k : Nat, (k : Int) = u % nB ∧ k < B.length from ⟨(u % nB).toNat, by omega, by omega⟩)
    have HP2 := Lib.hid hp2; have HK1 := Lib.hid k1; have HK2 := Lib.hid k2; have HK3 := Lib.hid k3; have HNB := Lib.hid hnB
    obtain ⟨kk, hkk⟩ : ∃ kk, u % nB = kk := ⟨_, rfl⟩
    rw [hkk] at HK hk0 hk1
    have hkb : kk ≤ 32768 := by omega
    have hw64 : wrap64 kk = kk := by unfold wrap64; omega
    clear hp2 k1 k2 k3 hp1 hk1
    go_upto_region 10 with fail
    obtain ⟨k, hkk2, hkB⟩ := HK.out
    subst hkk2
    clear d0 d1 d2 d3 d4 d5 hw64 hkk hwB hnB hu hkb hne hne2 hk0 hp1i hu0
    have hkc : (k : Int) ≤ (c4 : Int) := by have := HK1.out; omega
    have HD5 := Lib.hid (decM_80 (n := k) (by rw [List.length_take]; omega) (by omega) HK2.out ((Src.of_byt HV4.out).take k) HK3.out (HLB.out _ HB4.out) (HD1.out k (by simp) hkB))
    have HSB := Lib.hid (Src.of_byt HV4.out)
    clear hkB
    go_upto_region 11 with (go_at_call 16; (with_reducible refine Calls.mono HD5.out ?_); rintro e w5 ⟨na2, nc2, ta2, tc2, ra2, rc2, rfl, hb5⟩; have HB5 := Lib.hid hb5; clear hb5)
    have hb6 := below_new w5 (.cells #[.int .u16 0, .string ⟨#[]⟩, .slice na2 0 nc2, .slice ta2 0 tc2, .string ⟨#[]⟩, .slice ra2 0 rc2] 27)
    have hb46 : Below w4.heap.size w4 (w5.alloc (.cells #[.int .u16 0, .string ⟨#[]⟩, .slice na2 0 nc2, .slice ta2 0 tc2, .string ⟨#[]⟩, .slice ra2 0 rc2] 27)) := HB5.out.trans (hb6.mono HB5.out.size)
    clear hb6
    generalize w5.alloc (.cells #[.int .u16 0, .string ⟨#[]⟩, .slice na2 0 nc2, .slice ta2 0 tc2, .string ⟨#[]⟩, .slice ra2 0 rc2] 27) = w6 at hb46
    have HS6 := Lib.hid (HSB.out.below hb46)
    have HB6 := Lib.hid (HB4.out.trans (hb46.mono HB4.out.size))
    clear hb46 HB5
    go_upto_region 13 with (at_builtin; refine wpList_app rfl _ _ rfl w6.heap.size (.slice none 0 0) 0 [] rfl (World.ownsRow_nil _ _ _ _) a4 B c4 rfl HS6.out (by have := HP2.out; omega) (Nat.le_refl _) ?_; intro v7 w7 ho7 hg7 ha7; have HB7 : Hid (Below w6.heap.size w6 w7) := ⟨hg7.os, hg7.tape, hg7.output, hg7.size, fun k hk => hg7.block k hk (fun e => by cases e)⟩; have HO7 : Hid (Byt w7 w6.heap.size v7 B) := byt_of' ho7 (by simp); obtain ⟨a7, c7, rfl⟩ := own_slice HO7.out; clear ho7 hg7 ha7)
    have hz7 := HB7.out.size
    have hBl : B.length ≤ 32768 := Nat.le_of_lt HP2.out
    go_upto_region 14 with (at_builtin; refine wpList_append_lies _ rfl _ _ _ rfl w6.heap.size 5 i0 _ 1 1 Tryd.underlying33 hi0 hz0 hz1 hz2 rfl (by omega) (.slice a7 B.length c7) B.length (B.map bv) rfl (HO7.out.alloc _) ⟨w7.heap.size, 0, none⟩ 1 1 [.int .u8 1] rfl rfl (World.news_of_block (cs := #[.int .u8 1]) (t := 5) (fr := (0, 0)) (heap_alloc_at w7 _)) (by simp [Value.oneCell']) (by omega) (by unfold maxLen; omega) (by omega) (by simp; omega) (w7.heap.size + 1) (by simp) ?_; intro g8 c8 w8 ho8 hg8 ha8 hl8; have HO8 := Lib.hid ho8; have HG8 := Lib.hid hg8; clear ho8 hg8 ha8 hl8)
    have hb68 : Below w6.heap.size w6 w8 := (HB7.out.alloc hz7 _).grown HG8.out (by simp; omega) (fun g hg => (HO7.out.lt g hg).1)
    have hV8 : Byt w8 w6.heap.size (.slice (some ⟨g8, 0, none⟩) (B.length + 1) c8) (B ++ [1]) := by
      have h := HO8.out
      unfold Byt
      rw [List.length_append, List.map_append]
      exact h
    obtain ⟨k1, k2, k3⟩ := byt_cap hV8
    rw [List.length_append] at k1
    have HB8 := Lib.hid (HB6.out.trans (hb68.mono HB6.out.size))
    have HD9 := Lib.hid (decM_80 (n := B.length + 1) (by simp) k1 k2 (Src.of_byt hV8) k3 (HLB.out _ HB8.out) (HD2.out (by simp) HP2.out))
    clear hb68 hV8 k1 k2 k3 hBl hz7
    go_upto_region 15 with (go_at_call 16; (with_reducible refine Calls.mono HD9.out ?_); rintro e w9 ⟨na2, nc2, ta2, tc2, ra2, rc2, rfl, hb9⟩; have HB9 := Lib.hid hb9; clear hb9)
    have hb10 := below_new w9 (.cells #[.int .u16 0, .string ⟨#[]⟩, .slice na2 0 nc2, .slice ta2 0 tc2, .string ⟨#[]⟩, .slice ra2 0 rc2] 27)
    have HB10 := Lib.hid ((HB8.out.trans (HB9.out.mono HB8.out.size)).trans (hb10.mono (Nat.le_trans HB8.out.size HB9.out.size)))
    clear hb10
    generalize w9.alloc (.cells #[.int .u16 0, .string ⟨#[]⟩, .slice na2 0 nc2, .slice ta2 0 tc2, .string ⟨#[]⟩, .slice ra2 0 rc2] 27) = w10 at HB10
    have HWK := Lib.hid (works_any w10 (HLB.out _ HB10.out))
    go_wp2_with (go_at_call 9; (with_reducible refine Calls.mono HWK.out ?_); rintro e w11 ⟨rfl, hb11⟩; have HB11 := Lib.hid (HB10.out.trans (hb11.mono HB10.out.size)); clear hb11)
    go_ret
    exact ⟨rfl, HB11.out⟩
  · have hEi : ((E : Int) != 0) = true := by simpa using hE0
    have HWK := Lib.hid (works_any w4 (HLB.out _ HB4.out))
    go_wp2_with (go_at_call 9; (with_reducible refine Calls.mono HWK.out ?_); rintro e w5 ⟨rfl, hb5⟩; have HB5 := Lib.hid (HB4.out.trans (hb5.mono HB4.out.size)); clear hb5)
    go_ret
    exact ⟨rfl, HB5.out⟩
theorem cut_any (m : Wire.Msg) (na : Option Addr) (nc : Nat) (ta : Option Addr) (tc : Nat) (ra : Option Addr) (rc : Nat) (at_ : Int) (w : World) (hm : MR m) (hA : MA w m na ta ra) (hL : LibOk w) :
    Calls Tryd.prog 6 #[.agg #[.int .u16 (m.kind : Int), .string m.chan, .slice na m.nums.length nc, .slice ta m.terms.length tc, .string m.text, .slice ra m.more.length rc], .int .i64 at_] w (BoolPost true w) := by
  by_cases h1 : 4000 < sizeM m
  · exact cut_big m na nc ta tc ra rc at_ w hm hA hL h1
  · exact cut_small m na nc ta tc ra rc at_ w hm hA hL h1
end Go.Proofs.YtakfhoodjcfpcaaDoor.T
