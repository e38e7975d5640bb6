/- wire: works, WireWrites -/
import Derived.Test.YtakfhoodjcfpcaaDoorWrL
import Derived.Deep.CutRange
import Derived.Deep.CutBlock
import Derived.Laws.CopyOwn
namespace Go.Proofs.YtakfhoodjcfpcaaDoor.T
set_option linter.unusedVariables false
set_option maxRecDepth 100000
open Go.RowKit Tlv Wire
/-! wire: works, WireWrites -/
def wkM : Wire.Msg := ⟨130, ⟨#[99]⟩, [1], [⟨#[110, 55, 59]⟩], ⟨#[]⟩, []⟩
def wkB : List UInt8 := [0, 130, 1, 99, 1, 0, 0, 0, 0, 0, 0, 0, 1, 1, 3, 110, 55, 59, 0]
theorem wk_enc : encN R wkM = (wkB, 0) := by kernel_rfl
theorem wk_dec : Wire.decN R false wkB = (wkM, 0) := by kernel_rfl
theorem wk_mb : MB wkM := ⟨by decide, by decide, by decide, by decide, fun t h => (by have := List.mem_singleton.1 h; subst this; decide), by decide, fun r h => (by cases h), fun r h => (by cases h)⟩
theorem OwnM.ma {w : World} {base : Nat} {m : Wire.Msg} {nv tv rv : Value} (h : OwnM w base m nv tv rv) : ∃ na nc ta tc ra rc, nv = .slice na m.nums.length nc ∧ tv = .slice ta m.terms.length tc ∧ rv = .slice ra m.more.length rc ∧ MA w m na ta ra := by
  obtain ⟨na, nc, rfl⟩ := own_slice h.nums
  obtain ⟨ta, tc, rfl⟩ := own_slice h.terms
  obtain ⟨ra, rc, e, hr, _⟩ := h.more.recs
  exact ⟨na, nc, ta, tc, ra, rc, rfl, rfl, e, ints_own h.nums, strs_own h.terms, hr⟩
theorem byt_cap {w : World} {base n c : Nat} {a : Option Addr} {l : List UInt8} (h : Byt w base (.slice a n c) l) : l.length ≤ c ∧ c ≤ maxLen ∧ (a = none → c = 0) := by
  have h1 := h.1
  rcases h.2 with ⟨h0, hl⟩ | ⟨g, cap, cur, hv, hg, hh, hc, hm, hs, ht⟩
  · cases h0; exact ⟨by omega, Nat.zero_le _, fun _ => rfl⟩
  · cases hv; exact ⟨by omega, by omega, fun e => by cases e⟩
set_option maxHeartbeats 4000000 in
theorem works_any (w : World) (hL : LibOk w) : Calls Tryd.prog 9 #[] w (BoolPost true w) := by
  have hw1 := below_new w (.cells #[.int .i64 1] 2)
  have hw2 := hw1.trans ((below_new (w.alloc (.cells #[.int .i64 1] 2)) (.cells #[.string ⟨#[110, 55, 59]⟩] 49)).mono hw1.size)
  go_enter Tryd.func9, Tryd.ntmps9
  go_upto_region 2 with fail
  have hk1 : ((w.alloc (.cells #[.int .i64 1] 2)).alloc (.cells #[.string ⟨#[110, 55, 59]⟩] 49)).heap[w.heap.size]? = some (.cells #[.int .i64 1] 2 (0, 0)) := ((below_new _ _).block _ (by simp)).trans (heap_alloc_at w _)
  have hk2 : ((w.alloc (.cells #[.int .i64 1] 2)).alloc (.cells #[.string ⟨#[110, 55, 59]⟩] 49)).heap[w.heap.size + 1]? = some (.cells #[.string ⟨#[110, 55, 59]⟩] 49 (0, 0)) := by
    have := heap_alloc_at (w.alloc (.cells #[.int .i64 1] 2)) (.cells #[.string ⟨#[110, 55, 59]⟩] 49); simpa using this
  have hm3 : ∀ cs : Array Value, MC (((w.alloc (.cells #[.int .i64 1] 2)).alloc (.cells #[.string ⟨#[110, 55, 59]⟩] 49)).alloc (.cells cs 27)) (w.heap.size + 2) cs := fun cs => by
    have := heap_alloc_at ((w.alloc (.cells #[.int .i64 1] 2)).alloc (.cells #[.string ⟨#[110, 55, 59]⟩] 49)) (.cells cs 27); simpa [MC] using this
  have hM2 := hm3 #[.int .u16 130, .string ⟨#[99]⟩, .slice (some ⟨w.heap.size, 0, none⟩) 1 1, .slice (some ⟨w.heap.size + 1, 0, none⟩) 1 1, .string ⟨#[]⟩, .slice none 0 0]
  have hb3 := below_new ((w.alloc (.cells #[.int .i64 1] 2)).alloc (.cells #[.string ⟨#[110, 55, 59]⟩] 49)) (.cells #[.int .u16 130, .string ⟨#[99]⟩, .slice (some ⟨w.heap.size, 0, none⟩) 1 1, .slice (some ⟨w.heap.size + 1, 0, none⟩) 1 1, .string ⟨#[]⟩, .slice none 0 0] 27)
  have hw3 := hw2.trans (hb3.mono hw2.size)
  have hk1' := (hb3.block _ (lt_of_heap hk1)).trans hk1
  have hk2' := (hb3.block _ (lt_of_heap hk2)).trans hk2
  clear hk1 hk2 hm3 hb3 hw1 hw2
  obtain ⟨bb, hbb⟩ : ∃ bb, w.heap.size = bb := ⟨_, rfl⟩
  generalize ((w.alloc (.cells #[.int .i64 1] 2)).alloc (.cells #[.string ⟨#[110, 55, 59]⟩] 49)).alloc (.cells #[.int .u16 130, .string ⟨#[99]⟩, .slice (some ⟨w.heap.size, 0, none⟩) 1 1, .slice (some ⟨w.heap.size + 1, 0, none⟩) 1 1, .string ⟨#[]⟩, .slice none 0 0] 27) = w2 at hM2 hw3 hk1' hk2'
  have HW2 := Lib.hid hw3
  have HBB := Lib.hid hbb
  rw [hbb] at hk1' hk2' hM2 ⊢
  have hA2 : MA w2 wkM (some ⟨bb, 0, none⟩) (some ⟨bb + 1, 0, none⟩) none := ⟨.inr ⟨bb, 0, rfl, fun k x hk => by
      obtain rfl : k = 0 := by have := (List.getElem?_eq_some_iff.1 hk).1; simp [wkM] at this; omega
      cases hk; rw [cell_of_row _ _ _ _ _ _ hk1']; rfl⟩, .inr ⟨bb + 1, 0, rfl, fun k x hk => by
      obtain rfl : k = 0 := by have := (List.getElem?_eq_some_iff.1 hk).1; simp [wkM] at this; omega
      cases hk; rw [cell_of_row _ _ _ _ _ _ hk2']; rfl⟩, .inl rfl⟩
  have HA2 := Lib.hid hA2
  have HL2 := Lib.hid (lib_later hL hw3)
  have HM2 := Lib.hid hM2
  have hE : Calls Tryd.prog 13 #[.agg #[.int .u16 130, .string ⟨#[99]⟩, .slice (some ⟨bb, 0, none⟩) 1 1, .slice (some ⟨bb + 1, 0, none⟩) 1 1, .string ⟨#[]⟩, .slice none 0 0]] w2 (EncPost wkM w2) := encode_any wkM _ 1 _ 1 none 0 w2 wk_mb (by decide) hA2 HL2.out
  unfold EncPost at hE
  rw [wk_enc] at hE
  have HE := Lib.hid hE
  obtain ⟨d0, d1, d2, d3, d4, d5⟩ := hM2.cells
  clear hE hA2 hM2 hw3 hk1' hk2' hbb hL
  go_upto_region 4 with (first
    | (go_at_call 13; (with_reducible refine Calls.mono HE.out ?_); rintro e w3 ⟨v3, rfl, hv3, hb3⟩; obtain ⟨a3, c3, rfl⟩ := own_slice hv3; have HV3 := Lib.hid hv3; have HB3 := Lib.hid hb3; have HL3 := Lib.hid (lib_later HL2.out hb3); obtain ⟨k1, k2, k3⟩ := byt_cap hv3; have HD := decode_any a3 c3 wkB w3 k1 k2 (Src.of_byt hv3) k3 HL3.out; rw [wk_dec] at HD; unfold DecPost at HD; have HD' := Lib.hid HD; clear hv3 hb3 k1 k2 k3 HD)
    | (go_at_call 16; (with_reducible refine Calls.mono HD'.out ?_); rintro e w4 ⟨nv, tv, rv, rfl, ho4, hb4⟩; obtain ⟨na, nc, ta, tc, ra, rc, rfl, rfl, rfl, hma⟩ := ho4.ma; have HMA4 := Lib.hid hma; have HB4 := Lib.hid hb4; clear ho4 hb4 hma))
  have hb5 := below_new w4 (.cells #[.int .u16 (wkM.kind : Int), .string wkM.chan, .slice na wkM.nums.length nc, .slice ta wkM.terms.length tc, .string wkM.text, .slice ra wkM.more.length rc] 27)
  have hm5 : MC (w4.alloc (.cells #[.int .u16 (wkM.kind : Int), .string wkM.chan, .slice na wkM.nums.length nc, .slice ta wkM.terms.length tc, .string wkM.text, .slice ra wkM.more.length rc] 27)) w4.heap.size #[.int .u16 (wkM.kind : Int), .string wkM.chan, .slice na wkM.nums.length nc, .slice ta wkM.terms.length tc, .string wkM.text, .slice ra wkM.more.length rc] := heap_alloc_at w4 _
  have hb24 := HB3.out.trans (HB4.out.mono HB3.out.size)
  have hb25 := hb24.trans (hb5.mono hb24.size)
  have hmm : MC (w4.alloc (.cells #[.int .u16 (wkM.kind : Int), .string wkM.chan, .slice na wkM.nums.length nc, .slice ta wkM.terms.length tc, .string wkM.text, .slice ra wkM.more.length rc] 27)) (bb + 2) #[.int .u16 (wkM.kind : Int), .string wkM.chan, .slice (some ⟨bb, 0, none⟩) wkM.nums.length 1, .slice (some ⟨bb + 1, 0, none⟩) wkM.terms.length 1, .string wkM.text, .slice none wkM.more.length 0] := HM2.out.later hb25
  have HS := same_m wkM (some ⟨bb, 0, none⟩) 1 (some ⟨bb + 1, 0, none⟩) 1 none 0 na nc ta tc ra rc (w4.alloc (.cells #[.int .u16 (wkM.kind : Int), .string wkM.chan, .slice na wkM.nums.length nc, .slice ta wkM.terms.length tc, .string wkM.text, .slice ra wkM.more.length rc] 27)) (by decide) (by decide) (by decide) (HA2.out.later hb25) (HMA4.out.later hb5)
  have hcv : (convert 33 9 (.slice a3 wkB.length c3)).run Tryd.prog (w4.alloc (.cells #[.int .u16 (wkM.kind : Int), .string wkM.chan, .slice na wkM.nums.length nc, .slice ta wkM.terms.length tc, .string wkM.text, .slice ra wkM.more.length rc] 27)) = .ok (.string ⟨#[0, 130, 1, 99, 1, 0, 0, 0, 0, 0, 0, 0, 1, 1, 3, 110, 55, 59, 0]⟩) (w4.alloc (.cells #[.int .u16 (wkM.kind : Int), .string wkM.chan, .slice na wkM.nums.length nc, .slice ta wkM.terms.length tc, .string wkM.text, .slice ra wkM.more.length rc] 27)) := conv_src _ a3 wkB c3 ((Src.of_byt HV3.out).below (HB4.out.trans (hb5.mono HB4.out.size)))
  have HW5 : Hid (Below w.heap.size w (w4.alloc (.cells #[.int .u16 (wkM.kind : Int), .string wkM.chan, .slice na wkM.nums.length nc, .slice ta wkM.terms.length tc, .string wkM.text, .slice ra wkM.more.length rc] 27))) := HW2.out.trans (hb25.mono HW2.out.size)
  clear hb5 hb24 d0 d1 d2 d3 d4 d5
  obtain ⟨g0, g1, g2, g3, g4, g5⟩ := hmm.cells
  obtain ⟨q0, q1, q2, q3, q4, q5⟩ := hm5.cells
  have HS' := Lib.hid HS
  clear HS hm5 hmm hb25
  generalize w4.alloc (.cells #[.int .u16 (wkM.kind : Int), .string wkM.chan, .slice na wkM.nums.length nc, .slice ta wkM.terms.length tc, .string wkM.text, .slice ra wkM.more.length rc] 27) = w5 at *
  go_wp2_with (go_at_call 15; (with_reducible refine Calls.mono HS'.out ?_); rintro e w6 ⟨rfl, hb6⟩; have HB6 := Lib.hid hb6; clear hb6)
  go_ret
  exact ⟨rfl, HW5.out.trans (HB6.out.mono HW5.out.size)⟩
set_option maxHeartbeats 4000000 in
theorem writes_big (m : Wire.Msg) (na : Option Addr) (nc : Nat) (ta : Option Addr) (tc : Nat) (ra : Option Addr) (rc : Nat) (k : Nat) (w : World) (hm : MR m) (hA : MA w m na ta ra) (hL : LibOk w) (hbig : 4000 < sizeM m) :
    Calls Tryd.prog 3 #[.agg #[.int .u16 (m.kind : Int), .string m.chan, .slice na m.nums.length nc, .slice ta m.terms.length tc, .string m.text, .slice ra m.more.length rc], .int .u16 (k : Int)] w (BoolPost true w) := by
  have hb1 := below_new w (.cells #[.int .u16 (m.kind : Int), .string m.chan, .slice na m.nums.length nc, .slice ta m.terms.length tc, .string m.text, .slice ra m.more.length rc] 27)
  have hm1 : MC (w.alloc (.cells #[.int .u16 (m.kind : Int), .string m.chan, .slice na m.nums.length nc, .slice ta m.terms.length tc, .string m.text, .slice ra m.more.length rc] 27)) w.heap.size #[.int .u16 (m.kind : Int), .string m.chan, .slice na m.nums.length nc, .slice ta m.terms.length tc, .string m.text, .slice ra m.more.length rc] := heap_alloc_at w _
  have HZ := Lib.hid (size_m m na nc ta tc ra rc (w.alloc (.cells #[.int .u16 (m.kind : Int), .string m.chan, .slice na m.nums.length nc, .slice ta m.terms.length tc, .string m.text, .slice ra m.more.length rc] 27)) hm.c hm.x hm.n hm.t hm.r hm.ts (hA.later hb1))
  have HB1 := Lib.hid hb1
  have HL1 := Lib.hid (lib_later hL hb1)
  obtain ⟨d0, d1, d2, d3, d4, d5⟩ := hm1.cells
  obtain ⟨S, hS⟩ : ∃ S, sizeM m = S := ⟨_, rfl⟩
  rw [hS] at HZ hbig
  clear hm1 hb1 hA hL hm hS
  go_enter Tryd.func3, Tryd.ntmps3
  go_wp2_with (first
    | (go_at_call 8; (with_reducible refine Calls.mono HZ.out ?_); rintro e w2 ⟨rfl, hb2⟩; have HB2 := Lib.hid (HB1.out.trans (hb2.mono HB1.out.size)); have HWK := Lib.hid (works_any w2 (lib_later HL1.out hb2)); clear hb2)
    | (go_at_call 9; (with_reducible refine Calls.mono HWK.out ?_); rintro e w3 ⟨rfl, hb3⟩; have HB3 := Lib.hid (HB2.out.trans (hb3.mono HB2.out.size)); clear hb3))
  go_ret
  exact ⟨rfl, HB3.out⟩
set_option maxHeartbeats 8000000 in
theorem writes_small (m : Wire.Msg) (na : Option Addr) (nc : Nat) (ta : Option Addr) (tc : Nat) (ra : Option Addr) (rc : Nat) (k : Nat) (w : World) (hm : MR m) (hA : MA w m na ta ra) (hL : LibOk w) (hsm : ¬ 4000 < sizeM m) :
    Calls Tryd.prog 3 #[.agg #[.int .u16 (m.kind : Int), .string m.chan, .slice na m.nums.length nc, .slice ta m.terms.length tc, .string m.text, .slice ra m.more.length rc], .int .u16 (k : Int)] w (BoolPost true w) := by
  have hS := small_of hsm
  have hMB := hS.mb hm.rt
  have hb1 := below_new w (.cells #[.int .u16 (m.kind : Int), .string m.chan, .slice na m.nums.length nc, .slice ta m.terms.length tc, .string m.text, .slice ra m.more.length rc] 27)
  have hm1 : MC (w.alloc (.cells #[.int .u16 (m.kind : Int), .string m.chan, .slice na m.nums.length nc, .slice ta m.terms.length tc, .string m.text, .slice ra m.more.length rc] 27)) w.heap.size #[.int .u16 (m.kind : Int), .string m.chan, .slice na m.nums.length nc, .slice ta m.terms.length tc, .string m.text, .slice ra m.more.length rc] := heap_alloc_at w _
  have HZ := Lib.hid (size_m m na nc ta tc ra rc (w.alloc (.cells #[.int .u16 (m.kind : Int), .string m.chan, .slice na m.nums.length nc, .slice ta m.terms.length tc, .string m.text, .slice ra m.more.length rc] 27)) hm.c hm.x hm.n hm.t hm.r hm.ts (hA.later hb1))
  have HB1 := Lib.hid hb1
  have HLW := Lib.hid hL
  have HAW := Lib.hid hA
  have HMR := Lib.hid hm
  have HSM := Lib.hid hS
  have HMB := Lib.hid hMB
  have HM1 := Lib.hid hm1
  obtain ⟨d0, d1, d2, d3, d4, d5⟩ := hm1.cells
  obtain ⟨S, hSz⟩ : ∃ S, sizeM m = S := ⟨_, rfl⟩
  rw [hSz] at HZ hsm
  have HCT := Lib.hid (fun W => counts_any k W)
  have HCR := Lib.hid (fun W => countsr_any k W)
  unfold CntPost at HCT HCR
  obtain ⟨c1, hc1⟩ : ∃ c1 : Int, ((countsN k).1 : Int) = c1 := ⟨_, rfl⟩
  obtain ⟨c2, hc2⟩ : ∃ c2 : Int, ((countsN k).2.1 : Int) = c2 := ⟨_, rfl⟩
  obtain ⟨c3, hc3⟩ : ∃ c3, (countsN k).2.2 = c3 := ⟨_, rfl⟩
  rw [hc1, hc2, hc3] at HCT HCR
  clear hm1 hb1 hA hL hm hSz hS hMB hc1 hc2 hc3
  go_enter Tryd.func3, Tryd.ntmps3
  go_upto_region 6 with (first
    | (go_at_call 8; (with_reducible refine Calls.mono HZ.out ?_); rintro e w2 ⟨rfl, hb2⟩; have HB2 := Lib.hid (HB1.out.trans (hb2.mono HB1.out.size)); have HM2 := Lib.hid (HM1.out.later hb2); clear hb2)
    | (go_at_call 10; (with_reducible refine Calls.mono (HCT.out _) ?_); rintro e w3 ⟨rfl, hb3⟩; have HB3 := Lib.hid (HB2.out.trans (hb3.mono HB2.out.size)); have HM3 := Lib.hid (HM2.out.later hb3); clear hb3)
    | (go_at_call 11; (with_reducible refine Calls.mono (HCR.out _) ?_); rintro e w4 ⟨rfl, hb4⟩; have HB4 := Lib.hid (HB3.out.trans (hb4.mono HB3.out.size)); have HM4 : Hid (w4.heap[w.heap.size]? = some (.cells #[.int .u16 (m.kind : Int), .string m.chan, .slice na m.nums.length nc, .slice ta m.terms.length tc, .string m.text, .slice ra m.more.length rc] 27 (0, 0))) := HM3.out.later hb4; obtain ⟨f0, f1, f2, f3, f4, f5⟩ := (HM3.out.later hb4).cells; have HLN := Lib.hid (lent_m m na nc ta tc ra rc w4 HSM.out HMR.out.rt (HAW.out.later HB4.out)); unfold LentM at HLN; clear hb4)
    | (go_at_call 12; (with_reducible refine Calls.mono HLN.out ?_); rintro e w5 ⟨nv, tv, rv, rfl, ho5, hb5⟩; obtain ⟨na2, nc2, ta2, tc2, ra2, rc2, rfl, rfl, rfl, hma⟩ := ho5.ma; have HMA5 := Lib.hid hma; have HB5 := Lib.hid (HB4.out.trans (hb5.mono HB4.out.size)); have HM5 : Hid (w5.heap[w.heap.size]? = some (.cells #[.int .u16 (m.kind : Int), .string m.chan, .slice na m.nums.length nc, .slice ta m.terms.length tc, .string m.text, .slice ra m.more.length rc] 27 (0, 0))) := (hb5.block w.heap.size (lt_of_heap HM4.out)).trans HM4.out; clear ho5 hb5 hma))
  have hb6 := below_new w5 (.cells #[.int .u16 (m.kind : Int), .string m.chan, .slice na2 m.nums.length nc2, .slice ta2 m.terms.length tc2, .string m.text, .slice ra2 m.more.length rc2] 27)
  have hm6 : MC (w5.alloc (.cells #[.int .u16 (m.kind : Int), .string m.chan, .slice na2 m.nums.length nc2, .slice ta2 m.terms.length tc2, .string m.text, .slice ra2 m.more.length rc2] 27)) w5.heap.size #[.int .u16 (m.kind : Int), .string m.chan, .slice na2 m.nums.length nc2, .slice ta2 m.terms.length tc2, .string m.text, .slice ra2 m.more.length rc2] := heap_alloc_at w5 _
  obtain ⟨ib, hib⟩ : ∃ ib, w5.heap.size = ib := ⟨_, rfl⟩
  have hm6' : MC (w5.alloc (.cells #[.int .u16 (m.kind : Int), .string m.chan, .slice na2 m.nums.length nc2, .slice ta2 m.terms.length tc2, .string m.text, .slice ra2 m.more.length rc2] 27)) w.heap.size #[.int .u16 (m.kind : Int), .string m.chan, .slice na m.nums.length nc, .slice ta m.terms.length tc, .string m.text, .slice ra m.more.length rc] := (hb6.block _ (lt_of_heap HM5.out)).trans HM5.out
  have hbw6 := HB5.out.trans (hb6.mono HB5.out.size)
  have hma6 := HMA5.out.later hb6
  rw [hib] at hm6 ⊢
  clear hib hb6 d0 d1 d2 d3 d4 d5 f0 f1 f2 f3 f4 f5
  generalize w5.alloc (.cells #[.int .u16 (m.kind : Int), .string m.chan, .slice na2 m.nums.length nc2, .slice ta2 m.terms.length tc2, .string m.text, .slice ra2 m.more.length rc2] 27) = w6 at hm6 hm6' hbw6 hma6
  have HM6 := Lib.hid hm6; have HN6 := Lib.hid hm6'; have HB6 := Lib.hid hbw6; have HMA6 := Lib.hid hma6
  have HE1 := Lib.hid (encode_any m na2 nc2 ta2 tc2 ra2 rc2 w6 HMB.out HMR.out.vm.kind hma6 (lib_later HLW.out hbw6))
  unfold EncPost at HE1
  obtain ⟨d0, d1, d2, d3, d4, d5⟩ := hm6.cells
  obtain ⟨E, hE⟩ : ∃ E, encN R m = E := ⟨_, rfl⟩
  rw [hE] at HE1
  have HEE := Lib.hid hE
  clear hm6 hm6' hbw6 hma6 hE
  go_upto_region 8 with (first
    | (go_at_call 13; (with_reducible refine Calls.mono HE1.out ?_); rintro e w7 ⟨v7, rfl, hv7, hb7⟩; obtain ⟨a7, c7, rfl⟩ := own_slice hv7; have HV7 := Lib.hid hv7; have HB7 := Lib.hid (HB6.out.trans (hb7.mono HB6.out.size)); have HM7 := Lib.hid (HM6.out.later hb7); have HN7 := Lib.hid (HN6.out.later hb7); have HMA7 := Lib.hid (HMA6.out.later hb7); obtain ⟨f0, f1, f2, f3, f4, f5⟩ := (HN6.out.later hb7).cells; have HE2 := Lib.hid (encoder_any m na nc ta tc ra rc w7 HMB.out HMR.out.vm.kind (by have := HSM.out.r; omega) (HAW.out.later HB7.out)); unfold EncPost at HE2; rw [HEE.out] at HE2; clear hv7 hb7)
    | (go_at_call 14; (with_reducible refine Calls.mono HE2.out ?_); rintro e w8 ⟨v8, rfl, hv8, hb8⟩; obtain ⟨a8, c8, rfl⟩ := own_slice hv8; have HC7 := Lib.hid (conv_src w8 a7 E.1 c7 ((Src.of_byt HV7.out).below hb8)); have HC8 := Lib.hid (conv_src w8 a8 E.1 c8 (Src.of_byt hv8)); have HB8 := Lib.hid (HB7.out.trans (hb8.mono HB7.out.size)); have HM8 := Lib.hid (HM7.out.later hb8); have HN8 := Lib.hid (HN7.out.later hb8); have HMA8 := Lib.hid (HMA7.out.later hb8); clear hv8 hb8))
  obtain ⟨g0, g1, g2, g3, g4, g5⟩ := HM8.out.cells
  obtain ⟨q0, q1, q2, q3, q4, q5⟩ := HN8.out.cells
  have hc7 := HC7.out
  have hc8 := HC8.out
  generalize (⟨E.1.toArray⟩ : ByteArray) = T7 at hc7 hc8
  have HS := Lib.hid (same_m m na2 nc2 ta2 tc2 ra2 rc2 na nc ta tc ra rc w8 HMR.out.n HMR.out.t HMR.out.r HMA8.out (HAW.out.later HB8.out))
  clear d0 d1 d2 d3 d4 d5 f0 f1 f2 f3 f4 f5
  go_wp2_with (first
    | (go_at_call 15; (with_reducible refine Calls.mono HS.out ?_); rintro e w9 ⟨rfl, hb9⟩; have HB9 := Lib.hid (HB8.out.trans (hb9.mono HB8.out.size)); have HWK := Lib.hid (works_any w9 (lib_later HLW.out HB9.out)); clear hb9)
    | (go_at_call 9; (with_reducible refine Calls.mono HWK.out ?_); rintro e w10 ⟨rfl, hb10⟩; have HB10 := Lib.hid (HB9.out.trans (hb10.mono HB9.out.size)); clear hb10))
  go_ret
  exact ⟨rfl, HB10.out⟩
theorem writes_any (m : Wire.Msg) (na : Option Addr) (nc : Nat) (ta : Option Addr) (tc : Nat) (ra : Option Addr) (rc : Nat) (k : Nat) (w : World) (hm : MR m) (hA : MA w m na ta ra) (hL : LibOk w) :
    Calls Tryd.prog 3 #[.agg #[.int .u16 (m.kind : Int), .string m.chan, .slice na m.nums.length nc, .slice ta m.terms.length tc, .string m.text, .slice ra m.more.length rc], .int .u16 (k : Int)] w (BoolPost true w) := by
  by_cases h : 4000 < sizeM m
  · exact writes_big m na nc ta tc ra rc k w hm hA hL h
  · exact writes_small m na nc ta tc ra rc k w hm hA hL h
end Go.Proofs.YtakfhoodjcfpcaaDoor.T
