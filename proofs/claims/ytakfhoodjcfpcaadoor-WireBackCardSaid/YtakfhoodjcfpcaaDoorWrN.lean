/- wire: WireReads -/
import Derived.Test.YtakfhoodjcfpcaaDoorWrM
import Derived.Deep.CutRange
import Derived.Deep.CutBlock
import Derived.Laws.CopyOwn
namespace Go.Proofs.YtakfhoodjcfpcaaDoor.T
set_option linter.unusedVariables false
set_option maxRecDepth 100000
open Go.RowKit Tlv Wire
/-! wire: WireReads -/
/-- []byte(s): where, how much, the world -/
theorem back_fun' (l : List UInt8) (Z : ByteArray) (hZ : (⟨l.toArray⟩ : ByteArray) = Z) (n : Nat) (hn : l.length = n) (hm : n ≤ maxLen) : ∃ (C : World → Nat) (F : World → World), (∀ w, (convert 9 33 (.string Z)).run Tryd.prog w = .ok (.slice (some ⟨w.heap.size, 0, none⟩) n (C w)) (F w)) ∧ Hid (∀ w, Src (F w) (some ⟨w.heap.size, 0, none⟩) l ∧ n ≤ C w ∧ C w ≤ maxLen ∧ Below w.heap.size w (F w)) := by
  have hs : Z.size = n := by rw [← hZ, ← hn]; simp [ByteArray.size]
  subst hs
  refine ⟨fun w => grownCap w Z.size 0 5, fun w => Lib.bytesWorld w 5 Z, fun w => conv_back w Z, fun w => ⟨by rw [← hZ]; exact back_src w l, grownCap_ge _ _ _ _, grownCap_le_maxLen _ _ _ _ hm, back_below w Z⟩⟩
/-- blocks from lo on, below hi -/
def Rg (lo hi k : Nat) : Prop := lo ≤ k ∧ k < hi
/-- bytes that may be written -/
def Wr2 (w : World) (lo hi : Nat) (a : Option Addr) (n : Nat) : Prop := n = 0 ∨ ∃ (g : Nat) (cur : Array Value), a = some ⟨g, 0, none⟩ ∧ Rg lo hi g ∧ w.heap[g]? = some (.cells cur 5 (0, 0)) ∧ n ≤ cur.size
def WRecs2 (w : World) (lo hi : Nat) (a : Option Addr) (M : List Rec) : Prop := ∀ (i : Nat) (r : Rec), M[i]? = some r → ∃ (g : Nat) (bi : Option Addr) (ci : Nat) (cur : Array Value), a = some ⟨g, 0, none⟩ ∧ w.heap[g]? = some (.cells cur 43 (0, 0)) ∧ cur[i * 2 + 1]? = some (.slice bi r.body.length ci) ∧ Wr2 w lo hi bi r.body.length
def WNums (w : World) (lo hi : Nat) (a : Option Addr) (n : Nat) : Prop := n = 0 ∨ ∃ (g : Nat) (cur : Array Value), a = some ⟨g, 0, none⟩ ∧ Rg lo hi g ∧ w.heap[g]? = some (.cells cur 2 (0, 0)) ∧ n ≤ cur.size
theorem Wr2.of {w : World} {base n c : Nat} {a : Option Addr} {l : List UInt8} (h : Byt w base (.slice a n c) l) : Wr2 w base w.heap.size a l.length := by
  rcases h.2 with ⟨h0, hl⟩ | ⟨g, cap, cur, hv, hg, hh, hc, hm, hs, ht⟩
  · exact .inl hl
  · cases hv
    exact .inr ⟨g, cur, rfl, ⟨hg, lt_of_heap hh⟩, hh, by simp only [Nat.mul_one] at hs; omega⟩
theorem WNums.of {w : World} {base n c : Nat} {a : Option Addr} {L : List Int} (h : OwnN w base (.slice a n c) L) : WNums w base w.heap.size a L.length := by
  rcases h.2 with ⟨h0, hl⟩ | ⟨g, cap, cur, hv, hg, hh, hc, hm, hs, ht⟩
  · exact .inl hl
  · cases hv
    exact .inr ⟨g, cur, rfl, ⟨hg, lt_of_heap hh⟩, hh, by simp only [Nat.mul_one] at hs; omega⟩
theorem WRecs2.of {w : World} {base n c : Nat} {a : Option Addr} {M : List Rec} (h : OwnRecs w base (.slice a n c) M) : WRecs2 w base w.heap.size a M := by
  intro i r hi
  obtain ⟨bs, h1, h2, h3⟩ := h
  have hil := (List.getElem?_eq_some_iff.1 hi).1
  rcases h2.2 with ⟨_, hl⟩ | ⟨g, cap, cur, hv, hg, hh, hc, hm, hs, ht⟩
  · omega
  · cases hv
    obtain ⟨x, hx⟩ : ∃ x, bs[i]? = some x := ⟨_, List.getElem?_eq_getElem (by omega)⟩
    have hb := (h3 i r x hi hx).1
    have hr2 := (recCells_at M bs i r x hi hx).2
    refine ⟨g, x.1, x.2, cur, rfl, hh, ?_, Wr2.of hb⟩
    have e : (cur.toList.take (M.length * 2))[i * 2 + 1]? = (recCells M bs)[i * 2 + 1]? := by rw [ht]
    rw [List.getElem?_take, if_pos (by omega), Array.getElem?_toList, hr2] at e
    exact e
theorem Wr2.below {w w' : World} {lo hi n : Nat} {a : Option Addr} (h : Wr2 w lo hi a n) (hb : Below w.heap.size w w') : Wr2 w' lo hi a n := by
  rcases h with h | ⟨g', cur', h1, h2, h3, h4⟩
  · exact .inl h
  · exact .inr ⟨g', cur', h1, h2, (hb.block g' (lt_of_heap h3)).trans h3, h4⟩
theorem WNums.below {w w' : World} {lo hi n : Nat} {a : Option Addr} (h : WNums w lo hi a n) (hb : Below w.heap.size w w') : WNums w' lo hi a n := by
  rcases h with h | ⟨g', cur', h1, h2, h3, h4⟩
  · exact .inl h
  · exact .inr ⟨g', cur', h1, h2, (hb.block g' (lt_of_heap h3)).trans h3, h4⟩
theorem WRecs2.below {w w' : World} {lo hi : Nat} {a : Option Addr} {M : List Rec} (h : WRecs2 w lo hi a M) (hb : Below w.heap.size w w') : WRecs2 w' lo hi a M := by
  intro i r hi
  obtain ⟨g', bi, ci, cur', h1, h2, h3, h4⟩ := h i r hi
  exact ⟨g', bi, ci, cur', h1, (hb.block g' (lt_of_heap h2)).trans h2, h3, h4.below hb⟩
theorem Wr2.set {w : World} {lo hi n g : Nat} {a : Option Addr} {cur : Array Value} {T : TypeId} (h : Wr2 w lo hi a n) (hg : w.heap[g]? = some (.cells cur T (0, 0))) (j : Nat) (v : Value) : Wr2 (w.setCell ⟨g, j, none⟩ v) lo hi a n := by
  rcases h with h | ⟨g', cur', h1, h2, h3, h4⟩
  · exact .inl h
  · by_cases e : g' = g
    · subst e; exact .inr ⟨g', _, h1, h2, heap_setCell_same w g' j cur' 5 v h3, by simpa using h4⟩
    · exact .inr ⟨g', cur', h1, h2, by rw [heap_setCell_other _ _ _ _ e]; exact h3, h4⟩
theorem WNums.set {w : World} {lo hi n g : Nat} {a : Option Addr} {cur : Array Value} {T : TypeId} (h : WNums w lo hi a n) (hg : w.heap[g]? = some (.cells cur T (0, 0))) (j : Nat) (v : Value) : WNums (w.setCell ⟨g, j, none⟩ v) lo hi a n := by
  rcases h with h | ⟨g', cur', h1, h2, h3, h4⟩
  · exact .inl h
  · by_cases e : g' = g
    · subst e; exact .inr ⟨g', _, h1, h2, heap_setCell_same w g' j cur' 2 v h3, by simpa using h4⟩
    · exact .inr ⟨g', cur', h1, h2, by rw [heap_setCell_other _ _ _ _ e]; exact h3, h4⟩
theorem WRecs2.set {w : World} {lo hi g : Nat} {a : Option Addr} {M : List Rec} {cur : Array Value} {T : TypeId} (hT : T ≠ 43) (h : WRecs2 w lo hi a M) (hg : w.heap[g]? = some (.cells cur T (0, 0))) (j : Nat) (v : Value) : WRecs2 (w.setCell ⟨g, j, none⟩ v) lo hi a M := by
  intro i r hi
  obtain ⟨g', bi, ci, cur', h1, h2, h3, h4⟩ := h i r hi
  have hne : g' ≠ g := by
    intro e; rw [e, hg] at h2
    injection h2 with h2; injection h2 with _ h2; exact hT h2
  exact ⟨g', bi, ci, cur', h1, by rw [heap_setCell_other _ _ _ _ hne]; exact h2, h3, h4.set hg j v⟩
theorem OwnM.fr {S : Nat → Prop} {w w' : World} {base : Nat} {m : Wire.Msg} {nv tv rv : Value} (h : OwnM w base m nv tv rv) (hf : Fr S w w') (hS : ∀ k, S k → k < base) : OwnM w' base m nv tv rv :=
  ⟨own_fr h.nums hf hS, own_fr h.terms hf hS, h.more.keep (fun g hg h2 => hf.block g h2 (fun hs => by have := hS g hs; omega))⟩
theorem OwnM.below {w w' : World} {base : Nat} {m : Wire.Msg} {nv tv rv : Value} (h : OwnM w base m nv tv rv) (hb : Below w.heap.size w w') : OwnM w' base m nv tv rv := h.fr (Fr.below (S := fun _ => False) hb) (fun _ h => h.elim)
theorem dec_facts (l : List UInt8) (hl : l.length ≤ 4000) : (Wire.decN R false l).1.nums.length ≤ 32769 ∧ (Wire.decN R false l).1.terms.length ≤ 32769 ∧ (Wire.decN R false l).1.more.length ≤ 64 ∧ ∀ r ∈ (Wire.decN R false l).1.more, r.body.length ≤ 32768 := by
  obtain ⟨n1, q1, e1⟩ : ∃ n q, numS 2 ⟨l, false⟩ = (n, q) := ⟨_, _, rfl⟩
  obtain ⟨c2, q2, e2⟩ : ∃ n q, textS false q1 = (n, q) := ⟨_, _, rfl⟩
  obtain ⟨n3, q3, e3⟩ : ∃ n q, countS false q2 = (n, q) := ⟨_, _, rfl⟩
  obtain ⟨N4, q4, e4⟩ : ∃ n q, numsS n3 q3 = (n, q) := ⟨_, _, rfl⟩
  obtain ⟨n5, q5, e5⟩ : ∃ n q, countS false q4 = (n, q) := ⟨_, _, rfl⟩
  obtain ⟨T6, q6, e6⟩ : ∃ n q, termsS false n5 q5 = (n, q) := ⟨_, _, rfl⟩
  obtain ⟨x7, q7, e7⟩ : ∃ n q, textS false q6 = (n, q) := ⟨_, _, rfl⟩
  rw [dec_form l (by omega) e1 e2 e3 e4 e5 e6 e7]
  have hb := mb_dec l (by omega) e1 e2 e3 e4 e5 e6 e7
  have k1 := numS_le 2 ⟨l, false⟩
  have k2 := textS_len false q1
  have k3 := countS_le false q2
  have k4 := numsS_le n3 q3
  have j4 := numsS_many n3 q3
  have k5 := countS_le false q4
  have j6 := termsS_many n5 q5
  rw [e1] at k1; rw [e2] at k2; rw [e3] at k3; rw [e4] at k4 j4; rw [e5] at k5; rw [e6] at j6
  dsimp only at k1 k2 k3 k4 j4 k5 j6
  have hr := recs_bound q7.l
  split
  · exact ⟨Nat.zero_le _, Nat.zero_le _, Nat.zero_le _, fun r h => by cases h⟩
  · refine ⟨?_, ?_, hr.1, fun r h => ?_⟩
    · show N4.length ≤ _; omega
    · show T6.length ≤ _; omega
    · have := body_le (L := (recordsN q7.l).1) h; have := hb.2; omega
set_option maxHeartbeats 4000000 in
theorem reads_big (a : Option Addr) (c : Nat) (l : List UInt8) (w : World) (hm : l.length ≤ maxLen) (hL : LibOk w) (hbig : 4000 < l.length) : Calls Tryd.prog 4 #[.slice a l.length c] w (BoolPost true w) := by
  have hbi : (4000 : Int) < (l.length : Int) := by omega
  have HWK := Lib.hid (works_any w hL)
  unfold maxLen at hm
  clear hL
  go_enter Tryd.func4, Tryd.ntmps4
  go_wp2_with (go_at_call 9; (with_reducible refine Calls.mono HWK.out ?_); rintro e w3 ⟨rfl, hb3⟩; have HB3 := Lib.hid hb3; clear hb3)
  go_ret
  exact ⟨rfl, HB3.out⟩
def DecM (M : Wire.Msg) (E : Nat) (w : World) (e : Ending) (w' : World) : Prop := ∃ na nc ta tc ra rc, e = .returned (.tuple #[.agg #[.int .u16 (M.kind : Int), .string M.chan, .slice na M.nums.length nc, .slice ta M.terms.length tc, .string M.text, .slice ra M.more.length rc], .int .i64 (E : Int)]) ∧ OwnM w' w.heap.size M (.slice na M.nums.length nc) (.slice ta M.terms.length tc) (.slice ra M.more.length rc) ∧ Below w.heap.size w w'
theorem decM_of {o : Wire.Msg × Nat} {w : World} {e : Ending} {w' : World} (h : DecPost o w e w') : DecM o.1 o.2 w e w' := by
  obtain ⟨nv, tv, rv, rfl, ho, hb⟩ := h
  obtain ⟨na, nc, ta, tc, ra, rc, rfl, rfl, rfl, _⟩ := ho.ma
  exact ⟨na, nc, ta, tc, ra, rc, rfl, ho, hb⟩
set_option maxHeartbeats 16000000 in
theorem reads_small (a : Option Addr) (c : Nat) (l : List UInt8) (w : World) (hl : l.length ≤ 4000) (hc : l.length ≤ c) (hm : c ≤ maxLen) (hs : Src w a l) (hn : a = none → c = 0) (hL : LibOk w) : Calls Tryd.prog 4 #[.slice a l.length c] w (BoolPost true w) := by
  obtain ⟨fN, fT, fR, fB⟩ := dec_facts l hl
  have H16 : Hid (∀ (W : World) (g c : Nat), Src W (some ⟨g, 0, none⟩) l → l.length ≤ c → c ≤ maxLen → LibOk W → Calls Tryd.prog 16 #[.slice (some ⟨g, 0, none⟩) l.length c] W (DecM (Wire.decN R false l).1 (Wire.decN R false l).2 W)) := fun W g c h1 h2 h3 h4 => (decode_any (some ⟨g, 0, none⟩) c l W h2 h3 h1 (fun e => by cases e) h4).mono fun _ _ h => decM_of h
  have H17 : Hid (∀ (W : World), Below w.heap.size w W → Calls Tryd.prog 17 #[.slice a l.length c] W (DecM (Wire.decN R false l).1 (Wire.decN R false l).2 W)) := fun W h => (decoder_any a c l W hl hc hm (hs.below h) hn).mono fun _ _ h => decM_of h
  obtain ⟨M, hM⟩ : ∃ M, (Wire.decN R false l).1 = M := ⟨_, rfl⟩
  obtain ⟨E, hE⟩ : ∃ E, (Wire.decN R false l).2 = E := ⟨_, rfl⟩
  obtain ⟨k, hk⟩ : ∃ k, l.length = k := ⟨_, rfl⟩
  obtain ⟨S, hS⟩ : ∃ S : ByteArray, (⟨l.toArray⟩ : ByteArray) = S := ⟨_, rfl⟩
  have HC : Hid (∀ (W : World) (b : Option Addr) (c : Nat), Src W b l → (convert 33 9 (.slice b k c)).run Tryd.prog W = .ok (.string S) W) := fun W b c h => by rw [← hk, ← hS]; exact conv_src W b l c h
  obtain ⟨C, F, hback, HF⟩ := back_fun' l S hS k hk (by unfold maxLen; omega)
  rw [hM, hE, hk] at H16 H17
  rw [hM] at fN fT fR fB
  rw [hk] at hl ⊢
  have H15 : Hid (∀ (W : World) (na : Option Addr) (nc : Nat) (ta : Option Addr) (tc : Nat) (ra : Option Addr) (rc : Nat) (na2 : Option Addr) (nc2 : Nat) (ta2 : Option Addr) (tc2 : Nat) (ra2 : Option Addr) (rc2 : Nat), MA W M na ta ra → MA W M na2 ta2 ra2 → Calls Tryd.prog 15 #[.agg #[.int .u16 (M.kind : Int), .string M.chan, .slice na M.nums.length nc, .slice ta M.terms.length tc, .string M.text, .slice ra M.more.length rc], .agg #[.int .u16 (M.kind : Int), .string M.chan, .slice na2 M.nums.length nc2, .slice ta2 M.terms.length tc2, .string M.text, .slice ra2 M.more.length rc2]] W (BoolPost true W)) := fun W na nc ta tc ra rc na2 nc2 ta2 tc2 ra2 rc2 h1 h2 => same_m M na nc ta tc ra rc na2 nc2 ta2 tc2 ra2 rc2 W (by unfold maxLen; omega) (by unfold maxLen; omega) (by unfold maxLen; omega) h1 h2
  unfold DecM at H16 H17
  have hki : (k : Int) ≤ 4000 := by omega
  have hcv := HC.out w a c hs
  have HSB : Hid (∀ W, Below w.heap.size w W → Src W a l) := fun W h => hs.below h
  have HLB : Hid (∀ W, Below w.heap.size w W → LibOk W) := fun W h => lib_later hL h
  have HB1 : Hid (Below w.heap.size w (F w)) := (HF.out w).2.2.2
  have HS1 : Hid (Src (F w) (some ⟨w.heap.size, 0, none⟩) l) := (HF.out w).1
  have HC1 : Hid (k ≤ C w ∧ C w ≤ maxLen) := ⟨(HF.out w).2.1, (HF.out w).2.2.1⟩
  have HFB : Hid (∀ r ∈ M.more, r.body.length ≤ 32768) := fB
  clear hM hE hk hS hs hn hL hc hm HF fB
  go_enter Tryd.func4, Tryd.ntmps4
  go_upto_region 5 with (go_at_call 16; (with_reducible refine Calls.mono (H16.out _ _ _ HS1.out HC1.out.1 HC1.out.2 (HLB.out _ HB1.out)) ?_); rintro e w2 ⟨na, nc, ta, tc, ra, rc, rfl, ho2, hb2⟩; have HO2 := Lib.hid ho2; have HB2 := Lib.hid hb2; clear ho2 hb2)
  clear hback hcv
  generalize F w = w1 at HB1 HS1 HC1 HO2 HB2
  generalize C w = cd at *
  have hb3 := below_new w2 (.cells #[.int .u16 (M.kind : Int), .string M.chan, .slice na M.nums.length nc, .slice ta M.terms.length tc, .string M.text, .slice ra M.more.length rc] 27)
  have hm3 : MC (w2.alloc (.cells #[.int .u16 (M.kind : Int), .string M.chan, .slice na M.nums.length nc, .slice ta M.terms.length tc, .string M.text, .slice ra M.more.length rc] 27)) w2.heap.size #[.int .u16 (M.kind : Int), .string M.chan, .slice na M.nums.length nc, .slice ta M.terms.length tc, .string M.text, .slice ra M.more.length rc] := heap_alloc_at w2 _
  have ho3 := HO2.out.below hb3
  have hbw3 : Below w.heap.size w (w2.alloc (.cells #[.int .u16 (M.kind : Int), .string M.chan, .slice na M.nums.length nc, .slice ta M.terms.length tc, .string M.text, .slice ra M.more.length rc] 27)) := (HB1.out.trans (HB2.out.mono HB1.out.size)).trans (hb3.mono (Nat.le_trans HB1.out.size HB2.out.size))
  have hb13 : Below w1.heap.size w1 (w2.alloc (.cells #[.int .u16 (M.kind : Int), .string M.chan, .slice na M.nums.length nc, .slice ta M.terms.length tc, .string M.text, .slice ra M.more.length rc] 27)) := HB2.out.trans (hb3.mono HB2.out.size)
  have hw3 : WNums (w2.alloc (.cells #[.int .u16 (M.kind : Int), .string M.chan, .slice na M.nums.length nc, .slice ta M.terms.length tc, .string M.text, .slice ra M.more.length rc] 27)) w1.heap.size w2.heap.size na M.nums.length := (WNums.of HO2.out.nums).below hb3
  have hv3 : WRecs2 (w2.alloc (.cells #[.int .u16 (M.kind : Int), .string M.chan, .slice na M.nums.length nc, .slice ta M.terms.length tc, .string M.text, .slice ra M.more.length rc] 27)) w1.heap.size w2.heap.size ra M.more := (WRecs2.of HO2.out.more).below hb3
  have hz3 : w2.heap.size < (w2.alloc (.cells #[.int .u16 (M.kind : Int), .string M.chan, .slice na M.nums.length nc, .slice ta M.terms.length tc, .string M.text, .slice ra M.more.length rc] 27)).heap.size := lt_of_heap hm3
  have hz12 := HB2.out.size
  obtain ⟨mb, hmb⟩ : ∃ mb, w2.heap.size = mb := ⟨_, rfl⟩
  rw [hmb] at hm3 hw3 hv3 hz3 hz12 ⊢
  clear hb3 HO2 HB2 hmb
  generalize w2.alloc (.cells #[.int .u16 (M.kind : Int), .string M.chan, .slice na M.nums.length nc, .slice ta M.terms.length tc, .string M.text, .slice ra M.more.length rc] 27) = w3 at hm3 ho3 hbw3 hb13 hw3 hv3 hz3
  have HM3 := Lib.hid hm3; have HO3 := Lib.hid ho3; have HB3 := Lib.hid hbw3; have HB13 := Lib.hid hb13; have HW3 := Lib.hid hw3; have HV3 := Lib.hid hv3
  have H17' := Lib.hid (H17.out w3 hbw3)
  clear hm3 ho3 hbw3 hb13 hw3 hv3 H17
  go_upto_region 6 with (go_at_call 17; (with_reducible refine Calls.mono H17'.out ?_); rintro e w4 ⟨na2, nc2, ta2, tc2, ra2, rc2, rfl, ho4, hb4⟩; have HO4 := Lib.hid ho4; have HB4 := Lib.hid hb4; clear ho4 hb4)
  have hb5 := below_new w4 (.cells #[.int .u16 (M.kind : Int), .string M.chan, .slice na2 M.nums.length nc2, .slice ta2 M.terms.length tc2, .string M.text, .slice ra2 M.more.length rc2] 27)
  have hm5 : MC (w4.alloc (.cells #[.int .u16 (M.kind : Int), .string M.chan, .slice na2 M.nums.length nc2, .slice ta2 M.terms.length tc2, .string M.text, .slice ra2 M.more.length rc2] 27)) w4.heap.size #[.int .u16 (M.kind : Int), .string M.chan, .slice na2 M.nums.length nc2, .slice ta2 M.terms.length tc2, .string M.text, .slice ra2 M.more.length rc2] := heap_alloc_at w4 _
  have hb35 : Below w3.heap.size w3 (w4.alloc (.cells #[.int .u16 (M.kind : Int), .string M.chan, .slice na2 M.nums.length nc2, .slice ta2 M.terms.length tc2, .string M.text, .slice ra2 M.more.length rc2] 27)) := HB4.out.trans (hb5.mono HB4.out.size)
  have ho5 := HO4.out.below hb5
  have hz34 := HB4.out.size
  have hz5 := lt_of_heap hm5
  obtain ⟨vb, hvb⟩ : ∃ vb, w4.heap.size = vb := ⟨_, rfl⟩
  rw [hvb] at hm5 hz34 hz5 ⊢
  clear hb5 HO4 HB4 hvb H17'
  generalize w4.alloc (.cells #[.int .u16 (M.kind : Int), .string M.chan, .slice na2 M.nums.length nc2, .slice ta2 M.terms.length tc2, .string M.text, .slice ra2 M.more.length rc2] 27) = w5 at hm5 hb35 ho5 hz5
  have HM5 := Lib.hid (HM3.out.later hb35)
  have HN5 := Lib.hid hm5
  have HO5 := Lib.hid ho5
  have HOM5 := Lib.hid (HO3.out.below hb35)
  have HB5 := Lib.hid (HB3.out.trans (hb35.mono HB3.out.size))
  have HB15 := Lib.hid (HB13.out.trans (hb35.mono HB13.out.size))
  have HW5 := Lib.hid (HW3.out.below hb35)
  have HV5 := Lib.hid (HV3.out.below hb35)
  obtain ⟨_, _, _, _, _, _, e1, e2, e3, hma⟩ := HOM5.out.ma
  cases e1; cases e2; cases e3
  obtain ⟨_, _, _, _, _, _, e1, e2, e3, hmb⟩ := HO5.out.ma
  cases e1; cases e2; cases e3
  have H15a := Lib.hid (H15.out w5 na nc ta tc ra rc na2 nc2 ta2 tc2 ra2 rc2 hma hmb)
  obtain ⟨d0, d1, d2, d3, d4, d5⟩ := HM5.out.cells
  obtain ⟨f0, f1, f2, f3, f4, f5⟩ := HN5.out.cells
  clear hm5 hb35 ho5 hma hmb HM3 HO3 HB3 HB13 HW3 HV3
  go_upto_block 0 with (go_at_call 15; (with_reducible refine Calls.mono H15a.out ?_); rintro e w6 ⟨rfl, hb6⟩; have HB6 := Lib.hid hb6; clear hb6)
  have HM6 := Lib.hid (HM5.out.later HB6.out)
  have HN6 := Lib.hid (HN5.out.later HB6.out)
  have HO6 := Lib.hid (HO5.out.below HB6.out)
  have HBW6 := Lib.hid (HB5.out.trans (HB6.out.mono HB5.out.size))
  have HB16 := Lib.hid (HB15.out.trans (HB6.out.mono HB15.out.size))
  have HW6 := Lib.hid (HW5.out.below HB6.out)
  have HV6 := Lib.hid (HV5.out.below HB6.out)
  clear d0 d1 d2 d3 d4 d5 f0 f1 f2 f3 f4 f5 H15a HM5 HN5 HO5 HOM5 HB5 HB15 HW5 HV5
  have HZM : Hid (w1.heap.size ≤ mb) := hz12
  have HZV : Hid (mb < w3.heap.size) := hz3
  have HZ3 : Hid (w3.heap.size ≤ vb) := hz34
  have HZW : Hid (w.heap.size ≤ w1.heap.size) := HB1.out.size
  go_cut [8] from 39 to 49 (fun _ wx => Hid (Fr (Rg w1.heap.size mb) w6 wx) ∧ Hid (WRecs2 wx w1.heap.size mb ra M.more))
  case first =>
    go_wp2_with fail
    go_loopw [8] (fun iv wr => ∃ j : Nat, j ≤ M.nums.length ∧ iv = .int .i64 j ∧ Hid (Fr (Rg w1.heap.size mb) w6 wr) ∧ Hid (WNums wr w1.heap.size mb na M.nums.length) ∧ Hid (WRecs2 wr w1.heap.size mb ra M.more)) (fun iv _ => M.nums.length - (intOf iv).toNat)
    case atStart => exact ⟨0, Nat.zero_le _, by go_num, Fr.refl _ _, HW6.out, HV6.out⟩
    case round =>
      obtain ⟨j, hj, rfl, hF, hW, hV⟩ := hrel
      obtain ⟨_, _, d2, _, _, _⟩ := (HM6.out.fr hF.out (by unfold Rg; omega)).cells
      by_cases hlt : j < M.nums.length
      · obtain ⟨g, cur, rfl, hg, hh, hsz⟩ := hW.out.resolve_left (by omega)
        have cb : wr.cell? ⟨g, j, none⟩ = some (cur[j]'(by omega)) := by rw [cell_of_row _ _ _ _ _ _ hh]; exact Array.getElem?_eq_getElem (by omega)
        have fb := frozen_of_row wr g j cur 2 hh
        have HH := Lib.hid hh; have HG := Lib.hid hg
        have hji : (j : Int) < (M.nums.length : Int) := by omega
        generalize cur[j]'(by omega) = old at cb
        clear hh hg
        go_wp2_with fail
        go_roundw
        case rel => exact ⟨j + 1, by omega, by go_num, hF.out.set _ _ _ HG.out, hW.out.set HH.out j _, hV.out.set (by decide) HH.out j _⟩
        case measure => simp [intOf]; omega
      · obtain rfl : j = M.nums.length := by omega
        go_wp2_with fail
        go_meet
        case rel => exact ⟨hF, hV⟩
  case rest =>
    obtain ⟨hF0, hV0⟩ := hcut
    go_upto_block 2 with fail
    go_cut [9, 10] from 50 to 75 (fun _ _ wx => Hid (Fr (Rg w1.heap.size mb) w6 wx))
    case first =>
      go_wp2_with fail
      go_loopw [9, 10] (fun iv kv wr => ∃ i : Nat, i ≤ M.more.length ∧ iv = .int .i64 i ∧ Hid (Fr (Rg w1.heap.size mb) w6 wr) ∧ Hid (WRecs2 wr w1.heap.size mb ra M.more)) (fun iv _ _ => M.more.length - (intOf iv).toNat)
      case atStart => exact ⟨0, Nat.zero_le _, by go_num, hF0.out, hV0.out⟩
      case round =>
        obtain ⟨i, hi, rfl, hF, hV⟩ := hrel
        have hm6 := HM6.out.fr hF.out (by unfold Rg; omega)
        obtain ⟨_, _, _, _, _, d5⟩ := hm6.cells
        by_cases hlt : i < M.more.length
        · obtain ⟨r, hr⟩ : ∃ r, M.more[i]? = some r := ⟨_, List.getElem?_eq_getElem hlt⟩
          have HRI := Lib.hid hr
          obtain ⟨bl, hbl⟩ : ∃ bl, r.body.length = bl := ⟨_, rfl⟩
          have HBL := Lib.hid hbl
          have hblb : bl ≤ 32768 := by rw [← hbl]; exact HFB.out r (List.mem_of_getElem? hr)
          have hblI : (bl : Int) ≤ 32768 := by omega
          obtain ⟨g, bi, ci, cur, hma, _, _, _⟩ := hV.out i r hr
          subst hma
          have hii : (i : Int) < (M.more.length : Int) := by omega
          clear hr hbl hm6
          go_wp2_with fail
          go_loopw [10] (fun kv wq => ∃ j : Nat, j ≤ bl ∧ kv = .int .i64 j ∧ Hid (Fr (Rg w1.heap.size mb) w6 wq) ∧ Hid (WRecs2 wq w1.heap.size mb (some ⟨g, 0, none⟩) M.more)) (fun kv _ => bl - (intOf kv).toNat)
          case atStart => exact ⟨0, Nat.zero_le _, by go_num, hF.out, hV.out⟩
          case round =>
            obtain ⟨j, hj, rfl, hFq, hVq⟩ := hrel
            obtain ⟨g', bi', ci', cur', e1, e2, e3, e4⟩ := hVq.out i r HRI.out
            cases e1
            rw [HBL.out] at e3 e4
            have c1 : wr.cell? ⟨g, i * 2 + 1, none⟩ = some (.slice bi' bl ci') := by rw [cell_of_row _ _ _ _ _ _ e2]; exact e3
            have hm6 := HM6.out.fr hFq.out (by unfold Rg; omega)
            obtain ⟨_, _, _, _, _, d5⟩ := hm6.cells
            clear e2 e3 hm6
            by_cases hjl : j < bl
            · obtain ⟨gb, curb, hbi, hge, hhb, hlen⟩ := e4.resolve_left (by omega)
              subst hbi
              have cb : wr.cell? ⟨gb, j, none⟩ = some (curb[j]'(by omega)) := by rw [cell_of_row _ _ _ _ _ _ hhb]; exact Array.getElem?_eq_getElem (by omega)
              have fb := frozen_of_row wr gb j curb 5 hhb
              have HHB := Lib.hid hhb; have HGE := Lib.hid hge
              have hji : (j : Int) < (bl : Int) := by omega
              generalize curb[j]'(by omega) = old at cb
              clear hhb hge e4
              go_wp2_with fail
              go_roundw
              case rel => exact ⟨j + 1, by omega, by go_num, hFq.out.set _ _ _ HGE.out, hVq.out.set (by decide) HHB.out j _⟩
              case measure => simp [intOf]; omega
            · obtain rfl : j = bl := by omega
              go_wp2_with fail
              go_roundw
              case rel => exact ⟨i + 1, by omega, by go_num, hFq.out, hVq.out⟩
              case measure => simp [intOf]; omega
        · obtain rfl : i = M.more.length := by omega
          go_wp2_with fail
          go_meet
          case rel => exact hF
    case rest =>
      have hF9 := hcut
      clear hF0 hV0 HW6 HV6
      have hb1c : Below w1.heap.size w1 wc := low_fr HB16.out hF9.out (fun k hk h => by unfold Rg at h; omega)
      have HB1c := Lib.hid hb1c
      have HSc := Lib.hid (HS1.out.below hb1c)
      have HBc := Lib.hid (HB1.out.trans (hb1c.mono HB1.out.size))
      have HNc := Lib.hid (HN6.out.fr hF9.out (by have := HZV.out; have := HZ3.out; unfold Rg; omega))
      have HOc := Lib.hid (HO6.out.fr hF9.out (fun k hk => by have := HZV.out; unfold Rg at hk; omega))
      have H16c := Lib.hid (H16.out wc _ _ HSc.out HC1.out.1 HC1.out.2 (HLB.out _ HBc.out))
      clear hb1c
      go_upto_region 20 with (go_at_call 16; (with_reducible refine Calls.mono H16c.out ?_); rintro e w7 ⟨na3, nc3, ta3, tc3, ra3, rc3, rfl, ho7, hb7⟩; have HO7 := Lib.hid ho7; have HB7 := Lib.hid hb7; clear ho7 hb7)
      have hb8 := below_new w7 (.cells #[.int .u16 (M.kind : Int), .string M.chan, .slice na3 M.nums.length nc3, .slice ta3 M.terms.length tc3, .string M.text, .slice ra3 M.more.length rc3] 27)
      have hm8 : MC (w7.alloc (.cells #[.int .u16 (M.kind : Int), .string M.chan, .slice na3 M.nums.length nc3, .slice ta3 M.terms.length tc3, .string M.text, .slice ra3 M.more.length rc3] 27)) w7.heap.size #[.int .u16 (M.kind : Int), .string M.chan, .slice na3 M.nums.length nc3, .slice ta3 M.terms.length tc3, .string M.text, .slice ra3 M.more.length rc3] := heap_alloc_at w7 _
      have hbc8 : Below wc.heap.size wc (w7.alloc (.cells #[.int .u16 (M.kind : Int), .string M.chan, .slice na3 M.nums.length nc3, .slice ta3 M.terms.length tc3, .string M.text, .slice ra3 M.more.length rc3] 27)) := HB7.out.trans (hb8.mono HB7.out.size)
      have ho8 := HO7.out.below hb8
      obtain ⟨ab, hab⟩ : ∃ ab, w7.heap.size = ab := ⟨_, rfl⟩
      rw [hab] at hm8 ⊢
      clear hb8 HO7 HB7 hab
      generalize w7.alloc (.cells #[.int .u16 (M.kind : Int), .string M.chan, .slice na3 M.nums.length nc3, .slice ta3 M.terms.length tc3, .string M.text, .slice ra3 M.more.length rc3] 27) = w8 at hm8 hbc8 ho8
      have hbw8 := HBc.out.trans (hbc8.mono HBc.out.size)
      have hn8 := HNc.out.later hbc8
      obtain ⟨_, _, _, _, _, _, e1, e2, e3, hma⟩ := ho8.ma
      cases e1; cases e2; cases e3
      obtain ⟨_, _, _, _, _, _, e1, e2, e3, hmb⟩ := (HOc.out.below hbc8).ma
      cases e1; cases e2; cases e3
      have H15a := Lib.hid (H15.out w8 na3 nc3 ta3 tc3 ra3 rc3 na2 nc2 ta2 tc2 ra2 rc2 hma hmb)
      have cv1 := HC.out w8 (some ⟨w.heap.size, 0, none⟩) cd (HSc.out.below hbc8)
      have cv2 := HC.out w8 a c (HSB.out w8 hbw8)
      have HB8 := Lib.hid hbw8
      obtain ⟨d0, d1, d2, d3, d4, d5⟩ := hm8.cells
      obtain ⟨f0, f1, f2, f3, f4, f5⟩ := hn8.cells
      clear hma hmb ho8 hbc8 hm8 hn8 hbw8
      go_wp2_with (first
        | (go_at_call 15; (with_reducible refine Calls.mono H15a.out ?_); rintro e w9 ⟨rfl, hb9⟩; have HB9 := Lib.hid (HB8.out.trans (hb9.mono HB8.out.size)); have HWK := Lib.hid (works_any w9 (HLB.out _ HB9.out)); clear hb9)
        | (go_at_call 9; (with_reducible refine Calls.mono HWK.out ?_); rintro e w10 ⟨rfl, hb10⟩; have HB10 := Lib.hid (HB9.out.trans (hb10.mono HB9.out.size)); clear hb10))
      go_ret
      exact ⟨rfl, HB10.out⟩
theorem reads_any (a : Option Addr) (c : Nat) (l : List UInt8) (w : World) (hc : l.length ≤ c) (hm : c ≤ maxLen) (hs : Src w a l) (hn : a = none → c = 0) (hL : LibOk w) : Calls Tryd.prog 4 #[.slice a l.length c] w (BoolPost true w) := by
  by_cases h : 4000 < l.length
  · exact reads_big a c l w (by omega) hL h
  · exact reads_small a c l w (by omega) hc hm hs hn hL
end Go.Proofs.YtakfhoodjcfpcaaDoor.T
