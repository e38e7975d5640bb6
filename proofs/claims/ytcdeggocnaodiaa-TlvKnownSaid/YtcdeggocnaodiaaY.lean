/- TlvStreams, walked. -/
import Derived.Test.YtcdeggocnaodiaaV
import Derived.Test.YtcdeggocnaodiaaW
import Derived.Test.YtcdeggocnaodiaaX
namespace Go.Proofs.Ytcdeggocnaodiaa
open Go.RowKit Tlv

theorem lt2 {a b c : World} (h1 : Below a.heap.size a b) (h2 : Below b.heap.size b c) : Below a.heap.size a c := h1.trans (h2.mono h1.size)
/-- []byte(s): where, how much, the world -/
theorem back_fun' (l : List UInt8) (Z : ByteArray) (hZ : (⟨l.toArray⟩ : ByteArray) = Z) (n : Nat) (hn : l.length = n) (hm : n ≤ maxLen) : ∃ (C : World → Nat) (F : World → World), (∀ w, (convert 9 23 (.string Z)).run Try.prog w = .ok (.slice (some ⟨w.heap.size, 0, none⟩) n (C w)) (F w)) ∧ Hid (∀ w, Src (F w) (some ⟨w.heap.size, 0, none⟩) l ∧ n ≤ C w ∧ C w ≤ maxLen ∧ Below w.heap.size w (F w)) := by
  have hs : Z.size = n := by rw [← hZ, ← hn]; simp [ByteArray.size]
  subst hs
  refine ⟨fun w => grownCap w Z.size 0 5, fun w => Lib.bytesWorld w 5 Z, fun w => conv_back w Z, fun w => ⟨by rw [← hZ]; exact back_src w l, grownCap_ge _ _ _ _, grownCap_le_maxLen _ _ _ _ hm, back_below w Z⟩⟩
theorem Wr.set' {w : World} {base n g : Nat} {a : Option Addr} {cur : Array Value} (h : Wr w base a n) (hg : w.heap[g]? = some (.cells cur 5 (0, 0))) (j : Nat) (v : Value) : Wr (w.setCell ⟨g, j, none⟩ v) base a n := by
  rcases h with h | ⟨g', cur', h1, h2, h3, h4⟩
  · exact .inl h
  · by_cases e : g' = g
    · subst e; exact .inr ⟨g', _, h1, h2, heap_setCell_same w g' j cur' 5 v h3, by simpa using h4⟩
    · exact .inr ⟨g', cur', h1, h2, by rw [heap_setCell_other _ _ _ _ e]; exact h3, h4⟩
theorem Wr.row {w : World} {base n : Nat} {a : Option Addr} (h : Wr w base a n) (hn : n ≠ 0) : ∃ (g : Nat) (cur : Array Value), a = some ⟨g, 0, none⟩ ∧ base ≤ g ∧ w.heap[g]? = some (.cells cur 5 (0, 0)) ∧ n ≤ cur.size := h.resolve_left hn
/-- records whose bodies may be written -/
def WRecs (w : World) (base : Nat) (a : Option Addr) (M : List Rec) : Prop := ∀ (i : Nat) (r : Rec), M[i]? = some r → ∃ (g : Nat) (bi : Option Addr) (ci : Nat) (cur : Array Value), a = some ⟨g, 0, none⟩ ∧ w.heap[g]? = some (.cells cur 39 (0, 0)) ∧ cur[i * 2 + 1]? = some (.slice bi r.body.length ci) ∧ Wr w base bi r.body.length
theorem WRecs.of {w : World} {base n c : Nat} {a : Option Addr} {M : List Rec} (h : OwnRecs w base (.slice a n c) M) : WRecs w base a M := by
  intro i r hi
  obtain ⟨bs, h1, h2, h3⟩ := h
  have hil := (List.getElem?_eq_some_iff.1 hi).1
  rcases h2.2 with ⟨_, hl⟩ | ⟨g, cap, cur, hv, hg, hh, hc, hm, hs, ht⟩
  · omega
  · cases hv
    obtain ⟨x, hx⟩ : ∃ x, bs[i]? = some x := ⟨_, List.getElem?_eq_getElem (by omega)⟩
    have hb := (h3 i r x hi hx).1
    have hr2 := (recCells_at M bs i r x hi hx).2
    refine ⟨g, x.1, x.2, cur, rfl, hh, ?_, Wr.of_byt hb⟩
    have e : (cur.toList.take (M.length * 2))[i * 2 + 1]? = (recCells M bs)[i * 2 + 1]? := by rw [ht]
    rw [List.getElem?_take, if_pos (by omega), Array.getElem?_toList, hr2] at e
    exact e
theorem WRecs.set {w : World} {base g : Nat} {a : Option Addr} {M : List Rec} {cur : Array Value} (h : WRecs w base a M) (hg : w.heap[g]? = some (.cells cur 5 (0, 0))) (j : Nat) (v : Value) : WRecs (w.setCell ⟨g, j, none⟩ v) base a M := by
  intro i r hi
  obtain ⟨g', bi, ci, cur', h1, h2, h3, h4⟩ := h i r hi
  have hne : g' ≠ g := by
    intro e; rw [e, hg] at h2
    injection h2 with h2; injection h2 with _ h2; revert h2; decide
  exact ⟨g', bi, ci, cur', h1, by rw [heap_setCell_other _ _ _ _ hne]; exact h2, h3, h4.set' hg j v⟩
theorem WRecs.below {w w' : World} {base : Nat} {a : Option Addr} {M : List Rec} (h : WRecs w base a M) (hb : Below w.heap.size w w') : WRecs w' base a M := by
  intro i r hi
  obtain ⟨g', bi, ci, cur', h1, h2, h3, h4⟩ := h i r hi
  exact ⟨g', bi, ci, cur', h1, by rw [hb.block g' (Array.getElem?_eq_some_iff.1 h2).1]; exact h2, h3, h4.below hb⟩
theorem records_own (g c n : Nat) (l : List UInt8) (hn : l.length = n) (w : World) (hc : n ≤ c) (hm : c ≤ maxLen) (hs : Src w (some ⟨g, 0, none⟩) l) (M : List Rec) (F nm : Nat) (hR : recordsN l = (M, F)) (hM : M.length = nm) :
    Calls Try.prog 19 #[.slice (some ⟨g, 0, none⟩) n c] w fun e w' => ∃ ma mc, e = .returned (.tuple #[.slice ma nm mc, .int .i64 (F : Int)]) ∧ Recs w' ma M ∧ WRecs w' w.heap.size ma M ∧ Below w.heap.size w w' := by
  subst hn hM
  refine (records_any (some ⟨g, 0, none⟩) c l w hc hm hs (fun h => by cases h)).mono ?_
  rintro e w' ⟨v, rfl, h1, h2⟩
  rw [hR] at h1 ⊢
  obtain ⟨ma, mc, rfl, h3, _⟩ := h1.recs
  exact ⟨ma, mc, rfl, h3, WRecs.of h1, h2⟩
set_option maxRecDepth 100000 in
set_option maxHeartbeats 2000000 in
theorem streams_much (a b : Option Addr) (cp cq : Nat) (L : List Rec) (l : List UInt8) (w : World) (hm : L.length ≤ maxLen) (hr : Recs w a L) (hml : l.length ≤ maxLen) (hbig : 3000 < sizes L ∨ 3000 < l.length) :
    Calls Try.prog 4 #[.slice a L.length cp, .slice b l.length cq] w fun e w' => e = .returned (.bool true) ∧ Below w.heap.size w w' := by
  have HZ := Lib.hid (size_any a cp L w hm hr)
  unfold maxLen at hml
  clear hr
  by_cases h : 3000 < sizes L
  · clear hbig
    generalize L.length = n at *
    generalize l.length = k at *
    go_enter Try.func4, Try.ntmps4
    go_wp2_with (first
      | (go_at_call 14; (with_reducible refine Calls.mono HZ.out ?_); rintro e w1 ⟨y, rfl, hy, hb1⟩; have hy3 := hy.2 h; have HB1 := Lib.hid hb1; clear hb1 hy)
      | (go_at_call 9; (with_reducible refine Calls.mono (works_any _) ?_); rintro e w4 ⟨rfl, hb4⟩; have HB4 := Lib.hid hb4; clear hb4))
    go_ret
    exact ⟨rfl, HB1.out.trans (HB4.out.mono HB1.out.size)⟩
  · have hl : 3000 < l.length := by omega
    have hli : (3000 : Int) < (l.length : Int) := by omega
    clear hbig
    generalize L.length = n at *
    generalize l.length = k at *
    go_enter Try.func4, Try.ntmps4
    go_wp2_with (first
      | (go_at_call 14; (with_reducible refine Calls.mono HZ.out ?_); rintro e w1 ⟨y, rfl, hy, hb1⟩; have hy3 : decide (3000 < y) = false := (by (simp only [decide_eq_false_iff_not]; exact fun e => h (hy.1 e))); have HB1 := Lib.hid hb1; clear hb1 hy)
      | (go_at_call 9; (with_reducible refine Calls.mono (works_any _) ?_); rintro e w4 ⟨rfl, hb4⟩; have HB4 := Lib.hid hb4; clear hb4))
    go_ret
    exact ⟨rfl, HB1.out.trans (HB4.out.mono HB1.out.size)⟩
set_option maxRecDepth 100000 in
set_option maxHeartbeats 4000000 in
theorem streams_few (a b : Option Addr) (cp cq : Nat) (L : List Rec) (l : List UInt8) (w : World) (hsz : sizes L ≤ 3000) (hr : Recs w a L) (ht : ∀ r ∈ L, r.t < 18446744073709551616) (hl : l.length ≤ 3000) (hc : l.length ≤ cq) (hcm : cq ≤ maxLen) (hs : Src w b l) (hn : b = none → cq = 0)
    (B : List UInt8) (E : Nat) (hS : streamN L = (B, E)) (M : List Rec) (F : Nat) (hM : recordsN l = (M, F)) :
    Calls Try.prog 4 #[.slice a L.length cp, .slice b l.length cq] w fun e w' => e = .returned (.bool true) ∧ Below w.heap.size w w' := by
  have hLl := sizes_len L hsz
  have hL3 : L.length ≤ 3000 := by omega
  have hLm : L.length ≤ maxLen := by unfold maxLen; omega
  have hbd3 : ∀ r ∈ L, r.body.length ≤ 3000 := fun r hr => by have := body_le hr; omega
  have hbd : ∀ r ∈ L, r.body.length ≤ 140737488355328 := fun r hr => by have := hbd3 r hr; omega
  have hMl : M.length ≤ maxLen := by
    by_cases hF : (recordsN l).2 = 0
    · have hq := (stream_records l hF).1
      rw [hM] at hq
      unfold streamN at hq
      unfold maxLen
      split at hq
      · simp at hq
      · simp only at *; omega
    · have := records_none l hF
      rw [hM] at this
      simp only at this
      rw [this]; exact Nat.zero_le _
  have HMB : Hid (∀ r ∈ M, r.body.length ≤ 140737488355328) := by
    by_cases hF : (recordsN l).2 = 0
    · have hq := records_small (stream_records l hF).1
      rw [hM] at hq
      exact hq
    · have := records_none l hF
      rw [hM] at this
      simp only at this
      rw [this]; intro r hr; cases hr
  have HZ := Lib.hid (size_any a cp L w hLm hr)
  have HL : Hid (∀ w', Below w.heap.size w w' → Recs w' a L) := fun w' h => hr.below h
  have HB : Hid (∀ w', Below w.heap.size w w' → Src w' b l) := fun w' h => hs.below h
  obtain ⟨k, hk⟩ : ∃ k, l.length = k := ⟨_, rfl⟩
  obtain ⟨n, hLn⟩ : ∃ n, L.length = n := ⟨_, rfl⟩
  obtain ⟨nb, hnb⟩ : ∃ nb, B.length = nb := ⟨_, rfl⟩
  obtain ⟨nm, hnm⟩ : ∃ nm, M.length = nm := ⟨_, rfl⟩
  obtain ⟨S, hSt⟩ : ∃ S : ByteArray, (⟨l.toArray⟩ : ByteArray) = S := ⟨_, rfl⟩
  obtain ⟨SB, hSB⟩ : ∃ S : ByteArray, (⟨B.toArray⟩ : ByteArray) = S := ⟨_, rfl⟩
  have HCL : Hid (∀ (w' : World) (a : Option Addr) (c : Nat), Src w' a l → (convert 23 9 (.slice a k c)).run Try.prog w' = .ok (.string S) w') := fun w' a c h => by rw [← hk, ← hSt]; exact conv_src w' a l c h
  have HCB : Hid (∀ (w' : World) (a : Option Addr) (c : Nat), Src w' a B → (convert 23 9 (.slice a nb c)).run Try.prog w' = .ok (.string SB) w') := fun w' a c h => by rw [← hnb, ← hSB]; exact conv_src w' a B c h
  obtain ⟨C, F6, hback, HF⟩ := back_fun' l S hSt k hk (by unfold maxLen; omega)
  have H15 : Hid (∀ w', Below w.heap.size w w' → Calls Try.prog 15 #[.slice a n cp] w' fun e w2 => ∃ va vc, e = .returned (.tuple #[.slice va nb vc, .int .i64 (E : Int)]) ∧ Src w2 va B ∧ Below w'.heap.size w' w2) := fun w' h => by
    rw [← hLn, ← hnb]
    have hh : Calls Try.prog 15 #[.slice a L.length cp] w' (StreamPost L w') := by
      by_cases h6 : 64 < L.length
      · exact streamr_many a cp L w' h6 hLm
      · exact streamr_few a cp L w' (by omega) (HL.out w' h) ht (by omega)
    refine hh.mono ?_
    rintro e w2 ⟨v, rfl, h1, h2⟩
    rw [hS] at h1 ⊢
    obtain ⟨va, vc, rfl⟩ := own_slice h1
    exact ⟨va, vc, rfl, Src.of_byt h1, h2⟩
  have H16 : Hid (∀ w', Below w.heap.size w w' → Calls Try.prog 16 #[.slice a n cp] w' fun e w2 => ∃ ia ic, e = .returned (.slice ia n ic) ∧ Recs w2 ia L ∧ Below w'.heap.size w' w2) := fun w' h => by
    rw [← hLn]
    refine (lent_any a cp L w' hL3 hbd3 ht (HL.out w' h)).mono ?_
    rintro e w2 ⟨v, rfl, h1, h2⟩
    obtain ⟨ia, ic, rfl, h3, _⟩ := h1.recs
    exact ⟨ia, ic, rfl, h3, h2⟩
  have H17 : Hid (∀ (w' : World) (ia : Option Addr) (ic : Nat), Recs w' ia L → Calls Try.prog 17 #[.slice ia n ic] w' fun e w2 => ∃ va vc, e = .returned (.tuple #[.slice va nb vc, .int .i64 (E : Int)]) ∧ Src w2 va B ∧ Below w'.heap.size w' w2) := fun w' ia ic h => by
    refine (stream_ad ia ic n L hLn w' hLm h ht hbd B E nb hS hnb).mono ?_
    rintro e w2 ⟨va, vc, rfl, h1, _, _, _, h2⟩
    exact ⟨va, vc, rfl, h1, h2⟩
  have H18 : Hid (∀ w', Below w.heap.size w w' → Calls Try.prog 18 #[.slice b k cq] w' fun e w2 => ∃ ma mc, e = .returned (.tuple #[.slice ma nm mc, .int .i64 (F : Int)]) ∧ Recs w2 ma M ∧ Below w'.heap.size w' w2) := fun w' h => by
    rw [← hk, ← hnm]
    refine (recordsr_any b cq l w' hc hcm (HB.out w' h) hn).mono ?_
    rintro e w2 ⟨v, rfl, h1, h2⟩
    rw [hM] at h1 ⊢
    obtain ⟨ma, mc, rfl, h3, _⟩ := h1.recs
    exact ⟨ma, mc, rfl, h3, h2⟩
  have H19 : Hid (∀ (w' : World) (g c : Nat), Src w' (some ⟨g, 0, none⟩) l → k ≤ c → c ≤ maxLen → Calls Try.prog 19 #[.slice (some ⟨g, 0, none⟩) k c] w' fun e w2 => ∃ ma mc, e = .returned (.tuple #[.slice ma nm mc, .int .i64 (F : Int)]) ∧ Recs w2 ma M ∧ WRecs w2 w'.heap.size ma M ∧ Below w'.heap.size w' w2) := fun w' g c h1 h2 h3 => records_own g c k l hk w' h2 h3 h1 M F nm hM hnm
  have H20 : Hid (∀ (w' : World) (ma oa : Option Addr) (mc oc : Nat), Recs w' ma M → Recs w' oa M → Calls Try.prog 20 #[.slice ma nm mc, .slice oa nm oc] w' fun e w2 => e = .returned (.bool true) ∧ Below w'.heap.size w' w2) := fun w' ma oa mc oc h1 h2 => by rw [← hnm]; exact same_yes ma oa mc oc M w' hMl h1 h2
  have H20L : Hid (∀ (w' : World) (ma : Option Addr) (mc : Nat), Recs w' ma L → Recs w' a L → Calls Try.prog 20 #[.slice ma n mc, .slice a n cp] w' fun e w2 => e = .returned (.bool true) ∧ Below w'.heap.size w' w2) := fun w' ma mc h1 h2 => by rw [← hLn]; exact same_yes ma a mc cp L w' hLm h1 h2
  have hz3 : ¬ 3000 < sizes L := by omega
  have hnmM : Hid (nm = M.length) := hnm.symm
  have hnmi : nm ≤ 9223372036854775807 := by rw [← hnm]; unfold maxLen at hMl; omega
  have tS : ((S.toList == S.toList) : Bool) = true := by simp
  have tB : ((SB.toList == SB.toList) : Bool) = true := by simp
  have tE : ((E : Int) != (E : Int)) = false := by simp
  have tF : ((F : Int) != (F : Int)) = false := by simp
  rw [hk] at hl ⊢
  rw [hLn] at HZ ⊢
  clear hr hs hS hM hSt hSB hk hLn hnb hnm hLl hL3 hLm hbd hbd3 hMl hsz ht hc hcm hn
  go_enter Try.func4, Try.ntmps4
  go_wp2_with (first
    | (go_at_call 14; (with_reducible refine Calls.mono HZ.out ?_); rintro e w1 ⟨y, rfl, hy, hb1⟩; have hy3 : decide (3000 < y) = false := (by (simp only [decide_eq_false_iff_not]; exact fun e => hz3 (hy.1 e))); have s1 := Lib.hid hb1; clear hb1 hy)
    | (go_at_call 15; (with_reducible refine Calls.mono (H15.out _ s1.out) ?_); rintro e w2 ⟨va, vc, rfl, vs, hb2⟩; have VS := Lib.hid vs; have s2 := Lib.hid hb2; clear vs hb2)
    | (go_at_call 16; (with_reducible refine Calls.mono (H16.out _ (lt2 s1.out s2.out)) ?_); rintro e w3 ⟨ia, ic, rfl, is, hb3⟩; have IS := Lib.hid is; have s3 := Lib.hid hb3; clear is hb3)
    | (go_at_call 17; (with_reducible refine Calls.mono (H17.out _ _ _ IS.out) ?_); rintro e w4 ⟨ua, uc, rfl, us, hb4⟩; have US := Lib.hid us; have s4 := Lib.hid hb4; clear us hb4)
    | (go_at_call 18; (with_reducible refine Calls.mono (H18.out _ (lt2 (lt2 (lt2 s1.out s2.out) s3.out) s4.out)) ?_); rintro e w5 ⟨oa, oc, rfl, ms, hb5⟩; have MS := Lib.hid ms; have s5 := Lib.hid hb5; have z5 := Lib.hid (lt2 (lt2 (lt2 (lt2 s1.out s2.out) s3.out) s4.out) s5.out); have cvb5 := HCL.out w5 b cq (HB.out _ z5.out); clear ms hb5)
    | (go_at_call 19; (with_reducible refine Calls.mono (H19.out _ _ _ (HF.out w5).1 (HF.out w5).2.1 (HF.out w5).2.2.1) ?_); rintro e w7 ⟨ma, mc, rfl, rs, rw7, hb7⟩; have RS := Lib.hid rs; have WR := Lib.hid rw7; have s6 := Lib.hid (HF.out w5).2.2.2; have s7 := Lib.hid hb7; have s57 := Lib.hid (lt2 s6.out s7.out); have cvc := HCB.out w7 ua uc (US.out.below (lt2 s5.out s57.out)); have cvw := HCB.out w7 va vc (VS.out.below (lt2 (lt2 s3.out s4.out) (lt2 s5.out s57.out))); clear rs rw7 hb7)
    | (go_at_call 20; (with_reducible refine Calls.mono (H20.out _ _ _ _ _ RS.out (MS.out.below s57.out)) ?_); rintro e w8 ⟨rfl, hb8⟩; have s8 := Lib.hid hb8; clear hb8)
    | (go_at_call 20; (with_reducible refine Calls.mono (H20L.out _ _ _ (IS.out.below (lt2 s4.out (lt2 s5.out (lt2 s57.out s8.out)))) (HL.out _ (lt2 z5.out (lt2 s57.out s8.out)))) ?_); rintro e w9 ⟨rfl, hb9⟩; have s9 := Lib.hid hb9; have s69 := Lib.hid (lt2 s7.out (lt2 s8.out s9.out)); have z9 := Lib.hid (lt2 z5.out (lt2 s6.out s69.out)); have cvd := HCL.out w9 (some ⟨w5.heap.size, 0, none⟩) (C w5) ((HF.out w5).1.below s69.out); have cvb9 := HCL.out w9 b cq (HB.out _ z9.out); clear hb9))
  have DS : Hid (Src (F6 w5) (some ⟨w5.heap.size, 0, none⟩) l) := (HF.out w5).1
  have DC : Hid (k ≤ C w5 ∧ C w5 ≤ maxLen) := ⟨(HF.out w5).2.1, (HF.out w5).2.2.1⟩
  have OS : Hid (Recs (F6 w5) oa M) := MS.out.below s6.out
  have z6 : Hid (Below w.heap.size w (F6 w5)) := lt2 z5.out s6.out
  have WR9 : Hid (WRecs w9 (F6 w5).heap.size ma M) := WR.out.below (lt2 s8.out s9.out)
  clear HF H15 H16 H17 H18 H20L HZ HL HCB s1 s2 s3 s4 s5 s6 s7 s8 s9 s57 z5 z9 VS IS US MS RS WR cvb5 cvc cvw cvd cvb9 hy3 hback tB tE tF
  generalize F6 w5 = w6 at *
  generalize C w5 = cd at *
  generalize w5.heap.size = gd at *
  have hnmI : (nm : Int) ≤ 9223372036854775807 := by omega
  go_loopw [15, 16] (fun iv kv wr => ∃ i : Nat, i ≤ nm ∧ iv = .int .i64 i ∧ Hid (Below w6.heap.size w6 wr) ∧ Hid (WRecs wr w6.heap.size ma M)) (fun iv _ _ => nm - (intOf iv).toNat)
  case atStart => exact ⟨0, Nat.zero_le _, rfl, s69.out, WR9.out⟩
  case round =>
    obtain ⟨i, hi, rfl, hB, hW⟩ := hrel
    by_cases hlt : i < nm
    · obtain ⟨r, hr⟩ : ∃ r, M[i]? = some r := ⟨_, List.getElem?_eq_getElem (by have := hnmM.out; omega)⟩
      have HRI := Lib.hid hr
      obtain ⟨bl, hbl⟩ : ∃ bl, r.body.length = bl := ⟨_, rfl⟩
      have HBL := Lib.hid hbl
      have hblb : bl ≤ 140737488355328 := by rw [← hbl]; exact HMB.out r (List.mem_of_getElem? hr)
      have hblI : (bl : Int) ≤ 140737488355328 := by omega
      obtain ⟨g, bi, ci, cur, hma, _, _, _⟩ := hW.out i r hr
      subst hma
      have hii : (i : Int) < (nm : Int) := by omega
      clear hr hbl
      go_wp2
      go_loopw [16] (fun kv wq => ∃ j : Nat, j ≤ bl ∧ kv = .int .i64 j ∧ Hid (Below w6.heap.size w6 wq) ∧ Hid (WRecs wq w6.heap.size (some ⟨g, 0, none⟩) M)) (fun kv _ => bl - (intOf kv).toNat)
      case atStart => exact ⟨0, Nat.zero_le _, rfl, hB.out, hW.out⟩
      case round =>
        obtain ⟨j, hj, rfl, hBq, hWq⟩ := hrel
        obtain ⟨g', bi', ci', cur', e1, e2, e3, e4⟩ := hWq.out i r HRI.out
        cases e1
        rw [HBL.out] at e3 e4
        have c1 : wr.cell? ⟨g, i * 2 + 1, none⟩ = some (.slice bi' bl ci') := by rw [cell_of_row _ _ _ _ _ _ e2]; exact e3
        clear e2 e3
        by_cases hjl : j < bl
        · obtain ⟨gb, curb, hbi, hge, hhb, hlen⟩ := e4.row (by omega)
          subst hbi
          have cb : wr.cell? ⟨gb, j, none⟩ = some (curb[j]'(by omega)) := by rw [cell_of_row _ _ _ _ _ _ hhb]; exact Array.getElem?_eq_getElem (by omega)
          have fb := frozen_of_row wr gb j curb 5 hhb
          have HHB := Lib.hid hhb; have HGE := Lib.hid hge
          have hji : (j : Int) < (bl : Int) := by omega
          generalize curb[j]'(by omega) = old at cb
          clear hhb hge e4
          go_wp2
          go_roundw
          case rel => exact ⟨j + 1, by omega, by go_num, hBq.out.setCell HGE.out _, hWq.out.set HHB.out j _⟩
          case measure => simp [intOf]; omega
        · obtain rfl : j = bl := by omega
          go_wp2
          go_roundw
          case rel => exact ⟨i + 1, by omega, by go_num, hBq.out, hWq.out⟩
          case measure => simp [intOf]; omega
    · obtain rfl : i = nm := by omega
      have DSr : Hid (Src wr (some ⟨gd, 0, none⟩) l) := DS.out.below hB.out
      have zr : Hid (Below w.heap.size w wr) := lt2 z6.out hB.out
      go_wp2_with (first
        | (go_at_call 19; (with_reducible refine Calls.mono (H19.out _ _ _ DSr.out DC.out.1 DC.out.2) ?_); rintro e w10 ⟨pa, pc, rfl, ps, _, hb10⟩; have PS := Lib.hid ps; have t1 := Lib.hid hb10; clear ps hb10)
        | (go_at_call 20; (with_reducible refine Calls.mono (H20.out _ _ _ _ _ PS.out (OS.out.below (lt2 hB.out t1.out))) ?_); rintro e w11 ⟨rfl, hb11⟩; have t2 := Lib.hid hb11; have cvd := HCL.out w11 (some ⟨gd, 0, none⟩) cd (DSr.out.below (lt2 t1.out t2.out)); have cvb := HCL.out w11 b cq (HB.out _ (lt2 zr.out (lt2 t1.out t2.out))); clear hb11)
        | (go_at_call 9; (with_reducible refine Calls.mono (works_any _) ?_); rintro e w12 ⟨rfl, hb12⟩; have t3 := Lib.hid hb12; clear hb12))
      go_ret
      exact ⟨rfl, lt2 zr.out (lt2 t1.out (lt2 t2.out t3.out))⟩
theorem streams_any (a : Option Addr) (cp : Nat) (L : List Rec) (b : Option Addr) (cq : Nat) (l : List UInt8) (w : World) (hr : Recs w a L) (hm : L.length ≤ maxLen) (ht : ∀ r ∈ L, r.t < 18446744073709551616) (hc : l.length ≤ cq) (hcm : cq ≤ maxLen) (hs : Src w b l) (hn : b = none → cq = 0) :
    Calls Try.prog 4 #[.slice a L.length cp, .slice b l.length cq] w fun e w' => e = .returned (.bool true) ∧ Below w.heap.size w w' := by
  by_cases hbig : 3000 < sizes L ∨ 3000 < l.length
  · exact streams_much a b cp cq L l w hm hr (by omega) hbig
  · exact streams_few a b cp cq L l w (by omega) hr ht (by omega) hc hcm hs hn _ _ rfl _ _ rfl
end Go.Proofs.Ytcdeggocnaodiaa
