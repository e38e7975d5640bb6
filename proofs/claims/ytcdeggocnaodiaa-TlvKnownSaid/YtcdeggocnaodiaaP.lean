/- TlvBack, walked. -/
import Derived.Test.YtcdeggocnaodiaaO
namespace Go.Proofs.Ytcdeggocnaodiaa
open Go.RowKit Tlv
theorem Byt.cap {w : World} {base n c : Nat} {a : Option Addr} {l : List UInt8} (h : Byt w base (.slice a n c) l) : n ≤ c ∧ c ≤ maxLen ∧ n = l.length ∧ (a = none → c = 0) := by
  rcases h.2 with ⟨h0, hl⟩ | ⟨g, cap, cur, hv, hg, hh, hc, hm, hs, ht⟩
  · cases h0; exact ⟨Nat.le_refl _, by decide, hl.symm, fun _ => rfl⟩
  · cases hv; exact ⟨hc, hm, rfl, fun e => by cases e⟩
theorem OwnRecs.recs {w : World} {base : Nat} {v : Value} {L : List Rec} (h : OwnRecs w base v L) : ∃ a c, v = .slice a L.length c ∧ Recs w a L ∧ L.length ≤ maxLen := by
  obtain ⟨bs, h1, h2, h3⟩ := h
  rcases h2.2 with ⟨h0, hl⟩ | ⟨g, cap, cur, hv, hg, hh, hc, hm, hs, ht⟩
  · have : L = [] := List.eq_nil_of_length_eq_zero hl
    subst this
    exact ⟨none, 0, h0, .inl rfl, Nat.zero_le _⟩
  · refine ⟨_, _, hv, .inr ⟨g, 0, rfl, fun k r hr => ?_⟩, by omega⟩
    have hk := (List.getElem?_eq_some_iff.1 hr).1
    obtain ⟨x, hx⟩ : ∃ x, bs[k]? = some x := ⟨_, List.getElem?_eq_getElem (by omega)⟩
    have hb := (h3 k r x hr hx).1
    have hcell : ∀ j u, j < L.length * 2 → (recCells L bs)[j]? = some u → w.cell? ⟨g, j, none⟩ = some u := fun j u hj hu => by
      rw [cell_of_row _ _ _ _ _ _ hh]
      have e : (cur.toList.take (L.length * 2))[j]? = (recCells L bs)[j]? := by rw [ht]
      rw [List.getElem?_take, if_pos hj, Array.getElem?_toList, hu] at e
      exact e
    have hr2 := recCells_at L bs k r x hr hx
    rw [Nat.zero_add]
    exact ⟨x.1, x.2, hcell _ _ (by omega) hr2.1, hcell _ _ (by omega) hr2.2, Src.of_byt hb, hb.cap.1, hb.cap.2.1, hb.cap.2.2.2⟩
theorem stream_ad (a : Option Addr) (cp n : Nat) (L : List Rec) (hn : L.length = n) (w : World) (hm : L.length ≤ maxLen) (hr : Recs w a L) (ht : ∀ r ∈ L, r.t < 18446744073709551616) (hbd : ∀ r ∈ L, r.body.length ≤ 140737488355328) (B : List UInt8) (E nb : Nat) (hS : streamN L = (B, E)) (hb : B.length = nb) :
    Calls Try.prog 17 #[.slice a n cp] w fun e w' => ∃ va vc, e = .returned (.tuple #[.slice va nb vc, .int .i64 (E : Int)]) ∧ Src w' va B ∧ nb ≤ vc ∧ vc ≤ maxLen ∧ (va = none → vc = 0) ∧ Below w.heap.size w w' := by
  subst hn hb
  refine (stream_any a cp L w hm hr ht hbd).mono ?_
  rintro e w' ⟨v, rfl, h1, h2⟩
  rw [hS] at h1 ⊢
  obtain ⟨va, vc, rfl⟩ := own_slice h1
  exact ⟨va, vc, rfl, Src.of_byt h1, h1.cap.1, h1.cap.2.1, h1.cap.2.2.2, h2⟩
theorem records_ad (a : Option Addr) (cp n : Nat) (l : List UInt8) (hn : l.length = n) (w : World) (hc : n ≤ cp) (hm : cp ≤ maxLen) (hs : Src w a l) (h0 : a = none → cp = 0) (M : List Rec) (F nm : Nat) (hR : recordsN l = (M, F)) (hM : M.length = nm) :
    Calls Try.prog 19 #[.slice a n cp] w fun e w' => ∃ ma mc, e = .returned (.tuple #[.slice ma nm mc, .int .i64 (F : Int)]) ∧ Recs w' ma M ∧ Below w.heap.size w w' := by
  subst hn hM
  refine (records_any a cp l w hc hm hs h0).mono ?_
  rintro e w' ⟨v, rfl, h1, h2⟩
  rw [hR] at h1 ⊢
  obtain ⟨ma, mc, rfl, h3, _⟩ := h1.recs
  exact ⟨ma, mc, rfl, h3, h2⟩
set_option maxRecDepth 100000 in
set_option maxHeartbeats 2000000 in
theorem back_much (a b : Option Addr) (cp cq : Nat) (L : List Rec) (l : List UInt8) (w : World) (hm : L.length ≤ maxLen) (hr : Recs w a L) (hml : l.length ≤ maxLen) (hbig : 3000 < sizes L ∨ 3000 < l.length) :
    Calls Try.prog 5 #[.slice a L.length cp, .slice b l.length cq] w fun e w' => e = .returned (.bool true) ∧ Below w.heap.size w w' := by
  have HZ := Lib.hid (size_any a cp L w hm hr)
  unfold maxLen at hml
  clear hr
  by_cases h : 3000 < sizes L
  · clear hbig
    generalize L.length = n at *
    generalize l.length = k at *
    go_enter Try.func5, Try.ntmps5
    go_wp2_with (first
      | (go_at_call 14; (with_reducible refine Calls.mono HZ.out ?_); rintro e w1 ⟨y, rfl, hy, hb1⟩; have hy3 := hy.2 h; have HB1 := Lib.hid hb1; clear hb1 hy)
      | (go_at_call 9; (with_reducible refine Calls.mono (works_any _) ?_); rintro e w4 ⟨rfl, hb4⟩; have HB4 := Lib.hid hb4; clear hb4))
    go_ret
    exact ⟨rfl, HB1.out.trans (HB4.out.mono HB1.out.size)⟩
  · have hl : 3000 < l.length := by omega
    have hli : (3000 : Int) < (l.length : Int) := by omega
    clear hbig
    generalize L.length = n at *
    generalize l.length = k at *
    go_enter Try.func5, Try.ntmps5
    go_wp2_with (first
      | (go_at_call 14; (with_reducible refine Calls.mono HZ.out ?_); rintro e w1 ⟨y, rfl, hy, hb1⟩; have hy3 : decide (3000 < y) = false := (by (simp only [decide_eq_false_iff_not]; exact fun e => h (hy.1 e))); have HB1 := Lib.hid hb1; clear hb1 hy)
      | (go_at_call 9; (with_reducible refine Calls.mono (works_any _) ?_); rintro e w4 ⟨rfl, hb4⟩; have HB4 := Lib.hid hb4; clear hb4))
    go_ret
    exact ⟨rfl, HB1.out.trans (HB4.out.mono HB1.out.size)⟩
set_option maxRecDepth 100000 in
set_option maxHeartbeats 2000000 in
theorem back_yy (a b : Option Addr) (cp cq : Nat) (L : List Rec) (l B : List UInt8) (w : World) (hsz : sizes L ≤ 3000) (hr : Recs w a L) (ht : ∀ r ∈ L, r.t < 18446744073709551616) (hl : l.length ≤ 3000) (hc : l.length ≤ cq) (hcm : cq ≤ maxLen) (hs : Src w b l) (hn : b = none → cq = 0)
    (hS : streamN L = (B, 0)) (hB : recordsN B = (L, 0)) (M : List Rec) (hM : recordsN l = (M, 0)) (hMt : ∀ r ∈ M, r.t < 18446744073709551616) (hMb : ∀ r ∈ M, r.body.length ≤ 140737488355328) (hMs : streamN M = (l, 0)) :
    Calls Try.prog 5 #[.slice a L.length cp, .slice b l.length cq] w fun e w' => e = .returned (.bool true) ∧ Below w.heap.size w w' := by
  have hLl := sizes_len L hsz
  have hLm : L.length ≤ maxLen := by unfold maxLen; omega
  have hbd : ∀ r ∈ L, r.body.length ≤ 140737488355328 := fun r hr => by have := body_le hr; omega
  have HZ := Lib.hid (size_any a cp L w hLm hr)
  have HL : Hid (∀ w', Below w.heap.size w w' → Recs w' a L) := fun w' h => hr.below h
  have HB : Hid (∀ w', Below w.heap.size w w' → Src w' b l) := fun w' h => hs.below h
  have HCV : Hid (∀ (w' : World) (a : Option Addr) (c : Nat), Src w' a l → (convert 23 9 (.slice a l.length c)).run Try.prog w' = .ok (.string ⟨l.toArray⟩) w') := fun w' a c h => conv_src w' a l c h
  obtain ⟨S, hSt⟩ : ∃ S : ByteArray, (⟨l.toArray⟩ : ByteArray) = S := ⟨_, rfl⟩
  rw [hSt] at HCV
  obtain ⟨k, hk⟩ : ∃ k, l.length = k := ⟨_, rfl⟩
  obtain ⟨n, hLn⟩ : ∃ n, L.length = n := ⟨_, rfl⟩
  have H17 : Hid (∀ w', Below w.heap.size w w' → Calls Try.prog 17 #[.slice a n cp] w' _) := fun w' h => stream_ad a cp n L hLn w' hLm (HL.out w' h) ht hbd _ _ _ hS rfl
  obtain ⟨nb, hnb⟩ : ∃ nb, B.length = nb := ⟨_, rfl⟩
  rw [hnb] at H17
  have H19 : Hid (∀ (w' : World) (va : Option Addr) (vc : Nat), Src w' va B → nb ≤ vc → vc ≤ maxLen → (va = none → vc = 0) → Calls Try.prog 19 #[.slice va nb vc] w' _) := fun w' va vc h1 h2 h3 h4 => records_ad va vc nb B hnb w' h2 h3 h1 h4 _ _ _ hB hLn
  have H20 : Hid (∀ (w' : World) (ma : Option Addr) (mc : Nat), Recs w' ma L → Recs w' a L → Calls Try.prog 20 #[.slice ma n mc, .slice a n cp] w' fun e w2 => e = .returned (.bool true) ∧ Below w'.heap.size w' w2) := fun w' ma mc h1 h2 => by rw [← hLn]; exact same_yes ma a mc cp L w' hLm h1 h2
  obtain ⟨nm, hnm⟩ : ∃ nm, M.length = nm := ⟨_, rfl⟩
  have H19b : Hid (∀ w', Below w.heap.size w w' → Calls Try.prog 19 #[.slice b k cq] w' _) := fun w' h => records_ad b cq k l hk w' (by omega) hcm (HB.out w' h) hn _ _ _ hM hnm
  have hMl : M.length ≤ maxLen := by
    unfold streamN at hMs
    unfold maxLen
    split at hMs
    · simp at hMs
    · omega
  have H17b : Hid (∀ (w' : World) (ma : Option Addr) (mc : Nat), Recs w' ma M → Calls Try.prog 17 #[.slice ma nm mc] w' _) := fun w' ma mc h => stream_ad ma mc nm M hnm w' hMl h hMt hMb _ _ _ hMs hk
  have tS : ((S.toList == S.toList) : Bool) = true := by simp
  rw [hk] at hl HCV ⊢
  rw [hLn] at HZ ⊢
  have hz3 : ¬ 3000 < sizes L := by omega
  clear hr hs hS hM hSt hk hLn hLl hLm hbd hsz ht hc hcm hn hB hnb hMs hMt hMb hnm hMl
  go_enter Try.func5, Try.ntmps5
  go_wp2_with (first
    | (go_at_call 14; (with_reducible refine Calls.mono HZ.out ?_); rintro e w1 ⟨y, rfl, hy, hb1⟩; have hy3 : decide (3000 < y) = false := (by (simp only [decide_eq_false_iff_not]; exact fun e => hz3 (hy.1 e))); have BW := Lib.hid hb1; clear hb1 hy)
    | (go_at_call 17; (with_reducible refine Calls.mono (H17.out _ BW.out) ?_); rintro e w2 ⟨va, vc, rfl, vs, v1, v2, v3, hb2⟩; have BV := Lib.hid (BW.out.trans (hb2.mono BW.out.size)); have VS := Lib.hid vs; have V1 := Lib.hid v1; have V2 := Lib.hid v2; have V3 := Lib.hid v3; clear BW vs v1 v2 v3 hb2)
    | (go_at_call 19; (with_reducible refine Calls.mono (H19.out _ _ _ VS.out V1.out V2.out V3.out) ?_); rintro e w3 ⟨ma, mc, rfl, ms, hb3⟩; have BX := Lib.hid (BV.out.trans (hb3.mono BV.out.size)); have MS := Lib.hid ms; clear BV ms hb3)
    | (go_at_call 20; (with_reducible refine Calls.mono (H20.out _ _ _ MS.out (HL.out _ BX.out)) ?_); rintro e w4 ⟨rfl, hb4⟩; have BY := Lib.hid (BX.out.trans (hb4.mono BX.out.size)); clear BX hb4)
    | (go_at_call 19; (with_reducible refine Calls.mono (H19b.out _ BY.out) ?_); rintro e w5 ⟨oa, oc, rfl, os, hb5⟩; have BZ := Lib.hid (BY.out.trans (hb5.mono BY.out.size)); have OS := Lib.hid os; clear BY os hb5)
    | (go_at_call 17; (with_reducible refine Calls.mono (H17b.out _ _ _ OS.out) ?_); rintro e w6 ⟨ua, uc, rfl, us, u1, u2, u3, hb6⟩; have BU := Lib.hid (BZ.out.trans (hb6.mono BZ.out.size)); have cvu := HCV.out w6 ua uc us; have cvb := HCV.out w6 b cq (HB.out _ BU.out); clear BZ us u1 u2 u3 hb6)
    | (go_at_call 9; (with_reducible refine Calls.mono (works_any _) ?_); rintro e w7 ⟨rfl, hb7⟩; have BT := Lib.hid (BU.out.trans (hb7.mono BU.out.size)); clear BU hb7))
  go_ret
  exact ⟨rfl, BT.out⟩
set_option maxRecDepth 100000 in
set_option maxHeartbeats 2000000 in
theorem back_yn (a b : Option Addr) (cp cq : Nat) (L : List Rec) (l B : List UInt8) (w : World) (hsz : sizes L ≤ 3000) (hr : Recs w a L) (ht : ∀ r ∈ L, r.t < 18446744073709551616) (hl : l.length ≤ 3000) (hc : l.length ≤ cq) (hcm : cq ≤ maxLen) (hs : Src w b l) (hn : b = none → cq = 0)
    (hS : streamN L = (B, 0)) (hB : recordsN B = (L, 0)) (F : Nat) (hF : F ≠ 0) (hM : recordsN l = ([], F)) :
    Calls Try.prog 5 #[.slice a L.length cp, .slice b l.length cq] w fun e w' => e = .returned (.bool true) ∧ Below w.heap.size w w' := by
  have hLl := sizes_len L hsz
  have hLm : L.length ≤ maxLen := by unfold maxLen; omega
  have hbd : ∀ r ∈ L, r.body.length ≤ 140737488355328 := fun r hr => by have := body_le hr; omega
  have HZ := Lib.hid (size_any a cp L w hLm hr)
  have HL : Hid (∀ w', Below w.heap.size w w' → Recs w' a L) := fun w' h => hr.below h
  have HB : Hid (∀ w', Below w.heap.size w w' → Src w' b l) := fun w' h => hs.below h
  have HCV : Hid (∀ (w' : World) (a : Option Addr) (c : Nat), Src w' a l → (convert 23 9 (.slice a l.length c)).run Try.prog w' = .ok (.string ⟨l.toArray⟩) w') := fun w' a c h => conv_src w' a l c h
  obtain ⟨S, hSt⟩ : ∃ S : ByteArray, (⟨l.toArray⟩ : ByteArray) = S := ⟨_, rfl⟩
  rw [hSt] at HCV
  obtain ⟨k, hk⟩ : ∃ k, l.length = k := ⟨_, rfl⟩
  obtain ⟨n, hLn⟩ : ∃ n, L.length = n := ⟨_, rfl⟩
  have H17 : Hid (∀ w', Below w.heap.size w w' → Calls Try.prog 17 #[.slice a n cp] w' _) := fun w' h => stream_ad a cp n L hLn w' hLm (HL.out w' h) ht hbd _ _ _ hS rfl
  obtain ⟨nb, hnb⟩ : ∃ nb, B.length = nb := ⟨_, rfl⟩
  rw [hnb] at H17
  have H19 : Hid (∀ (w' : World) (va : Option Addr) (vc : Nat), Src w' va B → nb ≤ vc → vc ≤ maxLen → (va = none → vc = 0) → Calls Try.prog 19 #[.slice va nb vc] w' _) := fun w' va vc h1 h2 h3 h4 => records_ad va vc nb B hnb w' h2 h3 h1 h4 _ _ _ hB hLn
  have H20 : Hid (∀ (w' : World) (ma : Option Addr) (mc : Nat), Recs w' ma L → Recs w' a L → Calls Try.prog 20 #[.slice ma n mc, .slice a n cp] w' fun e w2 => e = .returned (.bool true) ∧ Below w'.heap.size w' w2) := fun w' ma mc h1 h2 => by rw [← hLn]; exact same_yes ma a mc cp L w' hLm h1 h2
  have tF : ((F : Int) != 0) = true := by simp; omega
  have H19b : Hid (∀ w', Below w.heap.size w w' → Calls Try.prog 19 #[.slice b k cq] w' _) := fun w' h => records_ad b cq k l hk w' (by omega) hcm (HB.out w' h) hn _ _ _ hM rfl
  have tS : ((S.toList == S.toList) : Bool) = true := by simp
  rw [hk] at hl HCV ⊢
  rw [hLn] at HZ ⊢
  have hz3 : ¬ 3000 < sizes L := by omega
  clear hr hs hS hM hSt hk hLn hLl hLm hbd hsz ht hc hcm hn hB hnb hF
  go_enter Try.func5, Try.ntmps5
  go_wp2_with (first
    | (go_at_call 14; (with_reducible refine Calls.mono HZ.out ?_); rintro e w1 ⟨y, rfl, hy, hb1⟩; have hy3 : decide (3000 < y) = false := (by (simp only [decide_eq_false_iff_not]; exact fun e => hz3 (hy.1 e))); have BW := Lib.hid hb1; clear hb1 hy)
    | (go_at_call 17; (with_reducible refine Calls.mono (H17.out _ BW.out) ?_); rintro e w2 ⟨va, vc, rfl, vs, v1, v2, v3, hb2⟩; have BV := Lib.hid (BW.out.trans (hb2.mono BW.out.size)); have VS := Lib.hid vs; have V1 := Lib.hid v1; have V2 := Lib.hid v2; have V3 := Lib.hid v3; clear BW vs v1 v2 v3 hb2)
    | (go_at_call 19; (with_reducible refine Calls.mono (H19.out _ _ _ VS.out V1.out V2.out V3.out) ?_); rintro e w3 ⟨ma, mc, rfl, ms, hb3⟩; have BX := Lib.hid (BV.out.trans (hb3.mono BV.out.size)); have MS := Lib.hid ms; clear BV ms hb3)
    | (go_at_call 20; (with_reducible refine Calls.mono (H20.out _ _ _ MS.out (HL.out _ BX.out)) ?_); rintro e w4 ⟨rfl, hb4⟩; have BY := Lib.hid (BX.out.trans (hb4.mono BX.out.size)); clear BX hb4)
    | (go_at_call 19; (with_reducible refine Calls.mono (H19b.out _ BY.out) ?_); rintro e w5 ⟨oa, oc, rfl, os, hb5⟩; have BZ := Lib.hid (BY.out.trans (hb5.mono BY.out.size)); have OS := Lib.hid os; clear BY os hb5)
    | (go_at_call 9; (with_reducible refine Calls.mono (works_any _) ?_); rintro e w7 ⟨rfl, hb7⟩; have BT := Lib.hid (BZ.out.trans (hb7.mono BZ.out.size)); clear BZ hb7))
  go_ret
  exact ⟨rfl, BT.out⟩
set_option maxRecDepth 100000 in
set_option maxHeartbeats 2000000 in
theorem back_ny (a b : Option Addr) (cp cq : Nat) (L : List Rec) (l : List UInt8) (w : World) (hsz : sizes L ≤ 3000) (hr : Recs w a L) (ht : ∀ r ∈ L, r.t < 18446744073709551616) (hl : l.length ≤ 3000) (hc : l.length ≤ cq) (hcm : cq ≤ maxLen) (hs : Src w b l) (hn : b = none → cq = 0)
    (E : Nat) (hE : E ≠ 0) (hS : streamN L = ([], E)) (M : List Rec) (hM : recordsN l = (M, 0)) (hMt : ∀ r ∈ M, r.t < 18446744073709551616) (hMb : ∀ r ∈ M, r.body.length ≤ 140737488355328) (hMs : streamN M = (l, 0)) :
    Calls Try.prog 5 #[.slice a L.length cp, .slice b l.length cq] w fun e w' => e = .returned (.bool true) ∧ Below w.heap.size w w' := by
  have hLl := sizes_len L hsz
  have hLm : L.length ≤ maxLen := by unfold maxLen; omega
  have hbd : ∀ r ∈ L, r.body.length ≤ 140737488355328 := fun r hr => by have := body_le hr; omega
  have HZ := Lib.hid (size_any a cp L w hLm hr)
  have HL : Hid (∀ w', Below w.heap.size w w' → Recs w' a L) := fun w' h => hr.below h
  have HB : Hid (∀ w', Below w.heap.size w w' → Src w' b l) := fun w' h => hs.below h
  have HCV : Hid (∀ (w' : World) (a : Option Addr) (c : Nat), Src w' a l → (convert 23 9 (.slice a l.length c)).run Try.prog w' = .ok (.string ⟨l.toArray⟩) w') := fun w' a c h => conv_src w' a l c h
  obtain ⟨S, hSt⟩ : ∃ S : ByteArray, (⟨l.toArray⟩ : ByteArray) = S := ⟨_, rfl⟩
  rw [hSt] at HCV
  obtain ⟨k, hk⟩ : ∃ k, l.length = k := ⟨_, rfl⟩
  obtain ⟨n, hLn⟩ : ∃ n, L.length = n := ⟨_, rfl⟩
  have H17 : Hid (∀ w', Below w.heap.size w w' → Calls Try.prog 17 #[.slice a n cp] w' _) := fun w' h => stream_ad a cp n L hLn w' hLm (HL.out w' h) ht hbd _ _ _ hS rfl
  have tE : ((E : Int) == 0) = false := by simp; omega
  obtain ⟨nm, hnm⟩ : ∃ nm, M.length = nm := ⟨_, rfl⟩
  have H19b : Hid (∀ w', Below w.heap.size w w' → Calls Try.prog 19 #[.slice b k cq] w' _) := fun w' h => records_ad b cq k l hk w' (by omega) hcm (HB.out w' h) hn _ _ _ hM hnm
  have hMl : M.length ≤ maxLen := by
    unfold streamN at hMs
    unfold maxLen
    split at hMs
    · simp at hMs
    · omega
  have H17b : Hid (∀ (w' : World) (ma : Option Addr) (mc : Nat), Recs w' ma M → Calls Try.prog 17 #[.slice ma nm mc] w' _) := fun w' ma mc h => stream_ad ma mc nm M hnm w' hMl h hMt hMb _ _ _ hMs hk
  have tS : ((S.toList == S.toList) : Bool) = true := by simp
  rw [hk] at hl HCV ⊢
  rw [hLn] at HZ ⊢
  have hz3 : ¬ 3000 < sizes L := by omega
  clear hr hs hS hM hSt hk hLn hLl hLm hbd hsz ht hc hcm hn hE hMs hMt hMb hnm hMl
  go_enter Try.func5, Try.ntmps5
  go_wp2_with (first
    | (go_at_call 14; (with_reducible refine Calls.mono HZ.out ?_); rintro e w1 ⟨y, rfl, hy, hb1⟩; have hy3 : decide (3000 < y) = false := (by (simp only [decide_eq_false_iff_not]; exact fun e => hz3 (hy.1 e))); have BW := Lib.hid hb1; clear hb1 hy)
    | (go_at_call 17; (with_reducible refine Calls.mono (H17.out _ BW.out) ?_); rintro e w2 ⟨va, vc, rfl, vs, v1, v2, v3, hb2⟩; have BV := Lib.hid (BW.out.trans (hb2.mono BW.out.size)); have VS := Lib.hid vs; have V1 := Lib.hid v1; have V2 := Lib.hid v2; have V3 := Lib.hid v3; clear BW vs v1 v2 v3 hb2)
    | (go_at_call 19; (with_reducible refine Calls.mono (H19b.out _ BV.out) ?_); rintro e w5 ⟨oa, oc, rfl, os, hb5⟩; have BZ := Lib.hid (BV.out.trans (hb5.mono BV.out.size)); have OS := Lib.hid os; clear BV os hb5)
    | (go_at_call 17; (with_reducible refine Calls.mono (H17b.out _ _ _ OS.out) ?_); rintro e w6 ⟨ua, uc, rfl, us, u1, u2, u3, hb6⟩; have BU := Lib.hid (BZ.out.trans (hb6.mono BZ.out.size)); have cvu := HCV.out w6 ua uc us; have cvb := HCV.out w6 b cq (HB.out _ BU.out); clear BZ us u1 u2 u3 hb6)
    | (go_at_call 9; (with_reducible refine Calls.mono (works_any _) ?_); rintro e w7 ⟨rfl, hb7⟩; have BT := Lib.hid (BU.out.trans (hb7.mono BU.out.size)); clear BU hb7))
  go_ret
  exact ⟨rfl, BT.out⟩
set_option maxRecDepth 100000 in
set_option maxHeartbeats 2000000 in
theorem back_nn (a b : Option Addr) (cp cq : Nat) (L : List Rec) (l : List UInt8) (w : World) (hsz : sizes L ≤ 3000) (hr : Recs w a L) (ht : ∀ r ∈ L, r.t < 18446744073709551616) (hl : l.length ≤ 3000) (hc : l.length ≤ cq) (hcm : cq ≤ maxLen) (hs : Src w b l) (hn : b = none → cq = 0)
    (E : Nat) (hE : E ≠ 0) (hS : streamN L = ([], E)) (F : Nat) (hF : F ≠ 0) (hM : recordsN l = ([], F)) :
    Calls Try.prog 5 #[.slice a L.length cp, .slice b l.length cq] w fun e w' => e = .returned (.bool true) ∧ Below w.heap.size w w' := by
  have hLl := sizes_len L hsz
  have hLm : L.length ≤ maxLen := by unfold maxLen; omega
  have hbd : ∀ r ∈ L, r.body.length ≤ 140737488355328 := fun r hr => by have := body_le hr; omega
  have HZ := Lib.hid (size_any a cp L w hLm hr)
  have HL : Hid (∀ w', Below w.heap.size w w' → Recs w' a L) := fun w' h => hr.below h
  have HB : Hid (∀ w', Below w.heap.size w w' → Src w' b l) := fun w' h => hs.below h
  have HCV : Hid (∀ (w' : World) (a : Option Addr) (c : Nat), Src w' a l → (convert 23 9 (.slice a l.length c)).run Try.prog w' = .ok (.string ⟨l.toArray⟩) w') := fun w' a c h => conv_src w' a l c h
  obtain ⟨S, hSt⟩ : ∃ S : ByteArray, (⟨l.toArray⟩ : ByteArray) = S := ⟨_, rfl⟩
  rw [hSt] at HCV
  obtain ⟨k, hk⟩ : ∃ k, l.length = k := ⟨_, rfl⟩
  obtain ⟨n, hLn⟩ : ∃ n, L.length = n := ⟨_, rfl⟩
  have H17 : Hid (∀ w', Below w.heap.size w w' → Calls Try.prog 17 #[.slice a n cp] w' _) := fun w' h => stream_ad a cp n L hLn w' hLm (HL.out w' h) ht hbd _ _ _ hS rfl
  have tE : ((E : Int) == 0) = false := by simp; omega
  have tF : ((F : Int) != 0) = true := by simp; omega
  have H19b : Hid (∀ w', Below w.heap.size w w' → Calls Try.prog 19 #[.slice b k cq] w' _) := fun w' h => records_ad b cq k l hk w' (by omega) hcm (HB.out w' h) hn _ _ _ hM rfl
  have tS : ((S.toList == S.toList) : Bool) = true := by simp
  rw [hk] at hl HCV ⊢
  rw [hLn] at HZ ⊢
  have hz3 : ¬ 3000 < sizes L := by omega
  clear hr hs hS hM hSt hk hLn hLl hLm hbd hsz ht hc hcm hn hE hF
  go_enter Try.func5, Try.ntmps5
  go_wp2_with (first
    | (go_at_call 14; (with_reducible refine Calls.mono HZ.out ?_); rintro e w1 ⟨y, rfl, hy, hb1⟩; have hy3 : decide (3000 < y) = false := (by (simp only [decide_eq_false_iff_not]; exact fun e => hz3 (hy.1 e))); have BW := Lib.hid hb1; clear hb1 hy)
    | (go_at_call 17; (with_reducible refine Calls.mono (H17.out _ BW.out) ?_); rintro e w2 ⟨va, vc, rfl, vs, v1, v2, v3, hb2⟩; have BV := Lib.hid (BW.out.trans (hb2.mono BW.out.size)); have VS := Lib.hid vs; have V1 := Lib.hid v1; have V2 := Lib.hid v2; have V3 := Lib.hid v3; clear BW vs v1 v2 v3 hb2)
    | (go_at_call 19; (with_reducible refine Calls.mono (H19b.out _ BV.out) ?_); rintro e w5 ⟨oa, oc, rfl, os, hb5⟩; have BZ := Lib.hid (BV.out.trans (hb5.mono BV.out.size)); have OS := Lib.hid os; clear BV os hb5)
    | (go_at_call 9; (with_reducible refine Calls.mono (works_any _) ?_); rintro e w7 ⟨rfl, hb7⟩; have BT := Lib.hid (BZ.out.trans (hb7.mono BZ.out.size)); clear BZ hb7))
  go_ret
  exact ⟨rfl, BT.out⟩
theorem records_small {l : List UInt8} {M : List Rec} (h : streamN M = (l, 0)) : ∀ r ∈ M, r.body.length ≤ 140737488355328 := fun r hr => by
  have h1 := body_le hr
  have h2 := (encAll_len M).1
  unfold streamN at h
  split at h
  · simp at h
  · split at h
    · simp at h
    · split at h
      · simp at h
      · omega
theorem back_any (a : Option Addr) (cp : Nat) (L : List Rec) (b : Option Addr) (cq : Nat) (l : List UInt8) (w : World) (hr : Recs w a L) (hm : L.length ≤ maxLen) (ht : ∀ r ∈ L, r.t < 18446744073709551616) (hc : l.length ≤ cq) (hcm : cq ≤ maxLen) (hs : Src w b l) (hn : b = none → cq = 0) :
    Calls Try.prog 5 #[.slice a L.length cp, .slice b l.length cq] w fun e w' => e = .returned (.bool true) ∧ Below w.heap.size w w' := by
  by_cases hbig : 3000 < sizes L ∨ 3000 < l.length
  · exact back_much a b cp cq L l w hm hr (by omega) hbig
  · have h1 : sizes L ≤ 3000 := by omega
    have h2 : l.length ≤ 3000 := by omega
    by_cases hE : (streamN L).2 = 0
    · have hB := records_stream L hE ht
      have hS : streamN L = ((streamN L).1, 0) := by rw [← hE]
      by_cases hF : (recordsN l).2 = 0
      · have hM : recordsN l = ((recordsN l).1, 0) := by rw [← hF]
        have hq := stream_records l hF
        exact back_yy a b cp cq L l _ w h1 hr ht h2 hc hcm hs hn hS hB _ hM hq.2 (records_small hq.1) hq.1
      · have hM : recordsN l = ([], (recordsN l).2) := by rw [← records_none l hF]
        exact back_yn a b cp cq L l _ w h1 hr ht h2 hc hcm hs hn hS hB _ hF hM
    · have hS : streamN L = ([], (streamN L).2) := by rw [← stream_none L hE]
      by_cases hF : (recordsN l).2 = 0
      · have hM : recordsN l = ((recordsN l).1, 0) := by rw [← hF]
        have hq := stream_records l hF
        exact back_ny a b cp cq L l w h1 hr ht h2 hc hcm hs hn _ hE hS _ hM hq.2 (records_small hq.1) hq.1
      · have hM : recordsN l = ([], (recordsN l).2) := by rw [← records_none l hF]
        exact back_nn a b cp cq L l w h1 hr ht h2 hc hcm hs hn _ hE hS _ hF hM
end Go.Proofs.Ytcdeggocnaodiaa
