/- TlvFinds, walked. -/
import Derived.Test.YtcdeggocnaodiaaU
namespace Go.Proofs.Ytcdeggocnaodiaa
open Go.RowKit Tlv
/-- a row of bytes that may be written -/
def Wr (w : World) (base : Nat) (a : Option Addr) (n : Nat) : Prop := n = 0 ∨ ∃ (g : Nat) (cur : Array Value), a = some ⟨g, 0, none⟩ ∧ base ≤ g ∧ w.heap[g]? = some (.cells cur 5 (0, 0)) ∧ n ≤ cur.size
theorem Wr.of_byt {w : World} {base n c : Nat} {a : Option Addr} {l : List UInt8} (h : Byt w base (.slice a n c) l) : Wr w base a n := by
  rcases h.2 with ⟨h0, hl⟩ | ⟨g, cap, cur, hv, hg, hh, hc, hm, hs, ht⟩
  · cases h0; exact .inl rfl
  · cases hv; exact .inr ⟨g, cur, rfl, hg, hh, by omega⟩
theorem Wr.below {w w' : World} {base n : Nat} {a : Option Addr} (h : Wr w base a n) (hb : Below w.heap.size w w') : Wr w' base a n := by
  rcases h with h | ⟨g, cur, h1, h2, h3, h4⟩
  · exact .inl h
  · exact .inr ⟨g, cur, h1, h2, by rw [hb.block g (Array.getElem?_eq_some_iff.1 h3).1]; exact h3, h4⟩
theorem Wr.set {w : World} {base n g : Nat} (h : Wr w base (some ⟨g, 0, none⟩) n) (hn : n ≠ 0) (j : Nat) (v : Value) : Wr (w.setCell ⟨g, j, none⟩ v) base (some ⟨g, 0, none⟩) n := by
  obtain ⟨g', cur, h1, h2, h3, h4⟩ := h.resolve_left hn
  cases h1
  exact .inr ⟨g, _, rfl, h2, heap_setCell_same w g j cur 5 v h3, by simpa using h4⟩
theorem Wr.at {w : World} {base n j : Nat} {a : Option Addr} (h : Wr w base a n) (hj : j < n) : ∃ g v, a = some ⟨g, 0, none⟩ ∧ base ≤ g ∧ w.cell? ⟨g, j, none⟩ = some v ∧ w.frozen? ⟨g, j, none⟩ = false := by
  obtain ⟨g, cur, h1, h2, h3, h4⟩ := h.resolve_left (by omega)
  exact ⟨g, cur[j]'(by omega), h1, h2, by rw [cell_of_row _ _ _ _ _ _ h3]; exact Array.getElem?_eq_getElem (by omega), frozen_of_row w g j cur 5 h3⟩
set_option maxRecDepth 100000 in
set_option maxHeartbeats 2000000 in
theorem finds_much (a : Option Addr) (cp : Nat) (L : List Rec) (t : Int) (ka : Option Addr) (kc : Nat) (K : List Int) (w : World) (hm : L.length ≤ maxLen) (hr : Recs w a L) (hmk : K.length ≤ maxLen) (hbig : 3000 < sizes L ∨ 100 < K.length) :
    Calls Try.prog 8 #[.slice a L.length cp, .int .u64 t, .slice ka K.length kc] w fun e w' => e = .returned (.bool true) ∧ Below w.heap.size w w' := by
  have HZ := Lib.hid (size_any a cp L w hm hr)
  unfold maxLen at hmk
  clear hr
  by_cases h : 3000 < sizes L
  · clear hbig
    generalize L.length = n at *
    generalize K.length = k at *
    go_enter Try.func8, Try.ntmps8
    go_wp2_with (first
      | (go_at_call 14; (with_reducible refine Calls.mono HZ.out ?_); rintro e w1 ⟨y, rfl, hy, hb1⟩; have hy3 := hy.2 h; have HB1 := Lib.hid hb1; clear hb1 hy)
      | (go_at_call 9; (with_reducible refine Calls.mono (works_any _) ?_); rintro e w4 ⟨rfl, hb4⟩; have HB4 := Lib.hid hb4; clear hb4))
    go_ret
    exact ⟨rfl, HB1.out.trans (HB4.out.mono HB1.out.size)⟩
  · have hl : 100 < K.length := by omega
    have hli : (100 : Int) < (K.length : Int) := by omega
    clear hbig
    generalize L.length = n at *
    generalize K.length = k at *
    go_enter Try.func8, Try.ntmps8
    go_wp2_with (first
      | (go_at_call 14; (with_reducible refine Calls.mono HZ.out ?_); rintro e w1 ⟨y, rfl, hy, hb1⟩; have hy3 : decide (3000 < y) = false := (by (simp only [decide_eq_false_iff_not]; exact fun e => h (hy.1 e))); have HB1 := Lib.hid hb1; clear hb1 hy)
      | (go_at_call 9; (with_reducible refine Calls.mono (works_any _) ?_); rintro e w4 ⟨rfl, hb4⟩; have HB4 := Lib.hid hb4; clear hb4))
    go_ret
    exact ⟨rfl, HB1.out.trans (HB4.out.mono HB1.out.size)⟩
set_option maxRecDepth 100000 in
set_option maxHeartbeats 4000000 in
theorem finds_few (a : Option Addr) (cp : Nat) (L : List Rec) (t : Int) (ka : Option Addr) (kc : Nat) (K : List Int) (w : World) (hsz : sizes L ≤ 3000) (hr : Recs w a L) (ht : ∀ r ∈ L, r.t < 18446744073709551616) (hmk : K.length ≤ 100) (hK : Nums w ka K)
    (body : List UInt8) (found : Bool) (hbl : body.length ≤ 3000) (hF : ∀ (w' : World) (a' : Option Addr) (c' : Nat), Recs w' a' L → Calls Try.prog 22 #[.slice a' L.length c', .int .u64 t] w' (FindPost body found w')) (hG : ∀ (w' : World) (a' : Option Addr) (c' : Nat), Recs w' a' L → Calls Try.prog 23 #[.slice a' L.length c', .int .u64 t] w' (FindrPost body found w')) :
    Calls Try.prog 8 #[.slice a L.length cp, .int .u64 t, .slice ka K.length kc] w fun e w' => e = .returned (.bool true) ∧ Below w.heap.size w w' := by
  have hLl := sizes_len L hsz
  have hL3 : L.length ≤ 3000 := by omega
  have hLm : L.length ≤ maxLen := by unfold maxLen; omega
  have hbd : ∀ r ∈ L, r.body.length ≤ 3000 := fun r hr => by have := body_le hr; omega
  have HZ := Lib.hid (size_any a cp L w hLm hr)
  have HL : Hid (∀ w', Below w.heap.size w w' → Recs w' a L) := fun w' h => hr.below h
  have HK : Hid (∀ w', Below w.heap.size w w' → Nums w' ka K) := fun w' h => hK.below h
  have HCV : Hid (∀ (w' : World) (a : Option Addr) (c : Nat), Src w' a body → (convert 23 9 (.slice a body.length c)).run Try.prog w' = .ok (.string ⟨body.toArray⟩) w') := fun w' a c h => conv_src w' a body c h
  obtain ⟨S, hSt⟩ : ∃ S : ByteArray, (⟨body.toArray⟩ : ByteArray) = S := ⟨_, rfl⟩
  rw [hSt] at HCV
  obtain ⟨n, hLn⟩ : ∃ n, L.length = n := ⟨_, rfl⟩
  obtain ⟨k, hKn⟩ : ∃ k, K.length = k := ⟨_, rfl⟩
  obtain ⟨bl, hbn⟩ : ∃ bl, body.length = bl := ⟨_, rfl⟩
  have H16 : Hid (∀ w', Below w.heap.size w w' → Calls Try.prog 16 #[.slice a n cp] w' fun e w2 => ∃ ia ic, e = .returned (.slice ia n ic) ∧ Recs w2 ia L ∧ Below w'.heap.size w' w2) := fun w' h => by
    rw [← hLn]
    refine (lent_any a cp L w' hL3 hbd ht (HL.out w' h)).mono ?_
    rintro e w2 ⟨v, rfl, h1, h2⟩
    obtain ⟨ia, ic, rfl, h3, _⟩ := h1.recs
    exact ⟨ia, ic, rfl, h3, h2⟩
  have H22 : Hid (∀ (w' : World) (a' : Option Addr) (c' : Nat), Recs w' a' L → Calls Try.prog 22 #[.slice a' n c', .int .u64 t] w' fun e w2 => ∃ va vc, e = .returned (.tuple #[.slice va bl vc, .bool found]) ∧ Src w2 va body ∧ Wr w2 w'.heap.size va bl ∧ Below w'.heap.size w' w2) := fun w' a' c' h => by
    rw [← hLn, ← hbn]
    refine (hF w' a' c' h).mono ?_
    rintro e w2 ⟨v, rfl, h1, h2⟩
    obtain ⟨va, vc, rfl⟩ := own_slice h1
    exact ⟨va, vc, rfl, Src.of_byt h1, Wr.of_byt h1, h2⟩
  have H23 : Hid (∀ w', Below w.heap.size w w' → Calls Try.prog 23 #[.slice a n cp, .int .u64 t] w' fun e w2 => ∃ va vc, e = .returned (.tuple #[.slice va bl vc, .bool found]) ∧ Src w2 va body ∧ w' = w2) := fun w' h => by rw [← hLn, ← hbn]; exact hG w' a cp (HL.out w' h)
  have H21 : Hid (∀ (w' : World) (a' : Option Addr) (c' : Nat), Recs w' a' L → Below w.heap.size w w' → Calls Try.prog 21 #[.slice a' n c', .slice ka k kc] w' (BoolPost (unkN K L) w')) := fun w' a' c' h hb => by rw [← hLn, ← hKn]; exact unknown_any ka kc K a' c' L w' hL3 hmk h (HK.out w' hb)
  have H24 : Hid (∀ w', Below w.heap.size w w' → Calls Try.prog 24 #[.slice a n cp, .slice ka k kc] w' (BoolPost (unkN K L) w')) := fun w' hb => by rw [← hLn, ← hKn]; exact unknownr_any ka kc K a cp L w' hL3 hmk (HL.out w' hb) (HK.out w' hb)
  have H20 : Hid (∀ (w' : World) (ma : Option Addr) (mc : Nat), Recs w' ma L → Recs w' a L → Calls Try.prog 20 #[.slice ma n mc, .slice a n cp] w' fun e w2 => e = .returned (.bool true) ∧ Below w'.heap.size w' w2) := fun w' ma mc h1 h2 => by rw [← hLn]; exact same_yes ma a mc cp L w' hLm h1 h2
  obtain ⟨u, hu⟩ : ∃ u, unkN K L = u := ⟨_, rfl⟩
  rw [hu] at H21 H24
  have hz3 : ¬ 3000 < sizes L := by omega
  rw [hKn] at hmk ⊢
  rw [hLn] at HZ ⊢
  rw [hbn] at hbl HCV
  have tS : ((S.toList == S.toList) : Bool) = true := by simp
  have tu : (u != u) = false := by simp
  have tf : (found != found) = false := by simp
  have hki : (k : Int) ≤ 100 := by omega
  have hbi : (bl : Int) ≤ 3000 := by omega
  clear hr hK hF hG hSt hLn hKn hbn hLl hL3 hLm hbd hsz ht hu
  go_enter Try.func8, Try.ntmps8
  go_wp2_with (first
    | (go_at_call 14; (with_reducible refine Calls.mono HZ.out ?_); rintro e w1 ⟨y, rfl, hy, hb1⟩; have hy3 : decide (3000 < y) = false := (by (simp only [decide_eq_false_iff_not]; exact fun e => hz3 (hy.1 e))); have BW := Lib.hid hb1; clear hb1 hy)
    | (go_at_call 16; (with_reducible refine Calls.mono (H16.out _ BW.out) ?_); rintro e w2 ⟨ia, ic, rfl, is, hb2⟩; have BV := Lib.hid (BW.out.trans (hb2.mono BW.out.size)); have IS := Lib.hid is; clear BW is hb2)
    | (go_at_call 22; (with_reducible refine Calls.mono (H22.out _ _ _ IS.out) ?_); rintro e w3 ⟨va, vc, rfl, vs, vw, hb3⟩; have BX := Lib.hid (BV.out.trans (hb3.mono BV.out.size)); have VW := Lib.hid vw; have B3 := Lib.hid hb3; have cv3 := HCV.out w3 va vc vs; clear vs vw hb3)
    | (go_at_call 23; (with_reducible refine Calls.mono (H23.out _ BX.out) ?_); rintro e w4 ⟨ra, rc, rfl, rs, rfl⟩; have cv4 := HCV.out w3 ra rc rs; clear rs)
    | (go_at_call 21; (with_reducible refine Calls.mono (H21.out _ _ _ (IS.out.below B3.out) BX.out) ?_); rintro e w5 ⟨rfl, hb5⟩; have BY := Lib.hid (BX.out.trans (hb5.mono BX.out.size)); have B5 := Lib.hid hb5; clear hb5)
    | (go_at_call 24; (with_reducible refine Calls.mono (H24.out _ BY.out) ?_); rintro e w6 ⟨rfl, hb6⟩; have BZ := Lib.hid (BY.out.trans (hb6.mono BY.out.size)); have B6 := Lib.hid hb6; clear hb6))
  have hB2 : Hid (Below w2.heap.size w2 w6) := (B3.out.trans (B5.out.mono B3.out.size)).trans (B6.out.mono (B3.out.trans (B5.out.mono B3.out.size)).size)
  have hW : Hid (Wr w6 w2.heap.size va bl) := (VW.out.below B5.out).below B6.out
  have h2s := BV.out.size
  clear B3 B5 B6 BX BY BZ VW cv3 cv4 H16 H22 H23 H21 H24 HZ HCV
  go_loopw [12] (fun iv wr => ∃ j : Nat, j ≤ bl ∧ iv = .int .i64 j ∧ Hid (Below w2.heap.size w2 wr) ∧ Hid (Wr wr w2.heap.size va bl)) (fun iv _ => bl - (intOf iv).toNat)
  case atStart => exact ⟨0, Nat.zero_le _, rfl, hB2.out, hW.out⟩
  case round =>
    obtain ⟨j, hj, rfl, hB, hWj⟩ := hrel
    by_cases hlt : j < bl
    · obtain ⟨g, v, rfl, hg, hc, hz⟩ := hWj.out.at hlt
      have hji : (j : Int) < (bl : Int) := by omega
      go_wp2
      go_roundw
      case rel => exact ⟨j + 1, by omega, by go_num, hB.out.setCell hg _, hWj.out.set (by omega) j _⟩
      case measure => simp [intOf]; omega
    · obtain rfl : j = bl := by omega
      have BA : Hid (Below w.heap.size w wr) := BV.out.trans (hB.out.mono h2s)
      go_wp2_with (first
        | (go_at_call 20; (with_reducible refine Calls.mono (H20.out _ _ _ (IS.out.below hB.out) (HL.out _ BA.out)) ?_); rintro e w7 ⟨rfl, hb7⟩; have BC := Lib.hid (BA.out.trans (hb7.mono BA.out.size)); clear hb7)
        | (go_at_call 9; (with_reducible refine Calls.mono (works_any _) ?_); rintro e w8 ⟨rfl, hb8⟩; have BD := Lib.hid (BC.out.trans (hb8.mono BC.out.size)); clear hb8))
      go_ret
      exact ⟨rfl, BD.out⟩
theorem finds_any (a : Option Addr) (cp : Nat) (L : List Rec) (t : Int) (ka : Option Addr) (kc : Nat) (K : List Int) (w : World) (hr : Recs w a L) (hm : L.length ≤ maxLen) (ht : ∀ r ∈ L, r.t < 18446744073709551616) (hK : Nums w ka K) (hmk : K.length ≤ maxLen) :
    Calls Try.prog 8 #[.slice a L.length cp, .int .u64 t, .slice ka K.length kc] w fun e w' => e = .returned (.bool true) ∧ Below w.heap.size w w' := by
  by_cases hbig : 3000 < sizes L ∨ 100 < K.length
  · exact finds_much a cp L t ka kc K w hm hr hmk hbig
  · have h1 : sizes L ≤ 3000 := by omega
    have hLl := sizes_len L h1
    have hL3 : L.length ≤ 3000 := by omega
    rcases first_or_none (pF t) L with ⟨k, r, hf⟩ | hf
    · have hrm := body_le (List.mem_of_getElem? hf.1)
      exact finds_few a cp L t ka kc K w h1 hr ht (by omega) hK r.body true (by omega) (fun w' a' c' h => find_some t a' c' L k r w' hL3 (by omega) hf h) (fun w' a' c' h => findr_some t a' c' L k r w' hL3 hf h)
    · exact finds_few a cp L t ka kc K w h1 hr ht (by omega) hK [] false (by simp) (fun w' a' c' h => find_none t a' c' L w' hL3 hf h) (fun w' a' c' h => findr_none t a' c' L w' hL3 hf h)
end Go.Proofs.Ytcdeggocnaodiaa
