/- TlvNumbers, walked. -/
import Derived.Test.YtcdeggocnaodiaaK
import Derived.Deep.RegionHeld
namespace Go.Proofs.Ytcdeggocnaodiaa
open Go.RowKit Tlv
theorem putN_ne (n : Nat) : putN n ≠ [] := fun h => by have := (putN_pos n).1; rw [h] at this; simp at this
theorem new_some {w w' : World} {l : List UInt8} {e : Ending} (h : NewPost w l e w') (hl : l ≠ []) : ∃ g c, e = .returned (.slice (some ⟨g, 0, none⟩) l.length c) ∧ Src w' (some ⟨g, 0, none⟩) l ∧ Below w.heap.size w w' := by
  obtain ⟨v, rfl, h1, h2⟩ := h
  obtain ⟨g, c, rfl, _⟩ := byt_pos h1 hl
  exact ⟨g, c, rfl, Src.of_byt h1, h2⟩
set_option maxRecDepth 100000 in
set_option maxHeartbeats 4000000 in
theorem numbers_long (n : Int) (a : Option Addr) (cp : Nat) (l : List UInt8) (w : World) (hl : 3000 < l.length) (hm : l.length ≤ maxLen) : Calls Try.prog 3 #[.int .u64 n, .slice a l.length cp] w fun e w' => e = .returned (.bool true) ∧ Below w.heap.size w w' := by
  unfold maxLen at hm
  have h1 : (3000 : Int) < (l.length : Int) := by omega
  generalize l.length = k at *
  go_enter Try.func3, Try.ntmps3
  go_wp2_with (go_at_call 9; (with_reducible refine Calls.mono (works_any _) ?_); rintro e w1 ⟨rfl, hb1⟩)
  go_ret
  exact ⟨rfl, hb1⟩
set_option maxRecDepth 100000 in
set_option maxHeartbeats 4000000 in
theorem numbers_short (n : Int) (h0 : 0 ≤ n) (a : Option Addr) (cp : Nat) (l : List UInt8) (w : World) (hl : l.length ≤ 3000) (hc : l.length ≤ cp) (hm : cp ≤ maxLen) (hs : Src w a l) : Calls Try.prog 3 #[.int .u64 n, .slice a l.length cp] w fun e w' => e = .returned (.bool true) ∧ Below w.heap.size w w' := by
  have HG := Lib.hid (get_any a l cp w hc hm hs)
  have HR := Lib.hid (getr_any a l cp w hc hm hs)
  obtain ⟨T, K, E, hG⟩ : ∃ T K E, getN l = (T, K, E) := ⟨_, _, _, rfl⟩
  rw [hG] at HG HR
  have h1 : ¬ (3000 : Int) < (l.length : Int) := by omega
  obtain ⟨P, hP⟩ : ∃ P, putN n.toNat = P := ⟨_, rfl⟩
  have hPne : P ≠ [] := by rw [← hP]; exact putN_ne _
  have HP : Hid (∀ w, Calls Try.prog 12 #[.int .u64 n] w (NewPost w P)) := fun w => by rw [← hP]; exact Put_any n h0 w
  have HQ : Hid (∀ w, Calls Try.prog 13 #[.int .u64 n] w (NewPost w P)) := fun w => by rw [← hP]; exact putr_any n h0 w
  have HPN := Lib.hid hPne
  obtain ⟨st, hst⟩ : ∃ st, (⟨P.toArray⟩ : ByteArray) = st := ⟨_, rfl⟩
  have HC : Hid (∀ (w : World) (g c : Nat), Src w (some ⟨g, 0, none⟩) P → (convert 23 9 (.slice (some ⟨g, 0, none⟩) P.length c)).run Try.prog w = .ok (.string st) w) := fun w g c h => by rw [← hst]; exact conv_str w g P c h hPne
  have e1 : (st.toList == st.toList) = true := by simp
  obtain ⟨pl, hpl⟩ : ∃ pl, P.length = pl := ⟨_, rfl⟩
  have HPL := Lib.hid hpl
  clear hst hpl
  clear hG hP hPne hs hc hm
  generalize l.length = k at *
  go_enter Try.func3, Try.ntmps3
  go_wp2_with (first
    | (go_at_call 10; (with_reducible refine Calls.mono HG.out ?_); rintro e w1 ⟨rfl, rfl⟩)
    | (go_at_call 11; (with_reducible refine Calls.mono HR.out ?_); rintro e w1 ⟨rfl, hb1⟩; have HB1 := Lib.hid hb1; clear hb1))
  go_region_held (fun _ => True) (trivial) ((first
    | (go_at_call 12; (with_reducible refine Calls.mono (HP.out _) ?_); rintro e w2 hq2; obtain ⟨g2, c2, rfl, hs2, hb2⟩ := new_some hq2 HPN.out; have HS2 := Lib.hid hs2; have HB2 := Lib.hid hb2; have cv2 := HC.out w2 g2 c2 hs2; rw [HPL.out] at cv2 ⊢; clear hq2 hs2 hb2)
    | (go_at_call 13; (with_reducible refine Calls.mono (HQ.out _) ?_); rintro e w3 hq3; obtain ⟨g3, c3, rfl, hs3, hb3⟩ := new_some hq3 HPN.out; have HS3 := Lib.hid hs3; have HB3 := Lib.hid hb3; have cv3 := HC.out w3 g3 c3 hs3; have cv4 := HC.out w3 g2 c2 (HS2.out.below hb3); rw [HPL.out] at cv3 cv4 ⊢; clear hq3 hs3 hb3)
    | (go_at_call 9; (with_reducible refine Calls.mono (works_any _) ?_); rintro e w4 ⟨rfl, hb4⟩; have HB4 := Lib.hid hb4; clear hb4)))
  all_goals go_wp2
  all_goals go_ret
  all_goals
    have z1 := HB1.out.size
    have z2 : w1.heap.size ≤ w2.heap.size := HB2.out.size
    have z3 := HB3.out.size
    exact ⟨rfl, ((HB1.out.drew.trans (HB2.out.mono z1)).trans (HB3.out.mono (by omega))).trans (HB4.out.mono (by omega))⟩
theorem numbers_any (n : Int) (h0 : 0 ≤ n) (a : Option Addr) (cp : Nat) (l : List UInt8) (w : World) (hc : l.length ≤ cp) (hm : cp ≤ maxLen) (hs : Src w a l) : Calls Try.prog 3 #[.int .u64 n, .slice a l.length cp] w fun e w' => e = .returned (.bool true) ∧ Below w.heap.size w w' := by
  by_cases hl : 3000 < l.length
  · exact numbers_long n a cp l w hl (by omega)
  · exact numbers_short n h0 a cp l w (by omega) hc hm hs
end Go.Proofs.Ytcdeggocnaodiaa
