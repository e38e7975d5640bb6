/- The digest: the laws DigestNone, DigestSums walked. -/
import Derived.Test.YtkhbkckcgfddlaaDoorWk
namespace Go.Proofs.YtkhbkckcgfddlaaDoor
open Go.RowKit
set_option maxRecDepth 100000 in
set_option maxHeartbeats 4000000 in
theorem digestNone_any (pa : Option Addr) (n cap : Nat) (w : World) (ht : TabAt w) : Calls Tryd.prog 5 #[.slice pa n cap] w fun e w' => e = .returned (.bool true) ∧ Below w.heap.size w w' := by
  have HT := Lib.hid ht
  clear ht
  have heq := eql_sha []
  go_enter Tryd.func5, Tryd.ntmps5
  go_wp2_with (first
    | (go_at_call 14; (with_reducible refine Calls.mono (write_nil pa n cap w) ?_); rintro e w1 ⟨rfl, hw1⟩; obtain rfl : w = w1 := hw1.symm)
    | (go_at_call 13; (with_reducible refine Calls.mono (sum_nil w HT.out) ?_); rintro e w2 ⟨rfl, hb2⟩; have B2 := Lib.hid hb2; have W3 : Hid (Calls Tryd.prog 8 #[.slice none 0 0] w2 fun e w' => e = .returned (.agg (Bytes (sha []))) ∧ Below w2.heap.size w2 w') := (rsum_any none [] 0 w2 (.inl rfl) (Nat.zero_le _)); clear hb2)
    | (go_at_call 8; (with_reducible refine Calls.mono W3.out ?_); rintro e w3 ⟨rfl, hb3⟩; have B3 := Lib.hid hb3; clear hb3)
    | (go_at_call 11; (with_reducible refine Calls.mono (works_any w3 ((HT.out.below B2.out).below B3.out)) ?_); rintro e w4 ⟨rfl, hb4⟩; have B4 := Lib.hid hb4; clear hb4))
  go_ret
  exact ⟨rfl, lt2 (lt2 B2.out B3.out) B4.out⟩
/-- string(b), where nothing may lie, too -/
theorem conv_bytes (w : World) (a : Option Addr) (l : List UInt8) (c n : Nat) (hn : n = l.length) (hs : BytesAt w a (l.map (·.toNat))) : (convert 22 9 (.slice a n c)).run Tryd.prog w = .ok (.string ⟨l.toArray⟩) w := by
  subst hn
  cases a with
  | none =>
    have h0 : l = [] := by
      rcases hs with h | ⟨_, _, h, _⟩
      · simpa using h
      · cases h
    subst h0
    exact run_convert_bytes_nil w 22 5 Tryd.underlying22 Tryd.underlying5 0 c 9 Tryd.underlying9
  | some ad =>
    refine run_convert_bytes_back w 22 9 5 ad c l Tryd.underlying22 Tryd.underlying5 Tryd.underlying9 fun j hj => ?_
    rcases hs with h | ⟨b, off, e, hk⟩
    · simp at h; subst h; exact absurd hj (by simp)
    · cases e
      rw [Addr.add_lit]
      exact hk j _ (by rw [List.getElem?_map, List.getElem?_eq_getElem hj]; rfl)
theorem own_at {w : World} {base n : Nat} {a : Option Addr} {c : Nat} {l : List Nat} (h : w.ownsRow base 5 1 (.slice a n c) n (l.map B)) : BytesAt w a l ∧ l.length ≤ c := by
  have hl := h.1
  rw [List.length_map] at hl
  by_cases h0 : 0 < l.length
  · obtain ⟨g, ha, _, hc, hk⟩ := own_bytes h h0
    exact ⟨.inr ⟨g, 0, ha, fun j x hx => by rw [Nat.zero_add]; exact hk j x hx⟩, by omega⟩
  · have : l = [] := List.eq_nil_of_length_eq_zero (by omega)
    subst this
    exact ⟨.inl rfl, by simp⟩
theorem digestSums_long (pa : Option Addr) (n cap : Nat) (w : World) (h : 5000 < n) (hm : n ≤ maxLen) : Calls Tryd.prog 3 #[.slice pa n cap] w fun e w' => e = .returned (.bool true) ∧ Below w.heap.size w w' := by
  unfold maxLen at hm
  have h5 : (5000 : Int) < (n : Int) := by omega
  go_enter Tryd.func3, Tryd.ntmps3
  go_wp2
  go_ret
  exact ⟨rfl, Below.refl _ _⟩
set_option maxRecDepth 100000 in
set_option maxHeartbeats 4000000 in
theorem digestSums_short (pa : Option Addr) (l : List UInt8) (n cap : Nat) (w : World) (hn : l.length = n) (h : n ≤ 5000) (hp : BytesAt w pa (l.map (·.toNat))) (_hc : n ≤ cap) (ht : TabAt w) : Calls Tryd.prog 3 #[.slice pa n cap] w fun e w' => e = .returned (.bool true) ∧ Below w.heap.size w w' := by
  have HT := Lib.hid ht
  have HP := Lib.hid hp
  have HN := Lib.hid hn
  obtain ⟨p, hpd⟩ : ∃ p, l.map (·.toNat) = p := ⟨_, rfl⟩
  have HPD := Lib.hid hpd
  rw [hpd] at HP
  have HPL : Hid (p.length = n) := by show _ = _; rw [← hpd, List.length_map, hn]
  have h5 : ¬ (5000 : Int) < (n : Int) := by omega
  have heq := eql_sha p
  clear ht hp hn hpd
  go_enter Tryd.func3, Tryd.ntmps3
  go_upto_region 5 with (at_builtin; refine wpList_app rfl (.tmp 7) (.tmp 8) rfl w.heap.size (.slice none 0 0) 0 [] rfl (World.ownsRow_nil _ _ _ _) pa p cap (by rw [HPL.out]; rfl) HP.out (by rw [HPL.out]; omega) (Nat.le_refl _) ?_; intro v1 w1 ho1 hg1 hx1; clear hx1; have B1 : Hid (Below w.heap.size w w1) := ((Below.refl _ _).grown hg1 (Nat.le_refl _) (fun q hq => by cases hq)); have O1 : Hid (w1.ownsRow w.heap.size 5 1 v1 n (p.map B)) := (by (have := ho1; rw [Nat.zero_add, HPL.out, List.nil_append] at this; exact this)); obtain ⟨a1, c1, rfl⟩ := own_slice O1.out; clear ho1 hg1)
  obtain ⟨hA1, hC1⟩ := own_at O1.out
  rw [HPL.out] at hC1
  have A1 := Lib.hid hA1
  clear hA1
  have C1 : Hid (Calls Tryd.prog 7 #[.slice a1 n c1] w1 fun e w' => e = .returned (.agg (Bytes (sha p))) ∧ Below w1.heap.size w1 w') := by
    have := dsum_any a1 p c1 w1 A1.out (by rw [HPL.out]; exact hC1) (HT.out.below B1.out) (by rw [HPL.out]; omega)
    rw [HPL.out] at this; exact this
  have C2 : Hid (∀ W, Below w1.heap.size w1 W → Calls Tryd.prog 8 #[.slice pa n cap] W fun e w' => e = .returned (.agg (Bytes (sha p))) ∧ Below W.heap.size W w') := fun W hb => by
    have := rsum_any pa p cap W ((HP.out.below B1.out).below hb) (by rw [HPL.out]; omega)
    rw [HPL.out] at this; exact this
  have C3 : Hid (∀ W, Below w1.heap.size w1 W → Calls Tryd.prog 9 #[.slice a1 n c1] W fun e w' => e = .returned (.string ⟨(hexOf (sha p)).toArray⟩) ∧ Below W.heap.size W w') := fun W hb => by
    have := hex_any a1 p c1 W (A1.out.below hb) (by rw [HPL.out]; exact hC1) ((HT.out.below B1.out).below hb) (by rw [HPL.out]; omega)
    rw [HPL.out] at this; exact this
  have C4 : Hid (∀ W, Below w1.heap.size w1 W → Calls Tryd.prog 10 #[.slice pa n cap] W fun e w' => e = .returned (.string ⟨(hexOf (sha p)).toArray⟩) ∧ Below W.heap.size W w') := fun W hb => by
    have := rhex_any pa p cap W ((HP.out.below B1.out).below hb) (by rw [HPL.out]; omega)
    rw [HPL.out] at this; exact this
  have V1 : Hid (∀ W, Below w1.heap.size w1 W → (convert 22 9 (.slice a1 n c1)).run Tryd.prog W = .ok (.string ⟨l.toArray⟩) W) := fun W hb => conv_bytes W a1 l c1 n HN.out.symm (by rw [HPD.out]; exact A1.out.below hb)
  have V2 : Hid (∀ W, Below w1.heap.size w1 W → (convert 22 9 (.slice pa n cap)).run Tryd.prog W = .ok (.string ⟨l.toArray⟩) W) := fun W hb => conv_bytes W pa l cap n HN.out.symm (by rw [HPD.out]; exact (HP.out.below B1.out).below hb)
  obtain ⟨S, hS⟩ : ∃ S : ByteArray, (⟨(hexOf (sha p)).toArray⟩ : ByteArray) = S := ⟨_, rfl⟩
  rw [hS] at C3 C4
  obtain ⟨S2, hS2⟩ : ∃ S : ByteArray, (⟨l.toArray⟩ : ByteArray) = S := ⟨_, rfl⟩
  rw [hS2] at V1 V2
  clear hS hS2
  go_wp2_with (first
    | (go_at_call 7; (with_reducible refine Calls.mono C1.out ?_); rintro e w2 ⟨rfl, hb2⟩; have B2 := Lib.hid hb2; clear hb2)
    | (go_at_call 8; (with_reducible refine Calls.mono (C2.out w2 B2.out) ?_); rintro e w3 ⟨rfl, hb3⟩; have B3 := Lib.hid (lt2 B2.out hb3); clear hb3)
    | (go_at_call 9; (with_reducible refine Calls.mono (C3.out w3 B3.out) ?_); rintro e w4 ⟨rfl, hb4⟩; have B4 := Lib.hid (lt2 B3.out hb4); clear hb4)
    | (go_at_call 10; (with_reducible refine Calls.mono (C4.out w4 B4.out) ?_); rintro e w5 ⟨rfl, hb5⟩; have B5 := Lib.hid (lt2 B4.out hb5); have v1 := V1.out w5 B5.out; have v2 := V2.out w5 B5.out; clear hb5)
    | (go_at_call 11; (with_reducible refine Calls.mono (works_any w5 ((HT.out.below B1.out).below B5.out)) ?_); rintro e w6 ⟨rfl, hb6⟩; have B6 := Lib.hid (lt2 B5.out hb6); clear hb6))
  go_ret
  exact ⟨rfl, B1.out.trans (B6.out.mono B1.out.size)⟩
end Go.Proofs.YtkhbkckcgfddlaaDoor
