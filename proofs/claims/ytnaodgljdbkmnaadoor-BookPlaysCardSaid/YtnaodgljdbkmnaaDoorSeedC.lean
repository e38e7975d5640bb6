/- seed: the document's on; Secret, both. -/
import Derived.Test.YtnaodgljdbkmnaaDoorSeedB
namespace Go.Proofs.YtnaodgljdbkmnaaDoor
set_option linter.unusedVariables false
open Go.RowKit
theorem lab_ten {b : Nat} (h : b < 20) : textV (if 9 < b then ⟨#[49]⟩ ++ ⟨#[UInt8.ofNat (48 + b % 10)]⟩ else ⟨#[UInt8.ofNat (48 + b % 10)]⟩) = .tuple #[.string ⟨(labL b).toArray⟩, .int .i64 0] := by
  rcases (by omega : b = 0 ∨ b = 1 ∨ b = 2 ∨ b = 3 ∨ b = 4 ∨ b = 5 ∨ b = 6 ∨ b = 7 ∨ b = 8 ∨ b = 9 ∨ b = 10 ∨ b = 11 ∨ b = 12 ∨ b = 13 ∨ b = 14 ∨ b = 15 ∨ b = 16 ∨ b = 17 ∨ b = 18 ∨ b = 19) with rfl | rfl | rfl | rfl | rfl | rfl | rfl | rfl | rfl | rfl | rfl | rfl | rfl | rfl | rfl | rfl | rfl | rfl | rfl | rfl <;> kernel_rfl
set_option maxRecDepth 100000 in
set_option maxHeartbeats 4000000 in
/-- the document's on -/
theorem ron_any (t : ByteArray) (i k : Nat) (w : World) (ht : rt t = true) (hi : i < 9223372036854775808) (hk : k ≤ 20) : Calls Tryd.prog 45 #[.string t, .int .i64 i, .int .i64 k] w fun e w' => e = .returned (onV t.data.toList i k) ∧ Below w.heap.size w w' := by
  have HR := Lib.hid ht
  clear ht
  go_enter Tryd.func45, Tryd.ntmps45
  go_wp2
  go_loopw [0, 8] (fun uv bv wr => ∃ (b : Nat) (u : ByteArray), b ≤ k ∧ uv = .string u ∧ bv = .int .i64 ((b : Int) - 1) ∧ Hid (rt u = true) ∧ Hid (onO t.data.toList i k = onO u.data.toList i b) ∧ Hid (Below w.heap.size w wr)) (fun _ bv _ => (intOf bv + 1).toNat)
  case atStart => exact ⟨k, t, Nat.le_refl _, rfl, rfl, HR.out, rfl, Below.refl _ _⟩
  case round =>
    obtain ⟨b, u, hb, rfl, rfl, hr, ho, hB⟩ := hrel
    have hBs := hB.out.size
    cases b with
    | zero =>
      go_wp2_with fail
      go_ret2
      refine ⟨?_, hB.out⟩
      unfold onV
      rw [ho.out]
      show Ending.returned (.tuple #[.string u, .int .i64 0]) = .returned (.tuple #[.string ⟨u.data.toList.toArray⟩, .int .i64 0])
      rw [ba_back]
    | succ b =>
      rw [show (((b + 1 : Nat) : Int) - 1) = (b : Int) by omega]
      have hbz := bit_z i b hi
      have hb2 : b < 20 := by omega
      cases hbit : bitP i b with
      | false =>
        rw [hbit] at hbz
        simp only [Bool.false_eq_true, if_false] at hbz
        go_wp2_with fail
        go_roundw
        case rel => exact ⟨b, u, by omega, rfl, by go_num, hr.out, ho.out.trans (onO_skip hbit), hB.out⟩
        case measure => (simp [intOf] <;> omega)
      | true =>
        rw [hbit] at hbz
        simp only [if_true] at hbz
        have hsz := right_size hr.out
        have TX := lab_ten hb2
        have hc : (UInt8.ofNat (48 + b % 10)).toNat = 48 + b % 10 := by rw [UInt8.toNat_ofNat']; exact Nat.mod_eq_of_lt (by omega)
        generalize UInt8.ofNat (48 + b % 10) = c at TX hc
        obtain ⟨r, hr10⟩ : ∃ r : Int, (b : Int).tmod 10 = r := ⟨_, rfl⟩
        have hr1 : r = ((b % 10 : Nat) : Int) := by rw [← hr10]; rfl
        obtain ⟨z, hz⟩ : ∃ z : Int, (c.toNat : Int) = z := ⟨_, rfl⟩
        have hcv := op_str' z c hz
        have hz1 : 48 + r = z := by omega
        have hz2 : 48 ≤ z := by omega
        have hz3 : z ≤ 57 := by omega
        have hr0 : 0 ≤ r := by omega
        have hr9 : r ≤ 9 := by omega
        clear hc hz hr1
        have c1 := cat_any ⟨#[49]⟩ ⟨#[c]⟩ (by simp [ByteArray.size])
        have CH : Hid (∀ W : World, Calls Tryd.prog 67 #[.int .u8 68, .string u, .string ⟨(labL b).toArray⟩] W fun e w' => e = .returned (match childO u.data.toList b with
            | some v => .tuple #[.string ⟨v.toArray⟩, .int .i64 0]
            | none => .tuple #[.string ⟨#[]⟩, .int .i64 3]) ∧ Below W.heap.size W w') := fun W => by
          have := rtwo_any 68 u ⟨(labL b).toArray⟩ W (by unfold maxLen; omega) (by have := right_size (rt_lab hb2); unfold maxLen; omega)
          rw [child_val hr.out hb2] at this
          exact this
        have B1 := Lib.hid (hB.out.alloc hBs (.cells #[.int .u8 z] 5))
        by_cases h9 : 9 < b
        · rw [if_pos h9] at TX
          have h9i : (9 : Int) < (b : Int) := by omega
          have RT : Hid (∀ W : World, Calls Tryd.prog 66 #[.string (⟨#[49]⟩ ++ ⟨#[c]⟩)] W fun e w' => e = .returned (.tuple #[.string ⟨(labL b).toArray⟩, .int .i64 0]) ∧ Below W.heap.size W w') := fun W => by
            have := rtext_any (⟨#[49]⟩ ++ ⟨#[c]⟩) W (by rw [ByteArray.size_append]; simp [ByteArray.size, maxLen])
            rw [TX] at this
            exact this
          generalize (⟨#[49]⟩ : ByteArray) ++ ⟨#[c]⟩ = s at c1 RT
          clear TX
          cases hc : childO u.data.toList b with
          | none =>
            rw [hc] at CH
            go_wp2_with (first
              | (go_at_call 66; (with_reducible refine Calls.mono (RT.out _) ?_); rintro e w2 ⟨rfl, hb2'⟩; have B2 := Lib.hid (B1.out.trans (hb2'.mono B1.out.size)); clear hb2')
              | (go_at_call 67; (with_reducible refine Calls.mono (CH.out _) ?_); rintro e w3 ⟨rfl, hb3⟩; have B3 := Lib.hid (B2.out.trans (hb3.mono B2.out.size)); clear hb3))
            go_ret2
            refine ⟨?_, B3.out⟩
            unfold onV
            rw [ho.out, onO_none hbit hc]
            try rfl
          | some v =>
            rw [hc] at CH
            go_wp2_with (first
              | (go_at_call 66; (with_reducible refine Calls.mono (RT.out _) ?_); rintro e w2 ⟨rfl, hb2'⟩; have B2 := Lib.hid (B1.out.trans (hb2'.mono B1.out.size)); clear hb2')
              | (go_at_call 67; (with_reducible refine Calls.mono (CH.out _) ?_); rintro e w3 ⟨rfl, hb3⟩; have B3 := Lib.hid (B2.out.trans (hb3.mono B2.out.size)); clear hb3))
            go_roundw
            case rel => exact ⟨b, ⟨v.toArray⟩, by omega, rfl, by go_num, (by unfold rt; rw [ba_list]; exact (child_some hc).2), (ho.out.trans (by rw [onO_some hbit hc, ba_list])), B3.out⟩
            case measure => (simp [intOf] <;> omega)
        · rw [if_neg h9] at TX
          have h9i : (b : Int) ≤ 9 := by omega
          have RT : Hid (∀ W : World, Calls Tryd.prog 66 #[.string ⟨#[c]⟩] W fun e w' => e = .returned (.tuple #[.string ⟨(labL b).toArray⟩, .int .i64 0]) ∧ Below W.heap.size W w') := fun W => by
            have := rtext_any ⟨#[c]⟩ W (by simp [ByteArray.size, maxLen])
            rw [TX] at this
            exact this
          clear TX c1
          cases hc : childO u.data.toList b with
          | none =>
            rw [hc] at CH
            go_wp2_with (first
              | (go_at_call 66; (with_reducible refine Calls.mono (RT.out _) ?_); rintro e w2 ⟨rfl, hb2'⟩; have B2 := Lib.hid (B1.out.trans (hb2'.mono B1.out.size)); clear hb2')
              | (go_at_call 67; (with_reducible refine Calls.mono (CH.out _) ?_); rintro e w3 ⟨rfl, hb3⟩; have B3 := Lib.hid (B2.out.trans (hb3.mono B2.out.size)); clear hb3))
            go_ret2
            refine ⟨?_, B3.out⟩
            unfold onV
            rw [ho.out, onO_none hbit hc]
            try rfl
          | some v =>
            rw [hc] at CH
            go_wp2_with (first
              | (go_at_call 66; (with_reducible refine Calls.mono (RT.out _) ?_); rintro e w2 ⟨rfl, hb2'⟩; have B2 := Lib.hid (B1.out.trans (hb2'.mono B1.out.size)); clear hb2')
              | (go_at_call 67; (with_reducible refine Calls.mono (CH.out _) ?_); rintro e w3 ⟨rfl, hb3⟩; have B3 := Lib.hid (B2.out.trans (hb3.mono B2.out.size)); clear hb3))
            go_roundw
            case rel => exact ⟨b, ⟨v.toArray⟩, by omega, rfl, by go_num, (by unfold rt; rw [ba_list]; exact (child_some hc).2), (ho.out.trans (by rw [onO_some hbit hc, ba_list])), B3.out⟩
            case measure => (simp [intOf] <;> omega)
/-- what Secret tells -/
def secV (s : ByteArray) (i : Int) : Value :=
  if i < 0 ∨ 1048575 < i then .tuple #[.string ⟨#[]⟩, .int .i64 2] else if rt s = true then onV s.data.toList i.toNat 20 else .tuple #[.string ⟨#[]⟩, .int .i64 10]
theorem onV_form (t : List UInt8) (i k : Nat) : ∃ s n, onV t i k = .tuple #[.string s, .int .i64 n] := by
  unfold onV
  cases onO t i k with
  | none => exact ⟨_, _, rfl⟩
  | some u => exact ⟨_, _, rfl⟩
theorem secV_form (s : ByteArray) (i : Int) : ∃ u n, secV s i = .tuple #[.string u, .int .i64 n] := by
  unfold secV
  split
  · exact ⟨_, _, rfl⟩
  · split
    · exact onV_form _ _ _
    · exact ⟨_, _, rfl⟩
set_option maxRecDepth 100000 in
set_option maxHeartbeats 4000000 in
theorem secret_any (s : ByteArray) (i : Int) (w : World) (hs : s.size ≤ maxLen) (hL : LibOk w) (hT : Tab w) : Calls Tryd.prog 12 #[.string s, .int .i64 i] w fun e w' => e = .returned (secV s i) ∧ Below w.heap.size w w' := by
  have HL := Lib.hid hL
  have HT := Lib.hid hT
  have HR : Hid (Calls Tryd.prog 42 #[.string s] w fun e w' => e = .returned (.bool (rt s)) ∧ Below w.heap.size w w') := right_any s w hs hL
  clear hL hT hs
  unfold secV
  by_cases h0 : i < 0
  · rw [if_pos (.inl h0)]
    go_enter Tryd.func12, Tryd.ntmps12
    go_wp2_with fail
    go_ret2
    exact ⟨rfl, Below.refl _ _⟩
  · by_cases h1 : 1048575 < i
    · rw [if_pos (.inr h1)]
      have h0' : 0 ≤ i := by omega
      go_enter Tryd.func12, Tryd.ntmps12
      go_wp2_with fail
      go_ret2
      exact ⟨rfl, Below.refl _ _⟩
    · rw [if_neg (by omega)]
      have h0' : 0 ≤ i := by omega
      have h1' : i ≤ 1048575 := by omega
      cases hr : rt s with
      | false =>
        rw [hr] at HR
        simp only [Bool.false_eq_true, if_false]
        go_enter Tryd.func12, Tryd.ntmps12
        go_wp2_with (go_at_call 42; (with_reducible refine Calls.mono HR.out ?_); rintro e w1 ⟨rfl, hb1⟩; have B1 := Lib.hid hb1; clear hb1)
        go_ret2
        exact ⟨rfl, B1.out⟩
      | true =>
        rw [hr] at HR
        simp only [if_true]
        obtain ⟨n, rfl⟩ : ∃ n : Nat, i = (n : Int) := ⟨i.toNat, by omega⟩
        have ON : Hid (∀ W, LibOk W → Tab W → Calls Tryd.prog 43 #[.string s, .int .i64 n, .int .i64 20] W fun e w' => e = .returned (onV s.data.toList n 20) ∧ Below W.heap.size W w') := fun W hL hT => on_any s n 20 W hr (by omega) (by omega) hL hT
        rw [Int.toNat_natCast]
        obtain ⟨u, m, hv⟩ := onV_form s.data.toList n 20
        rw [hv] at ON ⊢
        clear hr hv
        go_enter Tryd.func12, Tryd.ntmps12
        go_wp2_with (first
          | (go_at_call 42; (with_reducible refine Calls.mono HR.out ?_); rintro e w1 ⟨rfl, hb1⟩; have B1 := Lib.hid hb1; clear hb1)
          | (go_at_call 43; (with_reducible refine Calls.mono (ON.out _ (HL.out.below B1.out) (HT.out.below B1.out)) ?_); rintro e w2 ⟨rfl, hb2⟩; have B2 := Lib.hid (B1.out.trans (hb2.mono B1.out.size)); clear hb2))
        go_ret2
        exact ⟨rfl, B2.out⟩
set_option maxRecDepth 100000 in
set_option maxHeartbeats 4000000 in
theorem rsecret_any (s : ByteArray) (i : Int) (w : World) (hs : s.size ≤ maxLen) : Calls Tryd.prog 13 #[.string s, .int .i64 i] w fun e w' => e = .returned (secV s i) ∧ Below w.heap.size w w' := by
  have HR : Hid (∀ W : World, Calls Tryd.prog 44 #[.string s] W fun e w' => e = .returned (.bool (rt s)) ∧ Below W.heap.size W w') := fun W => rright_any s W hs
  clear hs
  unfold secV
  by_cases h0 : i < 0
  · rw [if_pos (.inl h0)]
    have h0b : decide (i < 0) = true := by simpa using h0
    go_enter Tryd.func13, Tryd.ntmps13
    go_wp2_with fail
    go_ret2
    exact ⟨rfl, Below.refl _ _⟩
  · by_cases h1 : 1048575 < i
    · rw [if_pos (.inr h1)]
      have h0' : 0 ≤ i := by omega
      go_enter Tryd.func13, Tryd.ntmps13
      go_wp2_with fail
      go_ret2
      exact ⟨rfl, Below.refl _ _⟩
    · rw [if_neg (by omega)]
      have h0' : 0 ≤ i := by omega
      have h1' : i ≤ 1048575 := by omega
      cases hr : rt s with
      | false =>
        rw [hr] at HR
        simp only [Bool.false_eq_true, if_false]
        go_enter Tryd.func13, Tryd.ntmps13
        go_wp2_with (go_at_call 44; (with_reducible refine Calls.mono (HR.out _) ?_); rintro e w1 ⟨rfl, hb1⟩; have B1 := Lib.hid hb1; clear hb1)
        go_ret2
        exact ⟨rfl, B1.out⟩
      | true =>
        rw [hr] at HR
        simp only [if_true]
        obtain ⟨n, rfl⟩ : ∃ n : Nat, i = (n : Int) := ⟨i.toNat, by omega⟩
        have ON : Hid (∀ W, Calls Tryd.prog 45 #[.string s, .int .i64 n, .int .i64 20] W fun e w' => e = .returned (onV s.data.toList n 20) ∧ Below W.heap.size W w') := fun W => ron_any s n 20 W hr (by omega) (by omega)
        rw [Int.toNat_natCast]
        obtain ⟨u, m, hv⟩ := onV_form s.data.toList n 20
        rw [hv] at ON ⊢
        clear hr hv
        go_enter Tryd.func13, Tryd.ntmps13
        go_wp2_with (first
          | (go_at_call 44; (with_reducible refine Calls.mono (HR.out _) ?_); rintro e w1 ⟨rfl, hb1⟩; have B1 := Lib.hid hb1; clear hb1)
          | (go_at_call 45; (with_reducible refine Calls.mono (ON.out _) ?_); rintro e w2 ⟨rfl, hb2⟩; have B2 := Lib.hid (B1.out.trans (hb2.mono B1.out.size)); clear hb2))
        go_ret2
        exact ⟨rfl, B2.out⟩
end Go.Proofs.YtnaodgljdbkmnaaDoor
