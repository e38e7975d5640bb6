/- seed: on, walked. -/
import Derived.Test.YtnaodgljdbkmnaaDoorBldG
import Derived.Test.YtnaodgljdbkmnaaDoorSeedQ
import Derived.Test.YtnaodgljdbkmnaaDoorLater
import Derived.Lib.AppendIntMem
namespace Go.Proofs.YtnaodgljdbkmnaaDoor
set_option linter.unusedVariables false
open Go.RowKit
theorem bit_z (i b : Nat) (hi : i < 9223372036854775808) : bits BinOp.and IntKind.i64 ((i : Int) / 2 ^ b) 1 = if bitP i b = true then 1 else 0 := by
  have e : ((i : Int) / 2 ^ b) = ((i / 2 ^ b : Nat) : Int) := by simp
  have hm : i / 2 ^ b < 2 ^ 63 := Nat.lt_of_le_of_lt (Nat.div_le_self _ _) hi
  rw [e]
  unfold bitP
  generalize i / 2 ^ b = m at hm ⊢
  have h1 : (BitVec.ofInt 64 (m : Int)).toNat = m := by
    rw [BitVec.ofInt_natCast, BitVec.toNat_ofNat]; exact Nat.mod_eq_of_lt (by omega)
  show IntKind.i64.wrap ((BitVec.ofInt 64 (m : Int) &&& BitVec.ofInt 64 1).toNat : Int) = _
  rw [BitVec.toNat_and, h1, show (BitVec.ofInt 64 1).toNat = 1 from rfl, Nat.and_one_is_mod, IntKind.wrap_i64]
  rcases Nat.mod_two_eq_zero_or_one m with h | h <;> rw [h] <;> rfl
theorem Tab.below {w w' : World} (h : Tab w) (hb : Below w.heap.size w w') : Tab w' := Lib.tabBelow_of_tabIs h w' hb
/-- what on tells -/
def onV (t : List UInt8) (i k : Nat) : Value := match onO t i k with
  | some u => .tuple #[.string ⟨u.toArray⟩, .int .i64 0]
  | none => .tuple #[.string ⟨#[]⟩, .int .i64 3]
theorem lab_text {b : Nat} (h : b < 20) : textV ⟨(Lib.decDigits b).toArray⟩ = .tuple #[.string ⟨(labL b).toArray⟩, .int .i64 0] := by
  rcases (by omega : b = 0 ∨ b = 1 ∨ b = 2 ∨ b = 3 ∨ b = 4 ∨ b = 5 ∨ b = 6 ∨ b = 7 ∨ b = 8 ∨ b = 9 ∨ b = 10 ∨ b = 11 ∨ b = 12 ∨ b = 13 ∨ b = 14 ∨ b = 15 ∨ b = 16 ∨ b = 17 ∨ b = 18 ∨ b = 19) with rfl | rfl | rfl | rfl | rfl | rfl | rfl | rfl | rfl | rfl | rfl | rfl | rfl | rfl | rfl | rfl | rfl | rfl | rfl | rfl <;> kernel_rfl
theorem dec_len {b : Nat} (h : b < 20) : (⟨(Lib.decDigits b).toArray⟩ : ByteArray).size ≤ 2 := by
  rcases (by omega : b = 0 ∨ b = 1 ∨ b = 2 ∨ b = 3 ∨ b = 4 ∨ b = 5 ∨ b = 6 ∨ b = 7 ∨ b = 8 ∨ b = 9 ∨ b = 10 ∨ b = 11 ∨ b = 12 ∨ b = 13 ∨ b = 14 ∨ b = 15 ∨ b = 16 ∨ b = 17 ∨ b = 18 ∨ b = 19) with rfl | rfl | rfl | rfl | rfl | rfl | rfl | rfl | rfl | rfl | rfl | rfl | rfl | rfl | rfl | rfl | rfl | rfl | rfl | rfl <;> decide +kernel
theorem rt_lab {b : Nat} (h : b < 20) : rt ⟨(labL b).toArray⟩ = true := by unfold rt; rw [ba_list]; exact (lab_is h).1
theorem child_val {u : ByteArray} {b : Nat} (hu : rt u = true) (hb : b < 20) : buildV ⟨#[68]⟩ [u, ⟨(labL b).toArray⟩] = match childO u.data.toList b with
    | some v => .tuple #[.string ⟨v.toArray⟩, .int .i64 0]
    | none => .tuple #[.string ⟨#[]⟩, .int .i64 3] := by
  rw [buildV_right (by intro v hv; simp at hv; rcases hv with rfl | rfl; exact hu; exact rt_lab hb), buildL_two, ba_list]
  unfold childO childL
  by_cases h : rightB (68 :: (u.data.toList ++ labL b)) = true
  · rw [if_pos h, wholeV_yes (by unfold rt; rw [ba_list]; exact h)]
  · rw [if_neg h, wholeV_no (by unfold rt; rw [ba_list]; simpa using h)]
theorem onO_skip {t : List UInt8} {i b : Nat} (h : bitP i b = false) : onO t i (b + 1) = onO t i b := by simp [onO, h]
theorem onO_some {t v : List UInt8} {i b : Nat} (h : bitP i b = true) (hc : childO t b = some v) : onO t i (b + 1) = onO v i b := by simp [onO, h, hc]
theorem onO_none {t : List UInt8} {i b : Nat} (h : bitP i b = true) (hc : childO t b = none) : onO t i (b + 1) = none := by simp [onO, h, hc]
set_option maxRecDepth 100000 in
set_option maxHeartbeats 4000000 in
/-- the program's on -/
theorem on_any (t : ByteArray) (i k : Nat) (w : World) (ht : rt t = true) (hi : i < 9223372036854775808) (hk : k ≤ 20) (hL : LibOk w) (hT : Tab w) : Calls Tryd.prog 43 #[.string t, .int .i64 i, .int .i64 k] w fun e w' => e = .returned (onV t.data.toList i k) ∧ Below w.heap.size w w' := by
  have HL := Lib.hid hL
  have HT := Lib.hid hT
  have HR := Lib.hid ht
  clear hL hT ht
  go_enter Tryd.func43, Tryd.ntmps43
  go_wp2
  go_loopw [0, 8] (fun uv bv wr => ∃ (b : Nat) (u : ByteArray), b ≤ k ∧ uv = .string u ∧ bv = .int .i64 ((b : Int) - 1) ∧ Hid (rt u = true) ∧ Hid (onO t.data.toList i k = onO u.data.toList i b) ∧ Hid (Below w.heap.size w wr)) (fun _ bv _ => (intOf bv + 1).toNat)
  case atStart => exact ⟨k, t, Nat.le_refl _, rfl, rfl, HR.out, rfl, Below.refl _ _⟩
  case round =>
    obtain ⟨b, u, hb, rfl, rfl, hr, ho, hB⟩ := hrel
    have hBs := hB.out.size
    cases b with
    | zero =>
      go_wp2_with fail
      go_ret2
      refine ⟨?_, hB.out⟩
      unfold onV
      rw [ho.out]
      show Ending.returned (.tuple #[.string u, .int .i64 0]) = .returned (.tuple #[.string ⟨u.data.toList.toArray⟩, .int .i64 0])
      rw [ba_back]
    | succ b =>
      rw [show (((b + 1 : Nat) : Int) - 1) = (b : Int) by omega]
      have hbz := bit_z i b hi
      have hb2 : b < 20 := by omega
      cases hbit : bitP i b with
      | false =>
        rw [hbit] at hbz
        simp only [Bool.false_eq_true, if_false] at hbz
        go_wp2_with fail
        go_roundw
        case rel => exact ⟨b, u, by omega, rfl, by go_num, hr.out, ho.out.trans (onO_skip hbit), hB.out⟩
        case measure => (simp [intOf] <;> omega)
      | true =>
        rw [hbit] at hbz
        simp only [if_true] at hbz
        have hsz := right_size hr.out
        have TX : Hid (∀ W : World, Tab W → Calls Tryd.prog 39 #[.string ⟨(Lib.decDigits b).toArray⟩] W fun e w' => e = .returned (.tuple #[.string ⟨(labL b).toArray⟩, .int .i64 0]) ∧ Below W.heap.size W w') := fun W hW => by
          have := text_any ⟨(Lib.decDigits b).toArray⟩ W (by have := dec_len hb2; unfold maxLen; omega) hW
          rw [lab_text hb2] at this
          exact this
        cases hc : childO u.data.toList b with
        | none =>
          have CH : Hid (∀ W : World, LibOk W → Calls Tryd.prog 64 #[.string u, .string ⟨(labL b).toArray⟩] W fun e w' => e = .returned (.tuple #[.string ⟨#[]⟩, .int .i64 3]) ∧ Below W.heap.size W w') := fun W hW => by
            have := child_any u ⟨(labL b).toArray⟩ W (by unfold maxLen; omega) (by have := right_size (rt_lab hb2); unfold maxLen; omega) hW
            rw [child_val hr.out hb2, hc] at this
            exact this
          go_wp2_with (first
            | (go_at_call 61; (with_reducible refine Calls.mono (Tryd.strconv_Itoa_small b (by omega) _) ?_); rintro e w1 ⟨rfl, rfl⟩)
            | (go_at_call 39; (with_reducible refine Calls.mono (TX.out _ (HT.out.below hB.out)) ?_); rintro e w2 ⟨rfl, hb2'⟩; have B2 := Lib.hid (hB.out.trans (hb2'.mono hBs)); clear hb2')
            | (go_at_call 64; (with_reducible refine Calls.mono (CH.out _ (HL.out.below B2.out)) ?_); rintro e w3 ⟨rfl, hb3⟩; have B3 := Lib.hid (B2.out.trans (hb3.mono B2.out.size)); clear hb3))
          go_ret2
          refine ⟨?_, B3.out⟩
          unfold onV
          rw [ho.out, onO_none hbit hc]
          try rfl
        | some v =>
          have CH : Hid (∀ W : World, LibOk W → Calls Tryd.prog 64 #[.string u, .string ⟨(labL b).toArray⟩] W fun e w' => e = .returned (.tuple #[.string ⟨v.toArray⟩, .int .i64 0]) ∧ Below W.heap.size W w') := fun W hW => by
            have := child_any u ⟨(labL b).toArray⟩ W (by unfold maxLen; omega) (by have := right_size (rt_lab hb2); unfold maxLen; omega) hW
            rw [child_val hr.out hb2, hc] at this
            exact this
          go_wp2_with (first
            | (go_at_call 61; (with_reducible refine Calls.mono (Tryd.strconv_Itoa_small b (by omega) _) ?_); rintro e w1 ⟨rfl, rfl⟩)
            | (go_at_call 39; (with_reducible refine Calls.mono (TX.out _ (HT.out.below hB.out)) ?_); rintro e w2 ⟨rfl, hb2'⟩; have B2 := Lib.hid (hB.out.trans (hb2'.mono hBs)); clear hb2')
            | (go_at_call 64; (with_reducible refine Calls.mono (CH.out _ (HL.out.below B2.out)) ?_); rintro e w3 ⟨rfl, hb3⟩; have B3 := Lib.hid (B2.out.trans (hb3.mono B2.out.size)); clear hb3))
          go_roundw
          case rel => exact ⟨b, ⟨v.toArray⟩, by omega, rfl, by go_num, (by unfold rt; rw [ba_list]; exact (child_some hc).2), (ho.out.trans (by rw [onO_some hbit hc, ba_list])), B3.out⟩
          case measure => (simp [intOf] <;> omega)
end Go.Proofs.YtnaodgljdbkmnaaDoor
