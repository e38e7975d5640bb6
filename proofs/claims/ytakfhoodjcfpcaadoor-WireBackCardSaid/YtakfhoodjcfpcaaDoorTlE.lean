/- tlv: the document's Get. -/
import Derived.Test.YtakfhoodjcfpcaaDoorTlD
namespace Go.Proofs.YtakfhoodjcfpcaaDoor.T
open Go.RowKit

def GetrPost (g : Nat × Nat × Nat) (w : World) (e : Ending) (w' : World) : Prop := e = .returned (.tuple #[.int .u64 (g.1 : Int), .int .i64 (g.2.1 : Int), .int .i64 (g.2.2 : Int)]) ∧ Below w.heap.size w w'
theorem getr_post {g : Nat × Nat × Nat} {w w' : World} {a b c : Int} (hw : Below w.heap.size w w') (ha : a = (g.1 : Int)) (hb : b = (g.2.1 : Int)) (hc : c = (g.2.2 : Int)) : GetrPost g w (.returned (.tuple #[.int .u64 a, .int .i64 b, .int .i64 c])) w' := by subst ha hb hc; exact ⟨rfl, hw⟩
set_option maxRecDepth 100000 in
set_option maxHeartbeats 2000000 in
theorem getr_nil (a : Option Addr) (c : Nat) (w : World) : Calls Tryd.prog 54 #[.slice a 0 c] w (GetrPost (Tlv.getN []) w) := by
  go_enter Tryd.func54, Tryd.ntmps54
  go_wp2
  go_ret3
  exact getr_post (Below.refl _ _) rfl rfl rfl
set_option maxRecDepth 100000 in
set_option maxHeartbeats 2000000 in
theorem getr_one (b off cp : Nat) (c : UInt8) (r : List UInt8) (w : World) (hl : r.length + 1 ≤ maxLen) (hs : Src w (some ⟨b, off, none⟩) (c :: r)) (hm : Tlv.more c = 0) (hc : c.toNat < 253) : Calls Tryd.prog 54 #[.slice (some ⟨b, off, none⟩) (r.length + 1) cp] w (GetrPost (Tlv.getN (c :: r)) w) := by
  obtain ⟨b', off', hb, hcell⟩ := hs.resolve_left (by simp)
  cases hb
  have h0 := hcell 0 c rfl
  rw [Nat.add_zero] at h0
  unfold bv at h0
  unfold maxLen at hl
  obtain ⟨x, hx⟩ : ∃ x : Int, (c.toNat : Int) = x := ⟨_, rfl⟩
  rw [hx] at h0
  have hxl : x < 253 := by omega
  have hxl0 : 0 ≤ x := by omega
  have hL : (((Tlv.putN x.toNat).length : Int) != 1) = false := by rw [Tlv.putN_length, if_pos (by omega)]; rfl
  have HX := Lib.hid hx
  clear hcell hx
  have t1 : (x == 255) = false := by simp; omega
  have t2 : (x == 254) = false := by simp; omega
  have t3 : (x == 253) = false := by simp; omega
  have t4 : IntKind.u64.wrap x = x := by simp only [IntKind.wrap, IntKind.bits, IntKind.signed]; simp; omega
  go_enter Tryd.func54, Tryd.ntmps54
  go_wp2_with (go_at_call 31; (with_reducible refine Calls.mono (putr_any _ hxl0 _) ?_); rintro e w1 ⟨v1, rfl, hb1, hbl⟩; obtain ⟨a1, c1, rfl⟩ := own_slice hb1; have HL := Lib.hid hbl; clear hb1 hbl; generalize (Tlv.putN _).length = L at hL ⊢)
  go_ret3
  refine getr_post HL.out ?_ ?_ ?_ <;> simp [Tlv.getN, hm, HX.out]
set_option maxRecDepth 100000 in
set_option maxHeartbeats 2000000 in
theorem getr_short2 (b off cp : Nat) (r : List UInt8) (w : World) (hl : r.length + 1 ≤ maxLen) (hs : Src w (some ⟨b, off, none⟩) (253 :: r)) (hm : r.length < 2) : Calls Tryd.prog 54 #[.slice (some ⟨b, off, none⟩) (r.length + 1) cp] w (GetrPost (Tlv.getN (253 :: r)) w) := by
  obtain ⟨b', off', hb, hcell⟩ := hs.resolve_left (by simp)
  cases hb
  have h0 : w.cell? ⟨b, off, none⟩ = some (.int .u8 253) := hcell 0 253 rfl
  unfold maxLen at hl
  clear hcell
  have t1 : (r.length : Int) + 1 < 3 := by omega
  have HM := Lib.hid (show Tlv.getN (253 :: r) = (0, 0, 51) by simp [Tlv.getN, Tlv.more_253, hm])
  go_enter Tryd.func54, Tryd.ntmps54
  go_wp2
  go_ret3
  rw [HM.out]
  exact getr_post (Below.refl _ _) rfl rfl rfl
set_option maxRecDepth 100000 in
set_option maxHeartbeats 4000000 in
theorem getr_long2 (b off cp : Nat) (r : List UInt8) (w : World) (hl : r.length + 1 ≤ cp) (hcp : cp ≤ maxLen) (hs : Src w (some ⟨b, off, none⟩) (253 :: r)) (hm : 2 ≤ r.length) : Calls Tryd.prog 54 #[.slice (some ⟨b, off, none⟩) (r.length + 1) cp] w (GetrPost (Tlv.getN (253 :: r)) w) := by
  obtain ⟨b', off', hb, hcell⟩ := hs.resolve_left (by simp)
  cases hb
  have h0 : w.cell? ⟨b, off, none⟩ = some (.int .u8 253) := hcell 0 253 rfl
  have HC : Hid (∀ (k : Nat) (c : UInt8), r[k]? = some c → w.cell? ⟨b, off + (k + 1), none⟩ = some (bv c)) := fun k c h => hcell (k + 1) c (by simpa using h)
  unfold maxLen at hcp
  clear hcell
  have t1 : ¬ (r.length : Int) + 1 < 3 := by omega
  have t1' : (3 : Int) ≤ (r.length : Int) + 1 := by omega
  have HG : Hid (Tlv.getN (253 :: r) = if Tlv.val (r.take 2) < 253 then (0, 0, 50) else (Tlv.val (r.take 2), 3, 0)) := by
    have e : Tlv.getN (253 :: r) = if Tlv.more 253 = 0 then ((253 : UInt8).toNat, 1, 0) else if r.length < Tlv.more 253 then (0, 0, 51) else if Tlv.val (r.take (Tlv.more 253)) < Tlv.least (Tlv.more 253) then (0, 0, 50) else (Tlv.val (r.take (Tlv.more 253)), 1 + Tlv.more 253, 0) := rfl
    have m' : Tlv.more 253 = 2 := rfl
    rw [m', if_neg (show ¬ ((2 : Nat) = 0) by omega), if_neg (show ¬ (r.length < 2) by omega)] at e
    exact e
  have hvl : Tlv.val (r.take 2) < 65536 := by have := Tlv.val_lt (r.take 2); rw [List.length_take, Nat.min_eq_left hm] at this; simpa using this
  have HV := Lib.hid hvl
  clear hvl
  go_enter Tryd.func54, Tryd.ntmps54
  go_wp2
  go_loop [6, 7] (fun x j => ∃ (t : Nat) (y : Int), t ≤ 2 ∧ j = .int .i64 ((t : Int) + 1) ∧ x = .int .u64 y ∧ Hid (y = (Tlv.val (r.take t) : Int))) (fun _ j => (2 + 1 - intOf j).toNat)
  case atStart => exact ⟨0, 0, by omega, rfl, rfl, by simp [Hid, Tlv.val]⟩
  case round =>
    obtain ⟨t, y, ht, rfl, rfl, hy⟩ := hrel
    have hy0 : 0 ≤ y := by have := hy.out; omega
    by_cases hlt : t < 2
    · have hy1 : y < 72057594037927936 := by have := hy.out; have := val_take_lt r t (by omega); omega
      obtain ⟨d, hd⟩ : ∃ d, r[t]? = some d := ⟨_, List.getElem?_eq_getElem (by omega)⟩
      have hcd := HC.out t d hd
      unfold bv at hcd
      have hd1 : (d.toNat : Int) < 256 := by have := d.toNat_lt; omega
      have hnx := val_take_succ r t d hd
      have HN : Hid (y * 256 + (d.toNat : Int) = (Tlv.val (r.take (t + 1)) : Int)) := by have := hy.out; show _ = _; rw [hnx, this]; omega
      have hor := or_byte y d.toNat hy0 hy1 (by omega) hd1
      obtain ⟨z, hz⟩ : ∃ z : Int, (d.toNat : Int) = z := ⟨_, rfl⟩
      rw [hz] at hcd hor HN hd1
      have q1 : ((t : Int) + 1) < (r.length : Int) + 1 := by omega
      have q2 : 0 ≤ (t : Int) + 1 := by omega
      clear hd hnx hz
      go_wp2
      go_round
      case rel => exact ⟨t + 1, y * 256 + z, by omega, by go_num, rfl, HN⟩
      case measure => simp [intOf]; omega
    · obtain rfl : t = 2 := by omega
      have HY : Hid (y.toNat = Tlv.val (r.take 2)) := by have := hy.out; show _ = _; omega
      by_cases hle : y < 253
      · have HF : Hid (Tlv.getN (253 :: r) = (0, 0, 50)) := by have := hy.out; show _ = _; rw [HG.out, if_pos (by omega)]
        have hL : (((Tlv.putN y.toNat).length : Int) != 3) = true := by
          rw [Tlv.putN_length]
          (repeat' split) <;> first | rfl | (exfalso; omega)
        go_wp2_with (go_at_call 31; (with_reducible refine Calls.mono (putr_any _ hy0 _) ?_); rintro e w1 ⟨v1, rfl, hb1, hbl⟩; obtain ⟨a1, c1, rfl⟩ := own_slice hb1; have HL := Lib.hid hbl; clear hb1 hbl; generalize (Tlv.putN _).length = L at hL ⊢)
        go_ret3
        rw [HF.out]
        exact getr_post HL.out rfl rfl rfl
      · have HF : Hid (Tlv.getN (253 :: r) = (Tlv.val (r.take 2), 3, 0)) := by have := hy.out; show _ = _; rw [HG.out, if_neg (by omega)]
        have hL : (((Tlv.putN y.toNat).length : Int) != 3) = false := by
          have := HV.out; have := HY.out
          rw [Tlv.putN_length]
          (repeat' split) <;> first | rfl | (exfalso; omega)
        go_wp2_with (go_at_call 31; (with_reducible refine Calls.mono (putr_any _ hy0 _) ?_); rintro e w1 ⟨v1, rfl, hb1, hbl⟩; obtain ⟨a1, c1, rfl⟩ := own_slice hb1; have HL := Lib.hid hbl; clear hb1 hbl; generalize (Tlv.putN _).length = L at hL ⊢)
        go_ret3
        rw [HF.out]
        exact getr_post HL.out hy.out rfl rfl
set_option maxRecDepth 100000 in
set_option maxHeartbeats 2000000 in
theorem getr_short4 (b off cp : Nat) (r : List UInt8) (w : World) (hl : r.length + 1 ≤ maxLen) (hs : Src w (some ⟨b, off, none⟩) (254 :: r)) (hm : r.length < 4) : Calls Tryd.prog 54 #[.slice (some ⟨b, off, none⟩) (r.length + 1) cp] w (GetrPost (Tlv.getN (254 :: r)) w) := by
  obtain ⟨b', off', hb, hcell⟩ := hs.resolve_left (by simp)
  cases hb
  have h0 : w.cell? ⟨b, off, none⟩ = some (.int .u8 254) := hcell 0 254 rfl
  unfold maxLen at hl
  clear hcell
  have t1 : (r.length : Int) + 1 < 5 := by omega
  have HM := Lib.hid (show Tlv.getN (254 :: r) = (0, 0, 51) by simp [Tlv.getN, Tlv.more_254, hm])
  go_enter Tryd.func54, Tryd.ntmps54
  go_wp2
  go_ret3
  rw [HM.out]
  exact getr_post (Below.refl _ _) rfl rfl rfl
set_option maxRecDepth 100000 in
set_option maxHeartbeats 4000000 in
theorem getr_long4 (b off cp : Nat) (r : List UInt8) (w : World) (hl : r.length + 1 ≤ cp) (hcp : cp ≤ maxLen) (hs : Src w (some ⟨b, off, none⟩) (254 :: r)) (hm : 4 ≤ r.length) : Calls Tryd.prog 54 #[.slice (some ⟨b, off, none⟩) (r.length + 1) cp] w (GetrPost (Tlv.getN (254 :: r)) w) := by
  obtain ⟨b', off', hb, hcell⟩ := hs.resolve_left (by simp)
  cases hb
  have h0 : w.cell? ⟨b, off, none⟩ = some (.int .u8 254) := hcell 0 254 rfl
  have HC : Hid (∀ (k : Nat) (c : UInt8), r[k]? = some c → w.cell? ⟨b, off + (k + 1), none⟩ = some (bv c)) := fun k c h => hcell (k + 1) c (by simpa using h)
  unfold maxLen at hcp
  clear hcell
  have t1 : ¬ (r.length : Int) + 1 < 5 := by omega
  have t1' : (5 : Int) ≤ (r.length : Int) + 1 := by omega
  have HG : Hid (Tlv.getN (254 :: r) = if Tlv.val (r.take 4) < 65536 then (0, 0, 50) else (Tlv.val (r.take 4), 5, 0)) := by
    have e : Tlv.getN (254 :: r) = if Tlv.more 254 = 0 then ((254 : UInt8).toNat, 1, 0) else if r.length < Tlv.more 254 then (0, 0, 51) else if Tlv.val (r.take (Tlv.more 254)) < Tlv.least (Tlv.more 254) then (0, 0, 50) else (Tlv.val (r.take (Tlv.more 254)), 1 + Tlv.more 254, 0) := rfl
    have m' : Tlv.more 254 = 4 := rfl
    rw [m', if_neg (show ¬ ((4 : Nat) = 0) by omega), if_neg (show ¬ (r.length < 4) by omega)] at e
    exact e
  have hvl : Tlv.val (r.take 4) < 4294967296 := by have := Tlv.val_lt (r.take 4); rw [List.length_take, Nat.min_eq_left hm] at this; simpa using this
  have HV := Lib.hid hvl
  clear hvl
  go_enter Tryd.func54, Tryd.ntmps54
  go_wp2
  go_loop [6, 7] (fun x j => ∃ (t : Nat) (y : Int), t ≤ 4 ∧ j = .int .i64 ((t : Int) + 1) ∧ x = .int .u64 y ∧ Hid (y = (Tlv.val (r.take t) : Int))) (fun _ j => (4 + 1 - intOf j).toNat)
  case atStart => exact ⟨0, 0, by omega, rfl, rfl, by simp [Hid, Tlv.val]⟩
  case round =>
    obtain ⟨t, y, ht, rfl, rfl, hy⟩ := hrel
    have hy0 : 0 ≤ y := by have := hy.out; omega
    by_cases hlt : t < 4
    · have hy1 : y < 72057594037927936 := by have := hy.out; have := val_take_lt r t (by omega); omega
      obtain ⟨d, hd⟩ : ∃ d, r[t]? = some d := ⟨_, List.getElem?_eq_getElem (by omega)⟩
      have hcd := HC.out t d hd
      unfold bv at hcd
      have hd1 : (d.toNat : Int) < 256 := by have := d.toNat_lt; omega
      have hnx := val_take_succ r t d hd
      have HN : Hid (y * 256 + (d.toNat : Int) = (Tlv.val (r.take (t + 1)) : Int)) := by have := hy.out; show _ = _; rw [hnx, this]; omega
      have hor := or_byte y d.toNat hy0 hy1 (by omega) hd1
      obtain ⟨z, hz⟩ : ∃ z : Int, (d.toNat : Int) = z := ⟨_, rfl⟩
      rw [hz] at hcd hor HN hd1
      have q1 : ((t : Int) + 1) < (r.length : Int) + 1 := by omega
      have q2 : 0 ≤ (t : Int) + 1 := by omega
      clear hd hnx hz
      go_wp2
      go_round
      case rel => exact ⟨t + 1, y * 256 + z, by omega, by go_num, rfl, HN⟩
      case measure => simp [intOf]; omega
    · obtain rfl : t = 4 := by omega
      have HY : Hid (y.toNat = Tlv.val (r.take 4)) := by have := hy.out; show _ = _; omega
      by_cases hle : y < 65536
      · have HF : Hid (Tlv.getN (254 :: r) = (0, 0, 50)) := by have := hy.out; show _ = _; rw [HG.out, if_pos (by omega)]
        have hL : (((Tlv.putN y.toNat).length : Int) != 5) = true := by
          rw [Tlv.putN_length]
          (repeat' split) <;> first | rfl | (exfalso; omega)
        go_wp2_with (go_at_call 31; (with_reducible refine Calls.mono (putr_any _ hy0 _) ?_); rintro e w1 ⟨v1, rfl, hb1, hbl⟩; obtain ⟨a1, c1, rfl⟩ := own_slice hb1; have HL := Lib.hid hbl; clear hb1 hbl; generalize (Tlv.putN _).length = L at hL ⊢)
        go_ret3
        rw [HF.out]
        exact getr_post HL.out rfl rfl rfl
      · have HF : Hid (Tlv.getN (254 :: r) = (Tlv.val (r.take 4), 5, 0)) := by have := hy.out; show _ = _; rw [HG.out, if_neg (by omega)]
        have hL : (((Tlv.putN y.toNat).length : Int) != 5) = false := by
          have := HV.out; have := HY.out
          rw [Tlv.putN_length]
          (repeat' split) <;> first | rfl | (exfalso; omega)
        go_wp2_with (go_at_call 31; (with_reducible refine Calls.mono (putr_any _ hy0 _) ?_); rintro e w1 ⟨v1, rfl, hb1, hbl⟩; obtain ⟨a1, c1, rfl⟩ := own_slice hb1; have HL := Lib.hid hbl; clear hb1 hbl; generalize (Tlv.putN _).length = L at hL ⊢)
        go_ret3
        rw [HF.out]
        exact getr_post HL.out hy.out rfl rfl
set_option maxRecDepth 100000 in
set_option maxHeartbeats 2000000 in
theorem getr_short8 (b off cp : Nat) (r : List UInt8) (w : World) (hl : r.length + 1 ≤ maxLen) (hs : Src w (some ⟨b, off, none⟩) (255 :: r)) (hm : r.length < 8) : Calls Tryd.prog 54 #[.slice (some ⟨b, off, none⟩) (r.length + 1) cp] w (GetrPost (Tlv.getN (255 :: r)) w) := by
  obtain ⟨b', off', hb, hcell⟩ := hs.resolve_left (by simp)
  cases hb
  have h0 : w.cell? ⟨b, off, none⟩ = some (.int .u8 255) := hcell 0 255 rfl
  unfold maxLen at hl
  clear hcell
  have t1 : (r.length : Int) + 1 < 9 := by omega
  have HM := Lib.hid (show Tlv.getN (255 :: r) = (0, 0, 51) by simp [Tlv.getN, Tlv.more_255, hm])
  go_enter Tryd.func54, Tryd.ntmps54
  go_wp2
  go_ret3
  rw [HM.out]
  exact getr_post (Below.refl _ _) rfl rfl rfl
set_option maxRecDepth 100000 in
set_option maxHeartbeats 4000000 in
theorem getr_long8 (b off cp : Nat) (r : List UInt8) (w : World) (hl : r.length + 1 ≤ cp) (hcp : cp ≤ maxLen) (hs : Src w (some ⟨b, off, none⟩) (255 :: r)) (hm : 8 ≤ r.length) : Calls Tryd.prog 54 #[.slice (some ⟨b, off, none⟩) (r.length + 1) cp] w (GetrPost (Tlv.getN (255 :: r)) w) := by
  obtain ⟨b', off', hb, hcell⟩ := hs.resolve_left (by simp)
  cases hb
  have h0 : w.cell? ⟨b, off, none⟩ = some (.int .u8 255) := hcell 0 255 rfl
  have HC : Hid (∀ (k : Nat) (c : UInt8), r[k]? = some c → w.cell? ⟨b, off + (k + 1), none⟩ = some (bv c)) := fun k c h => hcell (k + 1) c (by simpa using h)
  unfold maxLen at hcp
  clear hcell
  have t1 : ¬ (r.length : Int) + 1 < 9 := by omega
  have t1' : (9 : Int) ≤ (r.length : Int) + 1 := by omega
  have HG : Hid (Tlv.getN (255 :: r) = if Tlv.val (r.take 8) < 4294967296 then (0, 0, 50) else (Tlv.val (r.take 8), 9, 0)) := by
    have e : Tlv.getN (255 :: r) = if Tlv.more 255 = 0 then ((255 : UInt8).toNat, 1, 0) else if r.length < Tlv.more 255 then (0, 0, 51) else if Tlv.val (r.take (Tlv.more 255)) < Tlv.least (Tlv.more 255) then (0, 0, 50) else (Tlv.val (r.take (Tlv.more 255)), 1 + Tlv.more 255, 0) := rfl
    have m' : Tlv.more 255 = 8 := rfl
    rw [m', if_neg (show ¬ ((8 : Nat) = 0) by omega), if_neg (show ¬ (r.length < 8) by omega)] at e
    exact e
  have hvl : Tlv.val (r.take 8) < 18446744073709551616 := by have := Tlv.val_lt (r.take 8); rw [List.length_take, Nat.min_eq_left hm] at this; simpa using this
  have HV := Lib.hid hvl
  clear hvl
  go_enter Tryd.func54, Tryd.ntmps54
  go_wp2
  go_loop [6, 7] (fun x j => ∃ (t : Nat) (y : Int), t ≤ 8 ∧ j = .int .i64 ((t : Int) + 1) ∧ x = .int .u64 y ∧ Hid (y = (Tlv.val (r.take t) : Int))) (fun _ j => (8 + 1 - intOf j).toNat)
  case atStart => exact ⟨0, 0, by omega, rfl, rfl, by simp [Hid, Tlv.val]⟩
  case round =>
    obtain ⟨t, y, ht, rfl, rfl, hy⟩ := hrel
    have hy0 : 0 ≤ y := by have := hy.out; omega
    by_cases hlt : t < 8
    · have hy1 : y < 72057594037927936 := by have := hy.out; have := val_take_lt r t (by omega); omega
      obtain ⟨d, hd⟩ : ∃ d, r[t]? = some d := ⟨_, List.getElem?_eq_getElem (by omega)⟩
      have hcd := HC.out t d hd
      unfold bv at hcd
      have hd1 : (d.toNat : Int) < 256 := by have := d.toNat_lt; omega
      have hnx := val_take_succ r t d hd
      have HN : Hid (y * 256 + (d.toNat : Int) = (Tlv.val (r.take (t + 1)) : Int)) := by have := hy.out; show _ = _; rw [hnx, this]; omega
      have hor := or_byte y d.toNat hy0 hy1 (by omega) hd1
      obtain ⟨z, hz⟩ : ∃ z : Int, (d.toNat : Int) = z := ⟨_, rfl⟩
      rw [hz] at hcd hor HN hd1
      have q1 : ((t : Int) + 1) < (r.length : Int) + 1 := by omega
      have q2 : 0 ≤ (t : Int) + 1 := by omega
      clear hd hnx hz
      go_wp2
      go_round
      case rel => exact ⟨t + 1, y * 256 + z, by omega, by go_num, rfl, HN⟩
      case measure => simp [intOf]; omega
    · obtain rfl : t = 8 := by omega
      have HY : Hid (y.toNat = Tlv.val (r.take 8)) := by have := hy.out; show _ = _; omega
      by_cases hle : y < 4294967296
      · have HF : Hid (Tlv.getN (255 :: r) = (0, 0, 50)) := by have := hy.out; show _ = _; rw [HG.out, if_pos (by omega)]
        have hL : (((Tlv.putN y.toNat).length : Int) != 9) = true := by
          rw [Tlv.putN_length]
          (repeat' split) <;> first | rfl | (exfalso; omega)
        go_wp2_with (go_at_call 31; (with_reducible refine Calls.mono (putr_any _ hy0 _) ?_); rintro e w1 ⟨v1, rfl, hb1, hbl⟩; obtain ⟨a1, c1, rfl⟩ := own_slice hb1; have HL := Lib.hid hbl; clear hb1 hbl; generalize (Tlv.putN _).length = L at hL ⊢)
        go_ret3
        rw [HF.out]
        exact getr_post HL.out rfl rfl rfl
      · have HF : Hid (Tlv.getN (255 :: r) = (Tlv.val (r.take 8), 9, 0)) := by have := hy.out; show _ = _; rw [HG.out, if_neg (by omega)]
        have hL : (((Tlv.putN y.toNat).length : Int) != 9) = false := by
          have := HV.out; have := HY.out
          rw [Tlv.putN_length]
          (repeat' split) <;> first | rfl | (exfalso; omega)
        go_wp2_with (go_at_call 31; (with_reducible refine Calls.mono (putr_any _ hy0 _) ?_); rintro e w1 ⟨v1, rfl, hb1, hbl⟩; obtain ⟨a1, c1, rfl⟩ := own_slice hb1; have HL := Lib.hid hbl; clear hb1 hbl; generalize (Tlv.putN _).length = L at hL ⊢)
        go_ret3
        rw [HF.out]
        exact getr_post HL.out hy.out rfl rfl
theorem getr_any (a : Option Addr) (l : List UInt8) (cp : Nat) (w : World) (hl : l.length ≤ cp) (hcp : cp ≤ maxLen) (hs : Src w a l) : Calls Tryd.prog 54 #[.slice a l.length cp] w (GetrPost (Tlv.getN l) w) := by
  cases l with
  | nil => exact getr_nil a cp w
  | cons c r =>
    have hs' := hs
    obtain ⟨b, off, rfl, _⟩ := hs.resolve_left (by simp)
    simp only [List.length_cons] at hl ⊢
    rcases Tlv.more_cases c with ⟨hm, hc⟩ | ⟨rfl, hm⟩ | ⟨rfl, hm⟩ | ⟨rfl, hm⟩
    · exact getr_one b off cp c r w (by omega) hs' hm hc
    · by_cases h : r.length < 2
      · exact getr_short2 b off cp r w (by omega) hs' h
      · exact getr_long2 b off cp r w hl hcp hs' (by omega)
    · by_cases h : r.length < 4
      · exact getr_short4 b off cp r w (by omega) hs' h
      · exact getr_long4 b off cp r w hl hcp hs' (by omega)
    · by_cases h : r.length < 8
      · exact getr_short8 b off cp r w (by omega) hs' h
      · exact getr_long8 b off cp r w hl hcp hs' (by omega)
end Go.Proofs.YtakfhoodjcfpcaaDoor.T
