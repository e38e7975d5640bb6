/- tlv: Get. -/
import Derived.Calls
import Derived.WalkKit
import Derived.WalkSpells
import Derived.WalkLawsBesides
import Derived.Handy
import Derived.Lib.Hide
import Derived.Deep.AppendLies
import Derived.Deep.LoopGhost
import Derived.Outline
import Derived.Laws.BitsAllLaws
import Derived.Laws.BitsLemmas
import Derived.Test.YtakfhoodjcfpcaaDoorRows
import Derived.Test.YtakfhoodjcfpcaaDoorPl
import Derived.Test.YtakfhoodjcfpcaaDoorTlA
namespace Go.Proofs.YtakfhoodjcfpcaaDoor.T
open Go.RowKit

/-- these bytes lie there -/
def Src (w : World) (a : Option Addr) (l : List UInt8) : Prop := l = [] ∨ ∃ b off, a = some ⟨b, off, none⟩ ∧ ∀ (k : Nat) (c : UInt8), l[k]? = some c → w.cell? ⟨b, off + k, none⟩ = some (bv c)
theorem or_byte (x c : Int) (h0 : 0 ≤ x) (h1 : x < 72057594037927936) (c0 : 0 ≤ c) (c1 : c < 256) : bits .or .u64 (x * 256) (IntKind.u64.wrap c) = x * 256 + c := by
  obtain ⟨n, rfl⟩ := Int.eq_ofNat_of_zero_le h0
  obtain ⟨m, rfl⟩ := Int.eq_ofNat_of_zero_le c0
  have hn : n < 72057594037927936 := by omega
  have hm : m < 256 := by omega
  have e1 : IntKind.u64.wrap ((n : Int) * 256) = ((n * 256 : Nat) : Int) := by
    simp only [IntKind.wrap, IntKind.bits, IntKind.signed]
    simp
    omega
  have e0 : IntKind.u64.wrap (m : Int) = (m : Int) := by
    simp only [IntKind.wrap, IntKind.bits, IntKind.signed]
    simp
    omega
  rw [e0, show (n : Int) * 256 = ((n * 256 : Nat) : Int) by omega]
  clear e1
  have b1 : (BitVec.ofInt 64 ((n * 256 : Nat) : Int)).toNat = n * 256 := by rw [BitVec.ofInt_natCast, BitVec.toNat_ofNat]; exact Nat.mod_eq_of_lt (by omega)
  have b2 : (BitVec.ofInt 64 ((m : Nat) : Int)).toNat = m := by rw [BitVec.ofInt_natCast, BitVec.toNat_ofNat]; exact Nat.mod_eq_of_lt (by omega)
  show IntKind.u64.wrap ((BitVec.ofInt 64 ((n * 256 : Nat) : Int) ||| BitVec.ofInt 64 ((m : Nat) : Int)).toNat : Int) = _
  rw [BitVec.toNat_or, b1, b2]
  have e2 : n * 256 ||| m = n * 256 + m := by
    have := Nat.shiftLeft_add_eq_or_of_lt (b := m) (i := 8) (by omega) n
    rw [Nat.shiftLeft_eq] at this
    exact this.symm
  rw [e2]
  simp only [IntKind.wrap, IntKind.bits, IntKind.signed]
  simp
  omega
theorem val_take_succ (l : List UInt8) (j : Nat) (c : UInt8) (h : l[j]? = some c) : Tlv.val (l.take (j + 1)) = Tlv.val (l.take j) * 256 + c.toNat := by
  have hj : j < l.length := (List.getElem?_eq_some_iff.1 h).1
  rw [List.take_succ_eq_append_getElem hj, Tlv.val_snoc]
  have : l[j] = c := by rw [List.getElem?_eq_getElem hj] at h; exact Option.some.inj h
  rw [this]
theorem val_take_lt (l : List UInt8) (j : Nat) (hj : j ≤ 7) : Tlv.val (l.take j) < 72057594037927936 := by
  have h := Tlv.val_lt (l.take j)
  have h2 : 256 ^ (l.take j).length ≤ 256 ^ 7 := Nat.pow_le_pow_right (by omega) (by rw [List.length_take]; omega)
  have : (256 : Nat) ^ 7 = 72057594037927936 := by decide
  omega
def GetPost (g : Nat × Nat × Nat) (w : World) (e : Ending) (w' : World) : Prop := e = .returned (.tuple #[.int .u64 (g.1 : Int), .int .i64 (g.2.1 : Int), .int .i64 (g.2.2 : Int)]) ∧ w = w'
theorem get_post {g : Nat × Nat × Nat} {w : World} {a b c : Int} (ha : a = (g.1 : Int)) (hb : b = (g.2.1 : Int)) (hc : c = (g.2.2 : Int)) : GetPost g w (.returned (.tuple #[.int .u64 a, .int .i64 b, .int .i64 c])) w := by subst ha hb hc; exact ⟨rfl, rfl⟩
set_option maxRecDepth 100000 in
set_option maxHeartbeats 2000000 in
theorem get_nil (a : Option Addr) (c : Nat) (w : World) : Calls Tryd.prog 50 #[.slice a 0 c] w (GetPost (Tlv.getN []) w) := by
  go_enter Tryd.func50, Tryd.ntmps50
  go_wp2
  go_ret3
  exact get_post rfl rfl rfl
set_option maxRecDepth 100000 in
set_option maxHeartbeats 2000000 in
theorem get_one (b off cp : Nat) (c : UInt8) (r : List UInt8) (w : World) (hl : r.length + 1 ≤ maxLen) (hs : Src w (some ⟨b, off, none⟩) (c :: r)) (hm : Tlv.more c = 0) (hc : c.toNat < 253) : Calls Tryd.prog 50 #[.slice (some ⟨b, off, none⟩) (r.length + 1) cp] w (GetPost (Tlv.getN (c :: r)) w) := by
  obtain ⟨b', off', hb, hcell⟩ := hs.resolve_left (by simp)
  cases hb
  have h0 := hcell 0 c rfl
  rw [Nat.add_zero] at h0
  unfold bv at h0
  unfold maxLen at hl
  obtain ⟨x, hx⟩ : ∃ x : Int, (c.toNat : Int) = x := ⟨_, rfl⟩
  rw [hx] at h0
  have hxl : x < 253 := by omega
  have hxl0 : 0 ≤ x := by omega
  have HX := Lib.hid hx
  clear hcell hx
  have t1 : (x == 255) = false := by simp; omega
  have t2 : (x == 254) = false := by simp; omega
  have t3 : (x == 253) = false := by simp; omega
  go_enter Tryd.func50, Tryd.ntmps50
  go_wp2
  go_ret3
  refine get_post ?_ ?_ ?_ <;> simp [Tlv.getN, hm, HX.out]
set_option maxRecDepth 100000 in
set_option maxHeartbeats 2000000 in
theorem get_short2 (b off cp : Nat) (r : List UInt8) (w : World) (hl : r.length + 1 ≤ maxLen) (hs : Src w (some ⟨b, off, none⟩) (253 :: r)) (hm : r.length < 2) : Calls Tryd.prog 50 #[.slice (some ⟨b, off, none⟩) (r.length + 1) cp] w (GetPost (Tlv.getN (253 :: r)) w) := by
  obtain ⟨b', off', hb, hcell⟩ := hs.resolve_left (by simp)
  cases hb
  have h0 : w.cell? ⟨b, off, none⟩ = some (.int .u8 253) := hcell 0 253 rfl
  unfold maxLen at hl
  clear hcell
  have t1 : (r.length : Int) + 1 ≤ 2 := by omega
  have HM := Lib.hid (show Tlv.getN (253 :: r) = (0, 0, 51) by simp [Tlv.getN, Tlv.more_253, hm])
  go_enter Tryd.func50, Tryd.ntmps50
  go_wp2
  go_ret3
  rw [HM.out]
  exact get_post rfl rfl rfl
set_option maxRecDepth 100000 in
set_option maxHeartbeats 4000000 in
theorem get_long2 (b off cp : Nat) (r : List UInt8) (w : World) (hl : r.length + 1 ≤ cp) (hcp : cp ≤ maxLen) (hs : Src w (some ⟨b, off, none⟩) (253 :: r)) (hm : 2 ≤ r.length) : Calls Tryd.prog 50 #[.slice (some ⟨b, off, none⟩) (r.length + 1) cp] w (GetPost (Tlv.getN (253 :: r)) w) := by
  obtain ⟨b', off', hb, hcell⟩ := hs.resolve_left (by simp)
  cases hb
  have h0 : w.cell? ⟨b, off, none⟩ = some (.int .u8 253) := hcell 0 253 rfl
  have HC : Hid (∀ (k : Nat) (c : UInt8), r[k]? = some c → w.cell? ⟨b, off + 1 + k, none⟩ = some (bv c)) := fun k c h => by
    have := hcell (k + 1) c (by simpa using h)
    rw [show off + (k + 1) = off + 1 + k by omega] at this
    exact this
  unfold maxLen at hcp
  clear hcell
  have t1 : (2 : Int) < (r.length : Int) + 1 := by omega
  have t2 : ¬ cp = 1 := by omega
  have t3 : 3 ≤ cp := by omega
  have HG : Hid (Tlv.getN (253 :: r) = if Tlv.val (r.take 2) < 253 then (0, 0, 50) else (Tlv.val (r.take 2), 3, 0)) := by
    have e : Tlv.getN (253 :: r) = if Tlv.more 253 = 0 then ((253 : UInt8).toNat, 1, 0) else if r.length < Tlv.more 253 then (0, 0, 51) else if Tlv.val (r.take (Tlv.more 253)) < Tlv.least (Tlv.more 253) then (0, 0, 50) else (Tlv.val (r.take (Tlv.more 253)), 1 + Tlv.more 253, 0) := rfl
    have m' : Tlv.more 253 = 2 := rfl
    rw [m', if_neg (show ¬ ((2 : Nat) = 0) by omega), if_neg (show ¬ (r.length < 2) by omega)] at e
    exact e
  go_enter Tryd.func50, Tryd.ntmps50
  go_wp2
  go_loop [7, 9, 45] (fun x _ j => ∃ (t : Nat) (y : Int), t ≤ 2 ∧ j = .int .i64 t ∧ x = .int .u64 y ∧ Hid (y = (Tlv.val (r.take t) : Int))) (fun _ _ j => 2 - (intOf j).toNat)
  case atStart => exact ⟨0, 0, by omega, rfl, rfl, by simp [Hid, Tlv.val]⟩
  case round =>
    obtain ⟨t, y, ht, rfl, rfl, hy⟩ := hrel
    have hy0 : 0 ≤ y := by have := hy.out; omega
    by_cases hlt : t < 2
    · have hy1 : y < 72057594037927936 := by have := hy.out; have := val_take_lt r t (by omega); omega
      obtain ⟨d, hd⟩ : ∃ d, r[t]? = some d := ⟨_, List.getElem?_eq_getElem (by omega)⟩
      have hcd := HC.out t d hd
      unfold bv at hcd
      have hd1 : (d.toNat : Int) < 256 := by have := d.toNat_lt; omega
      have hnx := val_take_succ r t d hd
      have HN : Hid (y * 256 + (d.toNat : Int) = (Tlv.val (r.take (t + 1)) : Int)) := by have := hy.out; show _ = _; rw [hnx, this]; omega
      have hor := or_byte y d.toNat hy0 hy1 (by omega) hd1
      obtain ⟨z, hz⟩ : ∃ z : Int, (d.toNat : Int) = z := ⟨_, rfl⟩
      rw [hz] at hcd hor HN hd1
      clear hd hnx hz
      go_wp2
      go_round
      case rel => exact ⟨t + 1, y * 256 + z, by omega, by go_num, rfl, HN⟩
      case measure => simp [intOf]; omega
    · obtain rfl : t = 2 := by omega
      by_cases hle : y < 253
      · have HF : Hid (Tlv.getN (253 :: r) = (0, 0, 50)) := by have := hy.out; show _ = _; rw [HG.out, if_pos (by omega)]
        go_wp2
        go_ret3
        rw [HF.out]
        exact get_post rfl rfl rfl
      · have HF : Hid (Tlv.getN (253 :: r) = (Tlv.val (r.take 2), 3, 0)) := by have := hy.out; show _ = _; rw [HG.out, if_neg (by omega)]
        have hle' : 253 ≤ y := by omega
        go_wp2
        go_ret3
        rw [HF.out]
        exact get_post hy.out rfl rfl
set_option maxRecDepth 100000 in
set_option maxHeartbeats 2000000 in
theorem get_short4 (b off cp : Nat) (r : List UInt8) (w : World) (hl : r.length + 1 ≤ maxLen) (hs : Src w (some ⟨b, off, none⟩) (254 :: r)) (hm : r.length < 4) : Calls Tryd.prog 50 #[.slice (some ⟨b, off, none⟩) (r.length + 1) cp] w (GetPost (Tlv.getN (254 :: r)) w) := by
  obtain ⟨b', off', hb, hcell⟩ := hs.resolve_left (by simp)
  cases hb
  have h0 : w.cell? ⟨b, off, none⟩ = some (.int .u8 254) := hcell 0 254 rfl
  unfold maxLen at hl
  clear hcell
  have t1 : (r.length : Int) + 1 ≤ 4 := by omega
  have HM := Lib.hid (show Tlv.getN (254 :: r) = (0, 0, 51) by simp [Tlv.getN, Tlv.more_254, hm])
  go_enter Tryd.func50, Tryd.ntmps50
  go_wp2
  go_ret3
  rw [HM.out]
  exact get_post rfl rfl rfl
set_option maxRecDepth 100000 in
set_option maxHeartbeats 4000000 in
theorem get_long4 (b off cp : Nat) (r : List UInt8) (w : World) (hl : r.length + 1 ≤ cp) (hcp : cp ≤ maxLen) (hs : Src w (some ⟨b, off, none⟩) (254 :: r)) (hm : 4 ≤ r.length) : Calls Tryd.prog 50 #[.slice (some ⟨b, off, none⟩) (r.length + 1) cp] w (GetPost (Tlv.getN (254 :: r)) w) := by
  obtain ⟨b', off', hb, hcell⟩ := hs.resolve_left (by simp)
  cases hb
  have h0 : w.cell? ⟨b, off, none⟩ = some (.int .u8 254) := hcell 0 254 rfl
  have HC : Hid (∀ (k : Nat) (c : UInt8), r[k]? = some c → w.cell? ⟨b, off + 1 + k, none⟩ = some (bv c)) := fun k c h => by
    have := hcell (k + 1) c (by simpa using h)
    rw [show off + (k + 1) = off + 1 + k by omega] at this
    exact this
  unfold maxLen at hcp
  clear hcell
  have t1 : (4 : Int) < (r.length : Int) + 1 := by omega
  have t2 : ¬ cp = 1 := by omega
  have t3 : 5 ≤ cp := by omega
  have HG : Hid (Tlv.getN (254 :: r) = if Tlv.val (r.take 4) < 65536 then (0, 0, 50) else (Tlv.val (r.take 4), 5, 0)) := by
    have e : Tlv.getN (254 :: r) = if Tlv.more 254 = 0 then ((254 : UInt8).toNat, 1, 0) else if r.length < Tlv.more 254 then (0, 0, 51) else if Tlv.val (r.take (Tlv.more 254)) < Tlv.least (Tlv.more 254) then (0, 0, 50) else (Tlv.val (r.take (Tlv.more 254)), 1 + Tlv.more 254, 0) := rfl
    have m' : Tlv.more 254 = 4 := rfl
    rw [m', if_neg (show ¬ ((4 : Nat) = 0) by omega), if_neg (show ¬ (r.length < 4) by omega)] at e
    exact e
  go_enter Tryd.func50, Tryd.ntmps50
  go_wp2
  go_loop [7, 9, 45] (fun x _ j => ∃ (t : Nat) (y : Int), t ≤ 4 ∧ j = .int .i64 t ∧ x = .int .u64 y ∧ Hid (y = (Tlv.val (r.take t) : Int))) (fun _ _ j => 4 - (intOf j).toNat)
  case atStart => exact ⟨0, 0, by omega, rfl, rfl, by simp [Hid, Tlv.val]⟩
  case round =>
    obtain ⟨t, y, ht, rfl, rfl, hy⟩ := hrel
    have hy0 : 0 ≤ y := by have := hy.out; omega
    by_cases hlt : t < 4
    · have hy1 : y < 72057594037927936 := by have := hy.out; have := val_take_lt r t (by omega); omega
      obtain ⟨d, hd⟩ : ∃ d, r[t]? = some d := ⟨_, List.getElem?_eq_getElem (by omega)⟩
      have hcd := HC.out t d hd
      unfold bv at hcd
      have hd1 : (d.toNat : Int) < 256 := by have := d.toNat_lt; omega
      have hnx := val_take_succ r t d hd
      have HN : Hid (y * 256 + (d.toNat : Int) = (Tlv.val (r.take (t + 1)) : Int)) := by have := hy.out; show _ = _; rw [hnx, this]; omega
      have hor := or_byte y d.toNat hy0 hy1 (by omega) hd1
      obtain ⟨z, hz⟩ : ∃ z : Int, (d.toNat : Int) = z := ⟨_, rfl⟩
      rw [hz] at hcd hor HN hd1
      clear hd hnx hz
      go_wp2
      go_round
      case rel => exact ⟨t + 1, y * 256 + z, by omega, by go_num, rfl, HN⟩
      case measure => simp [intOf]; omega
    · obtain rfl : t = 4 := by omega
      by_cases hle : y < 65536
      · have HF : Hid (Tlv.getN (254 :: r) = (0, 0, 50)) := by have := hy.out; show _ = _; rw [HG.out, if_pos (by omega)]
        go_wp2
        go_ret3
        rw [HF.out]
        exact get_post rfl rfl rfl
      · have HF : Hid (Tlv.getN (254 :: r) = (Tlv.val (r.take 4), 5, 0)) := by have := hy.out; show _ = _; rw [HG.out, if_neg (by omega)]
        have hle' : 65536 ≤ y := by omega
        go_wp2
        go_ret3
        rw [HF.out]
        exact get_post hy.out rfl rfl
set_option maxRecDepth 100000 in
set_option maxHeartbeats 2000000 in
theorem get_short8 (b off cp : Nat) (r : List UInt8) (w : World) (hl : r.length + 1 ≤ maxLen) (hs : Src w (some ⟨b, off, none⟩) (255 :: r)) (hm : r.length < 8) : Calls Tryd.prog 50 #[.slice (some ⟨b, off, none⟩) (r.length + 1) cp] w (GetPost (Tlv.getN (255 :: r)) w) := by
  obtain ⟨b', off', hb, hcell⟩ := hs.resolve_left (by simp)
  cases hb
  have h0 : w.cell? ⟨b, off, none⟩ = some (.int .u8 255) := hcell 0 255 rfl
  unfold maxLen at hl
  clear hcell
  have t1 : (r.length : Int) + 1 ≤ 8 := by omega
  have HM := Lib.hid (show Tlv.getN (255 :: r) = (0, 0, 51) by simp [Tlv.getN, Tlv.more_255, hm])
  go_enter Tryd.func50, Tryd.ntmps50
  go_wp2
  go_ret3
  rw [HM.out]
  exact get_post rfl rfl rfl
set_option maxRecDepth 100000 in
set_option maxHeartbeats 4000000 in
theorem get_long8 (b off cp : Nat) (r : List UInt8) (w : World) (hl : r.length + 1 ≤ cp) (hcp : cp ≤ maxLen) (hs : Src w (some ⟨b, off, none⟩) (255 :: r)) (hm : 8 ≤ r.length) : Calls Tryd.prog 50 #[.slice (some ⟨b, off, none⟩) (r.length + 1) cp] w (GetPost (Tlv.getN (255 :: r)) w) := by
  obtain ⟨b', off', hb, hcell⟩ := hs.resolve_left (by simp)
  cases hb
  have h0 : w.cell? ⟨b, off, none⟩ = some (.int .u8 255) := hcell 0 255 rfl
  have HC : Hid (∀ (k : Nat) (c : UInt8), r[k]? = some c → w.cell? ⟨b, off + 1 + k, none⟩ = some (bv c)) := fun k c h => by
    have := hcell (k + 1) c (by simpa using h)
    rw [show off + (k + 1) = off + 1 + k by omega] at this
    exact this
  unfold maxLen at hcp
  clear hcell
  have t1 : (8 : Int) < (r.length : Int) + 1 := by omega
  have t2 : ¬ cp = 1 := by omega
  have t3 : 9 ≤ cp := by omega
  have HG : Hid (Tlv.getN (255 :: r) = if Tlv.val (r.take 8) < 4294967296 then (0, 0, 50) else (Tlv.val (r.take 8), 9, 0)) := by
    have e : Tlv.getN (255 :: r) = if Tlv.more 255 = 0 then ((255 : UInt8).toNat, 1, 0) else if r.length < Tlv.more 255 then (0, 0, 51) else if Tlv.val (r.take (Tlv.more 255)) < Tlv.least (Tlv.more 255) then (0, 0, 50) else (Tlv.val (r.take (Tlv.more 255)), 1 + Tlv.more 255, 0) := rfl
    have m' : Tlv.more 255 = 8 := rfl
    rw [m', if_neg (show ¬ ((8 : Nat) = 0) by omega), if_neg (show ¬ (r.length < 8) by omega)] at e
    exact e
  go_enter Tryd.func50, Tryd.ntmps50
  go_wp2
  go_loop [7, 9, 45] (fun x _ j => ∃ (t : Nat) (y : Int), t ≤ 8 ∧ j = .int .i64 t ∧ x = .int .u64 y ∧ Hid (y = (Tlv.val (r.take t) : Int))) (fun _ _ j => 8 - (intOf j).toNat)
  case atStart => exact ⟨0, 0, by omega, rfl, rfl, by simp [Hid, Tlv.val]⟩
  case round =>
    obtain ⟨t, y, ht, rfl, rfl, hy⟩ := hrel
    have hy0 : 0 ≤ y := by have := hy.out; omega
    by_cases hlt : t < 8
    · have hy1 : y < 72057594037927936 := by have := hy.out; have := val_take_lt r t (by omega); omega
      obtain ⟨d, hd⟩ : ∃ d, r[t]? = some d := ⟨_, List.getElem?_eq_getElem (by omega)⟩
      have hcd := HC.out t d hd
      unfold bv at hcd
      have hd1 : (d.toNat : Int) < 256 := by have := d.toNat_lt; omega
      have hnx := val_take_succ r t d hd
      have HN : Hid (y * 256 + (d.toNat : Int) = (Tlv.val (r.take (t + 1)) : Int)) := by have := hy.out; show _ = _; rw [hnx, this]; omega
      have hor := or_byte y d.toNat hy0 hy1 (by omega) hd1
      obtain ⟨z, hz⟩ : ∃ z : Int, (d.toNat : Int) = z := ⟨_, rfl⟩
      rw [hz] at hcd hor HN hd1
      clear hd hnx hz
      go_wp2
      go_round
      case rel => exact ⟨t + 1, y * 256 + z, by omega, by go_num, rfl, HN⟩
      case measure => simp [intOf]; omega
    · obtain rfl : t = 8 := by omega
      by_cases hle : y < 4294967296
      · have HF : Hid (Tlv.getN (255 :: r) = (0, 0, 50)) := by have := hy.out; show _ = _; rw [HG.out, if_pos (by omega)]
        go_wp2
        go_ret3
        rw [HF.out]
        exact get_post rfl rfl rfl
      · have HF : Hid (Tlv.getN (255 :: r) = (Tlv.val (r.take 8), 9, 0)) := by have := hy.out; show _ = _; rw [HG.out, if_neg (by omega)]
        have hle' : 4294967296 ≤ y := by omega
        go_wp2
        go_ret3
        rw [HF.out]
        exact get_post hy.out rfl rfl
theorem get_any (a : Option Addr) (l : List UInt8) (cp : Nat) (w : World) (hl : l.length ≤ cp) (hcp : cp ≤ maxLen) (hs : Src w a l) : Calls Tryd.prog 50 #[.slice a l.length cp] w (GetPost (Tlv.getN l) w) := by
  cases l with
  | nil => exact get_nil a cp w
  | cons c r =>
    have hs' := hs
    obtain ⟨b, off, rfl, _⟩ := hs.resolve_left (by simp)
    simp only [List.length_cons] at hl ⊢
    rcases Tlv.more_cases c with ⟨hm, hc⟩ | ⟨rfl, hm⟩ | ⟨rfl, hm⟩ | ⟨rfl, hm⟩
    · exact get_one b off cp c r w (by omega) hs' hm hc
    · by_cases h : r.length < 2
      · exact get_short2 b off cp r w (by omega) hs' h
      · exact get_long2 b off cp r w hl hcp hs' (by omega)
    · by_cases h : r.length < 4
      · exact get_short4 b off cp r w (by omega) hs' h
      · exact get_long4 b off cp r w hl hcp hs' (by omega)
    · by_cases h : r.length < 8
      · exact get_short8 b off cp r w (by omega) hs' h
      · exact get_long8 b off cp r w hl hcp hs' (by omega)
end Go.Proofs.YtakfhoodjcfpcaaDoor.T
