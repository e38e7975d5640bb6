/- tlv: the document's Put. -/
import Derived.Test.YtakfhoodjcfpcaaDoorTlB
namespace Go.Proofs.YtakfhoodjcfpcaaDoor.T
open Go.RowKit
theorem byt_of {w : World} {base : Nat} {v : Value} {l : List UInt8} {n : Nat} {xs : List Value} (h : w.ownsRow base 5 1 v n xs) (hn : n = l.length) (hx : xs = l.map bv) : Byt w base v l := by subst hn hx; exact h
theorem be_next {A l : List UInt8} {m n : Nat} {x : UInt8} (h : A = l ++ Tlv.be (m + 1) n) (hx : UInt8.ofNat (n / 256 ^ m) = x) : A = (l ++ [x]) ++ Tlv.be m n := by
  rw [h, Tlv.be, hx]; simp

set_option maxRecDepth 100000 in
set_option maxHeartbeats 4000000 in
theorem putr_a (n : Int) (h0 : 0 ≤ n)  (hu : n < 253) (w : World) : Calls Tryd.prog 31 #[.int .u64 n] w (NewPost w ([] ++ Tlv.be 1 n.toNat)) := by
  obtain ⟨i0, hi0, hz0, hz1, hz2⟩ := info_parts Tryd.info5
  have t0 : decide ((253 : Int) ≤ n) = false := by simp; omega
  have t1 : decide ((65536 : Int) ≤ n) = false := by simp; omega
  have t2 : decide ((4294967296 : Int) ≤ n) = false := by simp; omega
  go_enter Tryd.func31, Tryd.ntmps31
  go_wp2
  go_loopw [5, 6] (fun v' i wr => ∃ (k : Nat) (l : List UInt8), k ≤ 1 ∧ i = .int .i64 ((k : Int) - 1) ∧ l.length = ([] : List UInt8).length + (1 - k) ∧ Hid ([] ++ Tlv.be 1 n.toNat = l ++ Tlv.be k n.toNat) ∧ Hid (Byt wr w.heap.size v' l) ∧ Hid (w.grownBy wr (Value.slice none 0 0).ownBlock) ∧ Hid (v'.ownBlock = (Value.slice none 0 0).ownBlock ∨ ∃ g, v'.ownBlock = some g ∧ w.heap.size ≤ g)) (fun _ i _ => (intOf i + 1).toNat)
  case atStart => exact ⟨1, [], Nat.le_refl _, by go_num, by simp, rfl, byt_nil _ _, World.grownBy.refl _ _, .inl rfl⟩
  case round =>
    obtain ⟨k, l, hk, rfl, hl, hE, hBl, hG, hO⟩ := hrel
    obtain ⟨a0, c0, rfl⟩ := own_slice hBl.out
    have hz : w.heap.size ≤ wr.heap.size := hG.out.size
    by_cases hk0 : k = 0
    · subst hk0
      have HN := Lib.hid hE.out
      go_wp2
      go_ret
      refine ⟨_, rfl, ?_, (Below.refl _ _).grown hG.out (Nat.le_refl _) (fun k hk => by cases hk)⟩
      have e : [] ++ Tlv.be 1 n.toNat = l := HN.out.trans (List.append_nil l)
      show Byt _ _ _ ([] ++ Tlv.be 1 n.toNat)
      rw [e]; exact hBl.out
    · obtain ⟨m, rfl⟩ : ∃ m, k = m + 1 := ⟨k - 1, by omega⟩
      have hq : Hid (IntKind.u8.wrap (n / (((256 ^ m : Nat)) : Int)) = ((UInt8.ofNat (n.toNat / 256 ^ m)).toNat : Int)) := put_byte n h0 m _ rfl
      obtain ⟨x, hx⟩ : ∃ x : UInt8, UInt8.ofNat (n.toNat / 256 ^ m) = x := ⟨_, rfl⟩
      have HX := Lib.hid hx
      rw [hx] at hq
      clear hx
      have HM : Hid (m = 0) := by show m = 0; omega
      have hnext : Hid ([] ++ Tlv.be 1 n.toNat = (l ++ [x]) ++ Tlv.be m n.toNat) := be_next hE.out HX.out
      have hll : l.length ≤ 16 := by have z0 : ([] : List UInt8).length = 0 := rfl; omega
      have HL := Lib.hid hl; clear hl
      rcases HM.out with rfl
      · have hv : IntKind.u8.wrap (n) = (x.toNat : Int) := (by have := hq.out; rw [show ((256 ^ 0 : Nat) : Int) = 1 from rfl, Int.ediv_one] at this; exact this)
        go_wp2_with (at_builtin; refine wpList_append_lies _ rfl _ _ _ rfl w.heap.size 5 i0 _ 1 1 Tryd.underlying33 hi0 hz0 hz1 hz2 rfl (by omega) (.slice a0 l.length c0) l.length (l.map bv) rfl (World.ownsRow.alloc hBl.out _) ⟨wr.heap.size, 0, none⟩ 1 1 [bv x] rfl rfl (World.news_of_block (cs := #[bv x]) (t := 5) (fr := (0, 0)) (heap_alloc_at wr _)) (by simp [bv, Value.oneCell']) (by omega) (by unfold maxLen; omega) (by omega) (by first | (simp; done) | (simp; omega)) (wr.heap.size + 1) (by simp) ?_; intro g cap w2 hown2 hgrow2 hat2 hlt2; have HO2 := Lib.hid hown2; have HG2 := Lib.hid hgrow2; have HA2 := Lib.hid hat2; clear hown2 hgrow2 hat2)
        go_roundw
        case rel => exact put_next 0 n 1 l x _ (by omega) hk HL.out hnext.out hG.out hO.out hz HO2.out HG2.out HA2.out
        case measure => simp [intOf]
set_option maxRecDepth 100000 in
set_option maxHeartbeats 4000000 in
theorem putr_b (n : Int) (h0 : 0 ≤ n) (g0 : 253 ≤ n) (hu : n < 65536) (w : World) : Calls Tryd.prog 31 #[.int .u64 n] w (NewPost w ([253] ++ Tlv.be 2 n.toNat)) := by
  obtain ⟨i0, hi0, hz0, hz1, hz2⟩ := info_parts Tryd.info5
  have t0 : decide ((253 : Int) ≤ n) = true := by simp; omega
  have t1 : decide ((65536 : Int) ≤ n) = false := by simp; omega
  have t2 : decide ((4294967296 : Int) ≤ n) = false := by simp; omega
  go_enter Tryd.func31, Tryd.ntmps31
  go_wp2_with (at_builtin; refine wpList_append_lies _ rfl _ _ _ rfl w.heap.size 5 i0 _ 1 1 Tryd.underlying33 hi0 hz0 hz1 hz2 rfl (by omega) (.slice none 0 0) 0 ([]) rfl ((World.ownsRow_nil _ _ _ _)) ⟨w.heap.size, 0, none⟩ 1 1 [bv 253] rfl rfl (World.news_of_block (cs := #[bv 253]) (t := 5) (fr := (0, 0)) (heap_alloc_at w _)) (by simp [bv, Value.oneCell']) (by omega) (by unfold maxLen; omega) (by omega) (by first | (simp; done) | (simp; omega)) (w.heap.size + 1) (by simp) ?_; intro g cap w1 hown1 hgrow1 hat1 _hlt1; have HO1 := Lib.hid hown1; have HG1 := Lib.hid hgrow1; have HA1 := Lib.hid hat1; clear hown1 hgrow1 hat1)
  go_loopw [5, 6] (fun v' i wr => ∃ (k : Nat) (l : List UInt8), k ≤ 2 ∧ i = .int .i64 ((k : Int) - 1) ∧ l.length = ([253] : List UInt8).length + (2 - k) ∧ Hid ([253] ++ Tlv.be 2 n.toNat = l ++ Tlv.be k n.toNat) ∧ Hid (Byt wr w.heap.size v' l) ∧ Hid (w.grownBy wr (Value.slice none 0 0).ownBlock) ∧ Hid (v'.ownBlock = (Value.slice none 0 0).ownBlock ∨ ∃ g, v'.ownBlock = some g ∧ w.heap.size ≤ g)) (fun _ i _ => (intOf i + 1).toNat)
  case atStart => exact ⟨2, [253], Nat.le_refl _, by go_num, by simp, rfl, byt_of HO1.out rfl rfl, grown_alloc _ HG1.out, .inr ⟨_, rfl, (HA1.out.resolve_left (fun e => by cases e)).symm ▸ Nat.le_succ _⟩⟩
  case round =>
    obtain ⟨k, l, hk, rfl, hl, hE, hBl, hG, hO⟩ := hrel
    obtain ⟨a0, c0, rfl⟩ := own_slice hBl.out
    have hz : w.heap.size ≤ wr.heap.size := hG.out.size
    by_cases hk0 : k = 0
    · subst hk0
      have HN := Lib.hid hE.out
      go_wp2
      go_ret
      refine ⟨_, rfl, ?_, (Below.refl _ _).grown hG.out (Nat.le_refl _) (fun k hk => by cases hk)⟩
      have e : [253] ++ Tlv.be 2 n.toNat = l := HN.out.trans (List.append_nil l)
      show Byt _ _ _ ([253] ++ Tlv.be 2 n.toNat)
      rw [e]; exact hBl.out
    · obtain ⟨m, rfl⟩ : ∃ m, k = m + 1 := ⟨k - 1, by omega⟩
      have hq : Hid (IntKind.u8.wrap (n / (((256 ^ m : Nat)) : Int)) = ((UInt8.ofNat (n.toNat / 256 ^ m)).toNat : Int)) := put_byte n h0 m _ rfl
      obtain ⟨x, hx⟩ : ∃ x : UInt8, UInt8.ofNat (n.toNat / 256 ^ m) = x := ⟨_, rfl⟩
      have HX := Lib.hid hx
      rw [hx] at hq
      clear hx
      have HM : Hid (m = 0 ∨ m = 1) := by show m = 0 ∨ m = 1; omega
      have hnext : Hid ([253] ++ Tlv.be 2 n.toNat = (l ++ [x]) ++ Tlv.be m n.toNat) := be_next hE.out HX.out
      have hll : l.length ≤ 16 := by have z0 : ([253] : List UInt8).length = 1 := rfl; omega
      have HL := Lib.hid hl; clear hl
      rcases HM.out with rfl | rfl
      · have hv : IntKind.u8.wrap (n) = (x.toNat : Int) := (by have := hq.out; rw [show ((256 ^ 0 : Nat) : Int) = 1 from rfl, Int.ediv_one] at this; exact this)
        go_wp2_with (at_builtin; refine wpList_append_lies _ rfl _ _ _ rfl w.heap.size 5 i0 _ 1 1 Tryd.underlying33 hi0 hz0 hz1 hz2 rfl (by omega) (.slice a0 l.length c0) l.length (l.map bv) rfl (World.ownsRow.alloc hBl.out _) ⟨wr.heap.size, 0, none⟩ 1 1 [bv x] rfl rfl (World.news_of_block (cs := #[bv x]) (t := 5) (fr := (0, 0)) (heap_alloc_at wr _)) (by simp [bv, Value.oneCell']) (by omega) (by unfold maxLen; omega) (by omega) (by first | (simp; done) | (simp; omega)) (wr.heap.size + 1) (by simp) ?_; intro g cap w2 hown2 hgrow2 hat2 hlt2; have HO2 := Lib.hid hown2; have HG2 := Lib.hid hgrow2; have HA2 := Lib.hid hat2; clear hown2 hgrow2 hat2)
        go_roundw
        case rel => exact put_next 0 n 2 l x _ (by omega) hk HL.out hnext.out hG.out hO.out hz HO2.out HG2.out HA2.out
        case measure => simp [intOf]
      · have hv : IntKind.u8.wrap (n / 256) = (x.toNat : Int) := hq.out
        go_wp2_with (at_builtin; refine wpList_append_lies _ rfl _ _ _ rfl w.heap.size 5 i0 _ 1 1 Tryd.underlying33 hi0 hz0 hz1 hz2 rfl (by omega) (.slice a0 l.length c0) l.length (l.map bv) rfl (World.ownsRow.alloc hBl.out _) ⟨wr.heap.size, 0, none⟩ 1 1 [bv x] rfl rfl (World.news_of_block (cs := #[bv x]) (t := 5) (fr := (0, 0)) (heap_alloc_at wr _)) (by simp [bv, Value.oneCell']) (by omega) (by unfold maxLen; omega) (by omega) (by first | (simp; done) | (simp; omega)) (wr.heap.size + 1) (by simp) ?_; intro g cap w2 hown2 hgrow2 hat2 hlt2; have HO2 := Lib.hid hown2; have HG2 := Lib.hid hgrow2; have HA2 := Lib.hid hat2; clear hown2 hgrow2 hat2)
        go_roundw
        case rel => exact put_next 1 n 2 l x _ (by omega) hk HL.out hnext.out hG.out hO.out hz HO2.out HG2.out HA2.out
        case measure => simp [intOf]
set_option maxRecDepth 100000 in
set_option maxHeartbeats 4000000 in
theorem putr_c (n : Int) (h0 : 0 ≤ n) (g0 : 253 ≤ n) (g1 : 65536 ≤ n) (hu : n < 4294967296) (w : World) : Calls Tryd.prog 31 #[.int .u64 n] w (NewPost w ([254] ++ Tlv.be 4 n.toNat)) := by
  obtain ⟨i0, hi0, hz0, hz1, hz2⟩ := info_parts Tryd.info5
  have t0 : decide ((253 : Int) ≤ n) = true := by simp; omega
  have t1 : decide ((65536 : Int) ≤ n) = true := by simp; omega
  have t2 : decide ((4294967296 : Int) ≤ n) = false := by simp; omega
  go_enter Tryd.func31, Tryd.ntmps31
  go_wp2_with (at_builtin; refine wpList_append_lies _ rfl _ _ _ rfl w.heap.size 5 i0 _ 1 1 Tryd.underlying33 hi0 hz0 hz1 hz2 rfl (by omega) (.slice none 0 0) 0 ([]) rfl ((World.ownsRow_nil _ _ _ _)) ⟨w.heap.size, 0, none⟩ 1 1 [bv 254] rfl rfl (World.news_of_block (cs := #[bv 254]) (t := 5) (fr := (0, 0)) (heap_alloc_at w _)) (by simp [bv, Value.oneCell']) (by omega) (by unfold maxLen; omega) (by omega) (by first | (simp; done) | (simp; omega)) (w.heap.size + 1) (by simp) ?_; intro g cap w1 hown1 hgrow1 hat1 _hlt1; have HO1 := Lib.hid hown1; have HG1 := Lib.hid hgrow1; have HA1 := Lib.hid hat1; clear hown1 hgrow1 hat1)
  go_loopw [5, 6] (fun v' i wr => ∃ (k : Nat) (l : List UInt8), k ≤ 4 ∧ i = .int .i64 ((k : Int) - 1) ∧ l.length = ([254] : List UInt8).length + (4 - k) ∧ Hid ([254] ++ Tlv.be 4 n.toNat = l ++ Tlv.be k n.toNat) ∧ Hid (Byt wr w.heap.size v' l) ∧ Hid (w.grownBy wr (Value.slice none 0 0).ownBlock) ∧ Hid (v'.ownBlock = (Value.slice none 0 0).ownBlock ∨ ∃ g, v'.ownBlock = some g ∧ w.heap.size ≤ g)) (fun _ i _ => (intOf i + 1).toNat)
  case atStart => exact ⟨4, [254], Nat.le_refl _, by go_num, by simp, rfl, byt_of HO1.out rfl rfl, grown_alloc _ HG1.out, .inr ⟨_, rfl, (HA1.out.resolve_left (fun e => by cases e)).symm ▸ Nat.le_succ _⟩⟩
  case round =>
    obtain ⟨k, l, hk, rfl, hl, hE, hBl, hG, hO⟩ := hrel
    obtain ⟨a0, c0, rfl⟩ := own_slice hBl.out
    have hz : w.heap.size ≤ wr.heap.size := hG.out.size
    by_cases hk0 : k = 0
    · subst hk0
      have HN := Lib.hid hE.out
      go_wp2
      go_ret
      refine ⟨_, rfl, ?_, (Below.refl _ _).grown hG.out (Nat.le_refl _) (fun k hk => by cases hk)⟩
      have e : [254] ++ Tlv.be 4 n.toNat = l := HN.out.trans (List.append_nil l)
      show Byt _ _ _ ([254] ++ Tlv.be 4 n.toNat)
      rw [e]; exact hBl.out
    · obtain ⟨m, rfl⟩ : ∃ m, k = m + 1 := ⟨k - 1, by omega⟩
      have hq : Hid (IntKind.u8.wrap (n / (((256 ^ m : Nat)) : Int)) = ((UInt8.ofNat (n.toNat / 256 ^ m)).toNat : Int)) := put_byte n h0 m _ rfl
      obtain ⟨x, hx⟩ : ∃ x : UInt8, UInt8.ofNat (n.toNat / 256 ^ m) = x := ⟨_, rfl⟩
      have HX := Lib.hid hx
      rw [hx] at hq
      clear hx
      have HM : Hid (m = 0 ∨ m = 1 ∨ m = 2 ∨ m = 3) := by show m = 0 ∨ m = 1 ∨ m = 2 ∨ m = 3; omega
      have hnext : Hid ([254] ++ Tlv.be 4 n.toNat = (l ++ [x]) ++ Tlv.be m n.toNat) := be_next hE.out HX.out
      have hll : l.length ≤ 16 := by have z0 : ([254] : List UInt8).length = 1 := rfl; omega
      have HL := Lib.hid hl; clear hl
      rcases HM.out with rfl | rfl | rfl | rfl
      · have hv : IntKind.u8.wrap (n) = (x.toNat : Int) := (by have := hq.out; rw [show ((256 ^ 0 : Nat) : Int) = 1 from rfl, Int.ediv_one] at this; exact this)
        go_wp2_with (at_builtin; refine wpList_append_lies _ rfl _ _ _ rfl w.heap.size 5 i0 _ 1 1 Tryd.underlying33 hi0 hz0 hz1 hz2 rfl (by omega) (.slice a0 l.length c0) l.length (l.map bv) rfl (World.ownsRow.alloc hBl.out _) ⟨wr.heap.size, 0, none⟩ 1 1 [bv x] rfl rfl (World.news_of_block (cs := #[bv x]) (t := 5) (fr := (0, 0)) (heap_alloc_at wr _)) (by simp [bv, Value.oneCell']) (by omega) (by unfold maxLen; omega) (by omega) (by first | (simp; done) | (simp; omega)) (wr.heap.size + 1) (by simp) ?_; intro g cap w2 hown2 hgrow2 hat2 hlt2; have HO2 := Lib.hid hown2; have HG2 := Lib.hid hgrow2; have HA2 := Lib.hid hat2; clear hown2 hgrow2 hat2)
        go_roundw
        case rel => exact put_next 0 n 4 l x _ (by omega) hk HL.out hnext.out hG.out hO.out hz HO2.out HG2.out HA2.out
        case measure => simp [intOf]
      · have hv : IntKind.u8.wrap (n / 256) = (x.toNat : Int) := hq.out
        go_wp2_with (at_builtin; refine wpList_append_lies _ rfl _ _ _ rfl w.heap.size 5 i0 _ 1 1 Tryd.underlying33 hi0 hz0 hz1 hz2 rfl (by omega) (.slice a0 l.length c0) l.length (l.map bv) rfl (World.ownsRow.alloc hBl.out _) ⟨wr.heap.size, 0, none⟩ 1 1 [bv x] rfl rfl (World.news_of_block (cs := #[bv x]) (t := 5) (fr := (0, 0)) (heap_alloc_at wr _)) (by simp [bv, Value.oneCell']) (by omega) (by unfold maxLen; omega) (by omega) (by first | (simp; done) | (simp; omega)) (wr.heap.size + 1) (by simp) ?_; intro g cap w2 hown2 hgrow2 hat2 hlt2; have HO2 := Lib.hid hown2; have HG2 := Lib.hid hgrow2; have HA2 := Lib.hid hat2; clear hown2 hgrow2 hat2)
        go_roundw
        case rel => exact put_next 1 n 4 l x _ (by omega) hk HL.out hnext.out hG.out hO.out hz HO2.out HG2.out HA2.out
        case measure => simp [intOf]
      · have hv : IntKind.u8.wrap (n / 65536) = (x.toNat : Int) := hq.out
        go_wp2_with (at_builtin; refine wpList_append_lies _ rfl _ _ _ rfl w.heap.size 5 i0 _ 1 1 Tryd.underlying33 hi0 hz0 hz1 hz2 rfl (by omega) (.slice a0 l.length c0) l.length (l.map bv) rfl (World.ownsRow.alloc hBl.out _) ⟨wr.heap.size, 0, none⟩ 1 1 [bv x] rfl rfl (World.news_of_block (cs := #[bv x]) (t := 5) (fr := (0, 0)) (heap_alloc_at wr _)) (by simp [bv, Value.oneCell']) (by omega) (by unfold maxLen; omega) (by omega) (by first | (simp; done) | (simp; omega)) (wr.heap.size + 1) (by simp) ?_; intro g cap w2 hown2 hgrow2 hat2 hlt2; have HO2 := Lib.hid hown2; have HG2 := Lib.hid hgrow2; have HA2 := Lib.hid hat2; clear hown2 hgrow2 hat2)
        go_roundw
        case rel => exact put_next 2 n 4 l x _ (by omega) hk HL.out hnext.out hG.out hO.out hz HO2.out HG2.out HA2.out
        case measure => simp [intOf]
      · have hv : IntKind.u8.wrap (n / 16777216) = (x.toNat : Int) := hq.out
        go_wp2_with (at_builtin; refine wpList_append_lies _ rfl _ _ _ rfl w.heap.size 5 i0 _ 1 1 Tryd.underlying33 hi0 hz0 hz1 hz2 rfl (by omega) (.slice a0 l.length c0) l.length (l.map bv) rfl (World.ownsRow.alloc hBl.out _) ⟨wr.heap.size, 0, none⟩ 1 1 [bv x] rfl rfl (World.news_of_block (cs := #[bv x]) (t := 5) (fr := (0, 0)) (heap_alloc_at wr _)) (by simp [bv, Value.oneCell']) (by omega) (by unfold maxLen; omega) (by omega) (by first | (simp; done) | (simp; omega)) (wr.heap.size + 1) (by simp) ?_; intro g cap w2 hown2 hgrow2 hat2 hlt2; have HO2 := Lib.hid hown2; have HG2 := Lib.hid hgrow2; have HA2 := Lib.hid hat2; clear hown2 hgrow2 hat2)
        go_roundw
        case rel => exact put_next 3 n 4 l x _ (by omega) hk HL.out hnext.out hG.out hO.out hz HO2.out HG2.out HA2.out
        case measure => simp [intOf]
set_option maxRecDepth 100000 in
set_option maxHeartbeats 4000000 in
theorem putr_d (n : Int) (h0 : 0 ≤ n) (g0 : 253 ≤ n) (g1 : 65536 ≤ n) (g2 : 4294967296 ≤ n) (w : World) : Calls Tryd.prog 31 #[.int .u64 n] w (NewPost w ([255] ++ Tlv.be 8 n.toNat)) := by
  obtain ⟨i0, hi0, hz0, hz1, hz2⟩ := info_parts Tryd.info5
  have t0 : decide ((253 : Int) ≤ n) = true := by simp; omega
  have t1 : decide ((65536 : Int) ≤ n) = true := by simp; omega
  have t2 : decide ((4294967296 : Int) ≤ n) = true := by simp; omega
  go_enter Tryd.func31, Tryd.ntmps31
  go_wp2_with (at_builtin; refine wpList_append_lies _ rfl _ _ _ rfl w.heap.size 5 i0 _ 1 1 Tryd.underlying33 hi0 hz0 hz1 hz2 rfl (by omega) (.slice none 0 0) 0 ([]) rfl ((World.ownsRow_nil _ _ _ _)) ⟨w.heap.size, 0, none⟩ 1 1 [bv 255] rfl rfl (World.news_of_block (cs := #[bv 255]) (t := 5) (fr := (0, 0)) (heap_alloc_at w _)) (by simp [bv, Value.oneCell']) (by omega) (by unfold maxLen; omega) (by omega) (by first | (simp; done) | (simp; omega)) (w.heap.size + 1) (by simp) ?_; intro g cap w1 hown1 hgrow1 hat1 _hlt1; have HO1 := Lib.hid hown1; have HG1 := Lib.hid hgrow1; have HA1 := Lib.hid hat1; clear hown1 hgrow1 hat1)
  go_loopw [5, 6] (fun v' i wr => ∃ (k : Nat) (l : List UInt8), k ≤ 8 ∧ i = .int .i64 ((k : Int) - 1) ∧ l.length = ([255] : List UInt8).length + (8 - k) ∧ Hid ([255] ++ Tlv.be 8 n.toNat = l ++ Tlv.be k n.toNat) ∧ Hid (Byt wr w.heap.size v' l) ∧ Hid (w.grownBy wr (Value.slice none 0 0).ownBlock) ∧ Hid (v'.ownBlock = (Value.slice none 0 0).ownBlock ∨ ∃ g, v'.ownBlock = some g ∧ w.heap.size ≤ g)) (fun _ i _ => (intOf i + 1).toNat)
  case atStart => exact ⟨8, [255], Nat.le_refl _, by go_num, by simp, rfl, byt_of HO1.out rfl rfl, grown_alloc _ HG1.out, .inr ⟨_, rfl, (HA1.out.resolve_left (fun e => by cases e)).symm ▸ Nat.le_succ _⟩⟩
  case round =>
    obtain ⟨k, l, hk, rfl, hl, hE, hBl, hG, hO⟩ := hrel
    obtain ⟨a0, c0, rfl⟩ := own_slice hBl.out
    have hz : w.heap.size ≤ wr.heap.size := hG.out.size
    by_cases hk0 : k = 0
    · subst hk0
      have HN := Lib.hid hE.out
      go_wp2
      go_ret
      refine ⟨_, rfl, ?_, (Below.refl _ _).grown hG.out (Nat.le_refl _) (fun k hk => by cases hk)⟩
      have e : [255] ++ Tlv.be 8 n.toNat = l := HN.out.trans (List.append_nil l)
      show Byt _ _ _ ([255] ++ Tlv.be 8 n.toNat)
      rw [e]; exact hBl.out
    · obtain ⟨m, rfl⟩ : ∃ m, k = m + 1 := ⟨k - 1, by omega⟩
      have hq : Hid (IntKind.u8.wrap (n / (((256 ^ m : Nat)) : Int)) = ((UInt8.ofNat (n.toNat / 256 ^ m)).toNat : Int)) := put_byte n h0 m _ rfl
      obtain ⟨x, hx⟩ : ∃ x : UInt8, UInt8.ofNat (n.toNat / 256 ^ m) = x := ⟨_, rfl⟩
      have HX := Lib.hid hx
      rw [hx] at hq
      clear hx
      have HM : Hid (m = 0 ∨ m = 1 ∨ m = 2 ∨ m = 3 ∨ m = 4 ∨ m = 5 ∨ m = 6 ∨ m = 7) := by show m = 0 ∨ m = 1 ∨ m = 2 ∨ m = 3 ∨ m = 4 ∨ m = 5 ∨ m = 6 ∨ m = 7; omega
      have hnext : Hid ([255] ++ Tlv.be 8 n.toNat = (l ++ [x]) ++ Tlv.be m n.toNat) := be_next hE.out HX.out
      have hll : l.length ≤ 16 := by have z0 : ([255] : List UInt8).length = 1 := rfl; omega
      have HL := Lib.hid hl; clear hl
      rcases HM.out with rfl | rfl | rfl | rfl | rfl | rfl | rfl | rfl
      · have hv : IntKind.u8.wrap (n) = (x.toNat : Int) := (by have := hq.out; rw [show ((256 ^ 0 : Nat) : Int) = 1 from rfl, Int.ediv_one] at this; exact this)
        go_wp2_with (at_builtin; refine wpList_append_lies _ rfl _ _ _ rfl w.heap.size 5 i0 _ 1 1 Tryd.underlying33 hi0 hz0 hz1 hz2 rfl (by omega) (.slice a0 l.length c0) l.length (l.map bv) rfl (World.ownsRow.alloc hBl.out _) ⟨wr.heap.size, 0, none⟩ 1 1 [bv x] rfl rfl (World.news_of_block (cs := #[bv x]) (t := 5) (fr := (0, 0)) (heap_alloc_at wr _)) (by simp [bv, Value.oneCell']) (by omega) (by unfold maxLen; omega) (by omega) (by first | (simp; done) | (simp; omega)) (wr.heap.size + 1) (by simp) ?_; intro g cap w2 hown2 hgrow2 hat2 hlt2; have HO2 := Lib.hid hown2; have HG2 := Lib.hid hgrow2; have HA2 := Lib.hid hat2; clear hown2 hgrow2 hat2)
        go_roundw
        case rel => exact put_next 0 n 8 l x _ (by omega) hk HL.out hnext.out hG.out hO.out hz HO2.out HG2.out HA2.out
        case measure => simp [intOf]
      · have hv : IntKind.u8.wrap (n / 256) = (x.toNat : Int) := hq.out
        go_wp2_with (at_builtin; refine wpList_append_lies _ rfl _ _ _ rfl w.heap.size 5 i0 _ 1 1 Tryd.underlying33 hi0 hz0 hz1 hz2 rfl (by omega) (.slice a0 l.length c0) l.length (l.map bv) rfl (World.ownsRow.alloc hBl.out _) ⟨wr.heap.size, 0, none⟩ 1 1 [bv x] rfl rfl (World.news_of_block (cs := #[bv x]) (t := 5) (fr := (0, 0)) (heap_alloc_at wr _)) (by simp [bv, Value.oneCell']) (by omega) (by unfold maxLen; omega) (by omega) (by first | (simp; done) | (simp; omega)) (wr.heap.size + 1) (by simp) ?_; intro g cap w2 hown2 hgrow2 hat2 hlt2; have HO2 := Lib.hid hown2; have HG2 := Lib.hid hgrow2; have HA2 := Lib.hid hat2; clear hown2 hgrow2 hat2)
        go_roundw
        case rel => exact put_next 1 n 8 l x _ (by omega) hk HL.out hnext.out hG.out hO.out hz HO2.out HG2.out HA2.out
        case measure => simp [intOf]
      · have hv : IntKind.u8.wrap (n / 65536) = (x.toNat : Int) := hq.out
        go_wp2_with (at_builtin; refine wpList_append_lies _ rfl _ _ _ rfl w.heap.size 5 i0 _ 1 1 Tryd.underlying33 hi0 hz0 hz1 hz2 rfl (by omega) (.slice a0 l.length c0) l.length (l.map bv) rfl (World.ownsRow.alloc hBl.out _) ⟨wr.heap.size, 0, none⟩ 1 1 [bv x] rfl rfl (World.news_of_block (cs := #[bv x]) (t := 5) (fr := (0, 0)) (heap_alloc_at wr _)) (by simp [bv, Value.oneCell']) (by omega) (by unfold maxLen; omega) (by omega) (by first | (simp; done) | (simp; omega)) (wr.heap.size + 1) (by simp) ?_; intro g cap w2 hown2 hgrow2 hat2 hlt2; have HO2 := Lib.hid hown2; have HG2 := Lib.hid hgrow2; have HA2 := Lib.hid hat2; clear hown2 hgrow2 hat2)
        go_roundw
        case rel => exact put_next 2 n 8 l x _ (by omega) hk HL.out hnext.out hG.out hO.out hz HO2.out HG2.out HA2.out
        case measure => simp [intOf]
      · have hv : IntKind.u8.wrap (n / 16777216) = (x.toNat : Int) := hq.out
        go_wp2_with (at_builtin; refine wpList_append_lies _ rfl _ _ _ rfl w.heap.size 5 i0 _ 1 1 Tryd.underlying33 hi0 hz0 hz1 hz2 rfl (by omega) (.slice a0 l.length c0) l.length (l.map bv) rfl (World.ownsRow.alloc hBl.out _) ⟨wr.heap.size, 0, none⟩ 1 1 [bv x] rfl rfl (World.news_of_block (cs := #[bv x]) (t := 5) (fr := (0, 0)) (heap_alloc_at wr _)) (by simp [bv, Value.oneCell']) (by omega) (by unfold maxLen; omega) (by omega) (by first | (simp; done) | (simp; omega)) (wr.heap.size + 1) (by simp) ?_; intro g cap w2 hown2 hgrow2 hat2 hlt2; have HO2 := Lib.hid hown2; have HG2 := Lib.hid hgrow2; have HA2 := Lib.hid hat2; clear hown2 hgrow2 hat2)
        go_roundw
        case rel => exact put_next 3 n 8 l x _ (by omega) hk HL.out hnext.out hG.out hO.out hz HO2.out HG2.out HA2.out
        case measure => simp [intOf]
      · have hv : IntKind.u8.wrap (n / 4294967296) = (x.toNat : Int) := hq.out
        go_wp2_with (at_builtin; refine wpList_append_lies _ rfl _ _ _ rfl w.heap.size 5 i0 _ 1 1 Tryd.underlying33 hi0 hz0 hz1 hz2 rfl (by omega) (.slice a0 l.length c0) l.length (l.map bv) rfl (World.ownsRow.alloc hBl.out _) ⟨wr.heap.size, 0, none⟩ 1 1 [bv x] rfl rfl (World.news_of_block (cs := #[bv x]) (t := 5) (fr := (0, 0)) (heap_alloc_at wr _)) (by simp [bv, Value.oneCell']) (by omega) (by unfold maxLen; omega) (by omega) (by first | (simp; done) | (simp; omega)) (wr.heap.size + 1) (by simp) ?_; intro g cap w2 hown2 hgrow2 hat2 hlt2; have HO2 := Lib.hid hown2; have HG2 := Lib.hid hgrow2; have HA2 := Lib.hid hat2; clear hown2 hgrow2 hat2)
        go_roundw
        case rel => exact put_next 4 n 8 l x _ (by omega) hk HL.out hnext.out hG.out hO.out hz HO2.out HG2.out HA2.out
        case measure => simp [intOf]
      · have hv : IntKind.u8.wrap (n / 1099511627776) = (x.toNat : Int) := hq.out
        go_wp2_with (at_builtin; refine wpList_append_lies _ rfl _ _ _ rfl w.heap.size 5 i0 _ 1 1 Tryd.underlying33 hi0 hz0 hz1 hz2 rfl (by omega) (.slice a0 l.length c0) l.length (l.map bv) rfl (World.ownsRow.alloc hBl.out _) ⟨wr.heap.size, 0, none⟩ 1 1 [bv x] rfl rfl (World.news_of_block (cs := #[bv x]) (t := 5) (fr := (0, 0)) (heap_alloc_at wr _)) (by simp [bv, Value.oneCell']) (by omega) (by unfold maxLen; omega) (by omega) (by first | (simp; done) | (simp; omega)) (wr.heap.size + 1) (by simp) ?_; intro g cap w2 hown2 hgrow2 hat2 hlt2; have HO2 := Lib.hid hown2; have HG2 := Lib.hid hgrow2; have HA2 := Lib.hid hat2; clear hown2 hgrow2 hat2)
        go_roundw
        case rel => exact put_next 5 n 8 l x _ (by omega) hk HL.out hnext.out hG.out hO.out hz HO2.out HG2.out HA2.out
        case measure => simp [intOf]
      · have hv : IntKind.u8.wrap (n / 281474976710656) = (x.toNat : Int) := hq.out
        go_wp2_with (at_builtin; refine wpList_append_lies _ rfl _ _ _ rfl w.heap.size 5 i0 _ 1 1 Tryd.underlying33 hi0 hz0 hz1 hz2 rfl (by omega) (.slice a0 l.length c0) l.length (l.map bv) rfl (World.ownsRow.alloc hBl.out _) ⟨wr.heap.size, 0, none⟩ 1 1 [bv x] rfl rfl (World.news_of_block (cs := #[bv x]) (t := 5) (fr := (0, 0)) (heap_alloc_at wr _)) (by simp [bv, Value.oneCell']) (by omega) (by unfold maxLen; omega) (by omega) (by first | (simp; done) | (simp; omega)) (wr.heap.size + 1) (by simp) ?_; intro g cap w2 hown2 hgrow2 hat2 hlt2; have HO2 := Lib.hid hown2; have HG2 := Lib.hid hgrow2; have HA2 := Lib.hid hat2; clear hown2 hgrow2 hat2)
        go_roundw
        case rel => exact put_next 6 n 8 l x _ (by omega) hk HL.out hnext.out hG.out hO.out hz HO2.out HG2.out HA2.out
        case measure => simp [intOf]
      · have hv : IntKind.u8.wrap (n / 72057594037927936) = (x.toNat : Int) := hq.out
        go_wp2_with (at_builtin; refine wpList_append_lies _ rfl _ _ _ rfl w.heap.size 5 i0 _ 1 1 Tryd.underlying33 hi0 hz0 hz1 hz2 rfl (by omega) (.slice a0 l.length c0) l.length (l.map bv) rfl (World.ownsRow.alloc hBl.out _) ⟨wr.heap.size, 0, none⟩ 1 1 [bv x] rfl rfl (World.news_of_block (cs := #[bv x]) (t := 5) (fr := (0, 0)) (heap_alloc_at wr _)) (by simp [bv, Value.oneCell']) (by omega) (by unfold maxLen; omega) (by omega) (by first | (simp; done) | (simp; omega)) (wr.heap.size + 1) (by simp) ?_; intro g cap w2 hown2 hgrow2 hat2 hlt2; have HO2 := Lib.hid hown2; have HG2 := Lib.hid hgrow2; have HA2 := Lib.hid hat2; clear hown2 hgrow2 hat2)
        go_roundw
        case rel => exact put_next 7 n 8 l x _ (by omega) hk HL.out hnext.out hG.out hO.out hz HO2.out HG2.out HA2.out
        case measure => simp [intOf]
theorem putr_any (n : Int) (h0 : 0 ≤ n) (w : World) : Calls Tryd.prog 31 #[.int .u64 n] w (NewPost w (Tlv.putN n.toNat)) := by
  by_cases h1 : n < 253
  · have e : Tlv.putN n.toNat = [] ++ Tlv.be 1 n.toNat := by unfold Tlv.putN; rw [if_pos (by omega)]; rfl
    rw [e]; exact putr_a n h0 h1 w
  · by_cases h2 : n < 65536
    · have e : Tlv.putN n.toNat = [253] ++ Tlv.be 2 n.toNat := by unfold Tlv.putN; rw [if_neg (by omega), if_pos (by omega)]; rfl
      rw [e]; exact putr_b n h0 (by omega) h2 w
    · by_cases h3 : n < 4294967296
      · have e : Tlv.putN n.toNat = [254] ++ Tlv.be 4 n.toNat := by unfold Tlv.putN; rw [if_neg (by omega), if_neg (by omega), if_pos (by omega)]; rfl
        rw [e]; exact putr_c n h0 (by omega) (by omega) h3 w
      · have e : Tlv.putN n.toNat = [255] ++ Tlv.be 8 n.toNat := by unfold Tlv.putN; rw [if_neg (by omega), if_neg (by omega), if_neg (by omega)]; rfl
        rw [e]; exact putr_d n h0 (by omega) (by omega) (by omega) w
end Go.Proofs.YtakfhoodjcfpcaaDoor.T
