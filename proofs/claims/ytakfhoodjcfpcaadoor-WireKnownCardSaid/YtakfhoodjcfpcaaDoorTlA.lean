/- tlv: bytes in memory; put. -/
import Derived.Calls
import Derived.WalkKit
import Derived.WalkSpells
import Derived.WalkLawsBesides
import Derived.Handy
import Derived.Lib.Hide
import Derived.Deep.AppendLies
import Derived.Deep.LoopGhost
import Derived.Outline
import Derived.Test.YtakfhoodjcfpcaaDoorRows
import Derived.Test.YtakfhoodjcfpcaaDoorPl
namespace Go.Proofs.YtakfhoodjcfpcaaDoor.T
open Go.RowKit

def bv (c : UInt8) : Value := .int .u8 c.toNat
theorem Tryd.info5 : (Tryd.prog.info? 5).map (fun i => (i.zero, i.size, i.bytes)) = some (some (.int .u8 0), 1, 1) := by kernel_rfl
/-- a slice of bytes of the call's own, from block base on -/
def Byt (w : World) (base : Nat) (v : Value) (l : List UInt8) : Prop := w.ownsRow base 5 1 v l.length (l.map bv)
theorem heap_alloc_at (w : World) (o : Obj) : (w.alloc o).heap[w.heap.size]? = some o := by
  show (w.heap.push o)[w.heap.size]? = _
  rw [Array.getElem?_push, if_pos rfl]
theorem own_slice {w : World} {base E size n : Nat} {v : Value} {xs : List Value} (h : w.ownsRow base E size v n xs) : ∃ a c, v = .slice a n c := by
  rcases h.2 with ⟨h, h'⟩ | ⟨g, cap, cur, h, _⟩
  · exact ⟨none, 0, by rw [h, h']⟩
  · exact ⟨_, _, h⟩
theorem grown_alloc {w w' : World} {row : Option Nat} (o : Obj) (h : (w.alloc o).grownBy w' row) : w.grownBy w' row := (World.grownBy_alloc w o row).trans h
/-- the byte that put takes -/
theorem put_byte (n : Int) (h0 : 0 ≤ n) (p : Nat) (q : Int) (hq : q = (256 ^ p : Nat)) : IntKind.u8.wrap (n / q) = ((UInt8.ofNat (n.toNat / 256 ^ p)).toNat : Int) := by
  rw [UInt8.toNat_ofNat']
  subst hq
  have e : n / ((256 ^ p : Nat) : Int) = ((n.toNat / 256 ^ p : Nat) : Int) := by
    rw [Int.natCast_ediv, Int.toNat_of_nonneg h0]
  rw [e]
  generalize n.toNat / 256 ^ p = m
  simp [IntKind.wrap, IntKind.bits, IntKind.signed]
def PutPost (w : World) (base : Nat) (v : Value) (l : List UInt8) (e : Ending) (w' : World) : Prop := ∃ v', e = .returned v' ∧ Byt w' base v' l ∧ w.grownBy w' v.ownBlock ∧ (v'.ownBlock = v.ownBlock ∨ ∃ g, v'.ownBlock = some g ∧ w.heap.size ≤ g)
theorem put_next (m : Nat) (n : Int) (many : Nat) (l : List UInt8) (x : UInt8) (iv : Int) (hiv : iv = (m : Int) - 1) {w wr w2 : World} {base g cap c0 : Nat} {a0 : Option Addr} {o : Obj} {v : Value} {head : List UInt8} (hk : m + 1 ≤ many) (hl : l.length = head.length + (many - (m + 1))) (hn : head ++ Tlv.be many n.toNat = (l ++ [x]) ++ Tlv.be m n.toNat)
    (hG : w.grownBy wr v.ownBlock) (hO : (Value.slice a0 l.length c0).ownBlock = v.ownBlock ∨ ∃ g, (Value.slice a0 l.length c0).ownBlock = some g ∧ w.heap.size ≤ g) (hz : w.heap.size ≤ wr.heap.size)
    (h2 : w2.ownsRow base 5 1 (.slice (some ⟨g, 0, none⟩) (l.length + 1) cap) (l.length + 1) (l.map bv ++ [bv x])) (hg2 : (wr.alloc o).grownBy w2 (Value.slice a0 l.length c0).ownBlock) (ha : (Value.slice a0 l.length c0).ownBlock = some g ∨ g = wr.heap.size + 1) :
    ∃ (k : Nat) (l' : List UInt8), k ≤ many ∧ Value.int .i64 iv = .int .i64 ((k : Int) - 1) ∧ l'.length = head.length + (many - k) ∧ Hid (head ++ Tlv.be many n.toNat = l' ++ Tlv.be k n.toNat) ∧ Hid (Byt w2 base (.slice (some ⟨g, 0, none⟩) (l.length + 1) cap) l') ∧ Hid (w.grownBy w2 v.ownBlock) ∧ Hid ((Value.slice (some ⟨g, 0, none⟩) (l.length + 1) cap).ownBlock = v.ownBlock ∨ ∃ g', (Value.slice (some ⟨g, 0, none⟩) (l.length + 1) cap).ownBlock = some g' ∧ w.heap.size ≤ g') := by
  refine ⟨m, l ++ [x], by omega, by rw [hiv], by simp; omega, hn, ?_, ?_, ?_⟩
  · unfold Byt Hid
    rw [List.length_append, List.length_singleton, List.map_append]
    exact h2
  · have hg := grown_alloc o hg2
    refine ⟨hg.os.trans hG.os, hg.tape.trans hG.tape, hg.output.trans hG.output, by have := hG.size; have := hg.size; omega, fun i hi hne => ?_⟩
    refine (hg.block i (by omega) (fun e => ?_)).trans (hG.block i hi hne)
    rcases hO with e' | ⟨g', e', hg'⟩
    · exact hne (e.trans e')
    · rw [e'] at e; cases e; omega
  · rcases ha with e | e
    · rcases hO with e' | ⟨g', e', hg'⟩
      · exact .inl (by rw [← e', e]; rfl)
      · rw [e'] at e; cases e; exact .inr ⟨_, rfl, hg'⟩
    · exact .inr ⟨g, rfl, by omega⟩
set_option maxRecDepth 100000 in
set_option maxHeartbeats 4000000 in
theorem put_any (base : Nat) (v : Value) (head : List UInt8) (n : Int) (many : Nat) (hm : many ≤ 8) (hh : head.length ≤ 8) (h0 : 0 ≤ n) (w : World) (hbase : base ≤ w.heap.size) (h : Byt w base v head) :
    Calls Tryd.prog 60 #[.int .u64 n, .int .i64 many, v] w (PutPost w base v (head ++ Tlv.be many n.toNat)) := by
  obtain ⟨i0, hi0, hz0, hz1, hz2⟩ := info_parts Tryd.info5
  have HB := Lib.hid h; clear h
  go_enter Tryd.func60, Tryd.ntmps60
  go_wp2
  go_loopw [2, 7] (fun v' i wr => ∃ (k : Nat) (l : List UInt8), k ≤ many ∧ i = .int .i64 ((k : Int) - 1) ∧ l.length = head.length + (many - k) ∧ Hid (head ++ Tlv.be many n.toNat = l ++ Tlv.be k n.toNat) ∧ Hid (Byt wr base v' l) ∧ Hid (w.grownBy wr v.ownBlock) ∧ Hid (v'.ownBlock = v.ownBlock ∨ ∃ g, v'.ownBlock = some g ∧ w.heap.size ≤ g)) (fun _ i _ => (intOf i + 1).toNat)
  case atStart => exact ⟨many, head, Nat.le_refl _, by go_num, by omega, rfl, HB.out, World.grownBy.refl _ _, .inl rfl⟩
  case round =>
    obtain ⟨k, l, hk, rfl, hl, hE, hBl, hG, hO⟩ := hrel
    obtain ⟨a0, c0, rfl⟩ := own_slice hBl.out
    have hz : w.heap.size ≤ wr.heap.size := hG.out.size
    by_cases hk0 : k = 0
    · subst hk0
      have HN := Lib.hid hE.out
      go_wp2
      go_ret
      refine ⟨_, rfl, ?_, hG.out, hO.out⟩
      rw [HN.out]
      simpa [Tlv.be] using hBl.out
    · obtain ⟨m, rfl⟩ : ∃ m, k = m + 1 := ⟨k - 1, by omega⟩
      have hwr := put_byte n h0 m _ rfl
      have hq : Hid (IntKind.u8.wrap (n / (((256 ^ m : Nat)) : Int)) = ((UInt8.ofNat (n.toNat / 256 ^ m)).toNat : Int)) := hwr
      clear hwr
      obtain ⟨x, hx⟩ : ∃ x : UInt8, UInt8.ofNat (n.toNat / 256 ^ m) = x := ⟨_, rfl⟩
      have HX := Lib.hid hx
      rw [hx] at hq
      clear hx
      have hr : m = 0 ∨ m = 1 ∨ m = 2 ∨ m = 3 ∨ m = 4 ∨ m = 5 ∨ m = 6 ∨ m = 7 := by omega
      have HM := Lib.hid hr
      clear hr
      have hnext : Hid (head ++ Tlv.be many n.toNat = (l ++ [x]) ++ Tlv.be m n.toNat) := by
        have := hE.out
        rw [Tlv.be, HX.out] at this
        rw [this]; simp [Hid]
      have hll : l.length ≤ 16 := by omega
      have HL := Lib.hid hl; clear hl
      rcases HM.out with rfl | rfl | rfl | rfl | rfl | rfl | rfl | rfl
      · have hv : IntKind.u8.wrap (n) = (x.toNat : Int) := (by have := hq.out; rw [show ((256 ^ 0 : Nat) : Int) = 1 from rfl, Int.ediv_one] at this; exact this)
        go_wp2_with (at_builtin; refine wpList_append_lies _ rfl _ _ _ rfl base 5 i0 _ 1 1 Tryd.underlying33 hi0 hz0 hz1 hz2 rfl (by omega) (.slice a0 l.length c0) l.length (l.map bv) rfl (World.ownsRow.alloc hBl.out _) ⟨wr.heap.size, 0, none⟩ 1 1 [bv x] rfl rfl (World.news_of_block (cs := #[bv x]) (t := 5) (fr := (0, 0)) (heap_alloc_at wr _)) (by simp [bv, Value.oneCell']) (by omega) (by unfold maxLen; omega) (by omega) (by simp; omega) (wr.heap.size + 1) (by simp) ?_; intro g cap w2 hown2 hgrow2 hat2 hlt2; have HO2 := Lib.hid hown2; have HG2 := Lib.hid hgrow2; have HA2 := Lib.hid hat2; clear hown2 hgrow2 hat2)
        go_roundw
        case rel => exact put_next 0 n many l x _ (by omega) hk HL.out hnext.out hG.out hO.out hz HO2.out HG2.out HA2.out
        case measure => simp [intOf]
      · have hv : IntKind.u8.wrap (n / 256) = (x.toNat : Int) := hq.out
        go_wp2_with (at_builtin; refine wpList_append_lies _ rfl _ _ _ rfl base 5 i0 _ 1 1 Tryd.underlying33 hi0 hz0 hz1 hz2 rfl (by omega) (.slice a0 l.length c0) l.length (l.map bv) rfl (World.ownsRow.alloc hBl.out _) ⟨wr.heap.size, 0, none⟩ 1 1 [bv x] rfl rfl (World.news_of_block (cs := #[bv x]) (t := 5) (fr := (0, 0)) (heap_alloc_at wr _)) (by simp [bv, Value.oneCell']) (by omega) (by unfold maxLen; omega) (by omega) (by simp; omega) (wr.heap.size + 1) (by simp) ?_; intro g cap w2 hown2 hgrow2 hat2 hlt2; have HO2 := Lib.hid hown2; have HG2 := Lib.hid hgrow2; have HA2 := Lib.hid hat2; clear hown2 hgrow2 hat2)
        go_roundw
        case rel => exact put_next 1 n many l x _ (by omega) hk HL.out hnext.out hG.out hO.out hz HO2.out HG2.out HA2.out
        case measure => simp [intOf]
      · have hv : IntKind.u8.wrap (n / 65536) = (x.toNat : Int) := hq.out
        go_wp2_with (at_builtin; refine wpList_append_lies _ rfl _ _ _ rfl base 5 i0 _ 1 1 Tryd.underlying33 hi0 hz0 hz1 hz2 rfl (by omega) (.slice a0 l.length c0) l.length (l.map bv) rfl (World.ownsRow.alloc hBl.out _) ⟨wr.heap.size, 0, none⟩ 1 1 [bv x] rfl rfl (World.news_of_block (cs := #[bv x]) (t := 5) (fr := (0, 0)) (heap_alloc_at wr _)) (by simp [bv, Value.oneCell']) (by omega) (by unfold maxLen; omega) (by omega) (by simp; omega) (wr.heap.size + 1) (by simp) ?_; intro g cap w2 hown2 hgrow2 hat2 hlt2; have HO2 := Lib.hid hown2; have HG2 := Lib.hid hgrow2; have HA2 := Lib.hid hat2; clear hown2 hgrow2 hat2)
        go_roundw
        case rel => exact put_next 2 n many l x _ (by omega) hk HL.out hnext.out hG.out hO.out hz HO2.out HG2.out HA2.out
        case measure => simp [intOf]
      · have hv : IntKind.u8.wrap (n / 16777216) = (x.toNat : Int) := hq.out
        go_wp2_with (at_builtin; refine wpList_append_lies _ rfl _ _ _ rfl base 5 i0 _ 1 1 Tryd.underlying33 hi0 hz0 hz1 hz2 rfl (by omega) (.slice a0 l.length c0) l.length (l.map bv) rfl (World.ownsRow.alloc hBl.out _) ⟨wr.heap.size, 0, none⟩ 1 1 [bv x] rfl rfl (World.news_of_block (cs := #[bv x]) (t := 5) (fr := (0, 0)) (heap_alloc_at wr _)) (by simp [bv, Value.oneCell']) (by omega) (by unfold maxLen; omega) (by omega) (by simp; omega) (wr.heap.size + 1) (by simp) ?_; intro g cap w2 hown2 hgrow2 hat2 hlt2; have HO2 := Lib.hid hown2; have HG2 := Lib.hid hgrow2; have HA2 := Lib.hid hat2; clear hown2 hgrow2 hat2)
        go_roundw
        case rel => exact put_next 3 n many l x _ (by omega) hk HL.out hnext.out hG.out hO.out hz HO2.out HG2.out HA2.out
        case measure => simp [intOf]
      · have hv : IntKind.u8.wrap (n / 4294967296) = (x.toNat : Int) := hq.out
        go_wp2_with (at_builtin; refine wpList_append_lies _ rfl _ _ _ rfl base 5 i0 _ 1 1 Tryd.underlying33 hi0 hz0 hz1 hz2 rfl (by omega) (.slice a0 l.length c0) l.length (l.map bv) rfl (World.ownsRow.alloc hBl.out _) ⟨wr.heap.size, 0, none⟩ 1 1 [bv x] rfl rfl (World.news_of_block (cs := #[bv x]) (t := 5) (fr := (0, 0)) (heap_alloc_at wr _)) (by simp [bv, Value.oneCell']) (by omega) (by unfold maxLen; omega) (by omega) (by simp; omega) (wr.heap.size + 1) (by simp) ?_; intro g cap w2 hown2 hgrow2 hat2 hlt2; have HO2 := Lib.hid hown2; have HG2 := Lib.hid hgrow2; have HA2 := Lib.hid hat2; clear hown2 hgrow2 hat2)
        go_roundw
        case rel => exact put_next 4 n many l x _ (by omega) hk HL.out hnext.out hG.out hO.out hz HO2.out HG2.out HA2.out
        case measure => simp [intOf]
      · have hv : IntKind.u8.wrap (n / 1099511627776) = (x.toNat : Int) := hq.out
        go_wp2_with (at_builtin; refine wpList_append_lies _ rfl _ _ _ rfl base 5 i0 _ 1 1 Tryd.underlying33 hi0 hz0 hz1 hz2 rfl (by omega) (.slice a0 l.length c0) l.length (l.map bv) rfl (World.ownsRow.alloc hBl.out _) ⟨wr.heap.size, 0, none⟩ 1 1 [bv x] rfl rfl (World.news_of_block (cs := #[bv x]) (t := 5) (fr := (0, 0)) (heap_alloc_at wr _)) (by simp [bv, Value.oneCell']) (by omega) (by unfold maxLen; omega) (by omega) (by simp; omega) (wr.heap.size + 1) (by simp) ?_; intro g cap w2 hown2 hgrow2 hat2 hlt2; have HO2 := Lib.hid hown2; have HG2 := Lib.hid hgrow2; have HA2 := Lib.hid hat2; clear hown2 hgrow2 hat2)
        go_roundw
        case rel => exact put_next 5 n many l x _ (by omega) hk HL.out hnext.out hG.out hO.out hz HO2.out HG2.out HA2.out
        case measure => simp [intOf]
      · have hv : IntKind.u8.wrap (n / 281474976710656) = (x.toNat : Int) := hq.out
        go_wp2_with (at_builtin; refine wpList_append_lies _ rfl _ _ _ rfl base 5 i0 _ 1 1 Tryd.underlying33 hi0 hz0 hz1 hz2 rfl (by omega) (.slice a0 l.length c0) l.length (l.map bv) rfl (World.ownsRow.alloc hBl.out _) ⟨wr.heap.size, 0, none⟩ 1 1 [bv x] rfl rfl (World.news_of_block (cs := #[bv x]) (t := 5) (fr := (0, 0)) (heap_alloc_at wr _)) (by simp [bv, Value.oneCell']) (by omega) (by unfold maxLen; omega) (by omega) (by simp; omega) (wr.heap.size + 1) (by simp) ?_; intro g cap w2 hown2 hgrow2 hat2 hlt2; have HO2 := Lib.hid hown2; have HG2 := Lib.hid hgrow2; have HA2 := Lib.hid hat2; clear hown2 hgrow2 hat2)
        go_roundw
        case rel => exact put_next 6 n many l x _ (by omega) hk HL.out hnext.out hG.out hO.out hz HO2.out HG2.out HA2.out
        case measure => simp [intOf]
      · have hv : IntKind.u8.wrap (n / 72057594037927936) = (x.toNat : Int) := hq.out
        go_wp2_with (at_builtin; refine wpList_append_lies _ rfl _ _ _ rfl base 5 i0 _ 1 1 Tryd.underlying33 hi0 hz0 hz1 hz2 rfl (by omega) (.slice a0 l.length c0) l.length (l.map bv) rfl (World.ownsRow.alloc hBl.out _) ⟨wr.heap.size, 0, none⟩ 1 1 [bv x] rfl rfl (World.news_of_block (cs := #[bv x]) (t := 5) (fr := (0, 0)) (heap_alloc_at wr _)) (by simp [bv, Value.oneCell']) (by omega) (by unfold maxLen; omega) (by omega) (by simp; omega) (wr.heap.size + 1) (by simp) ?_; intro g cap w2 hown2 hgrow2 hat2 hlt2; have HO2 := Lib.hid hown2; have HG2 := Lib.hid hgrow2; have HA2 := Lib.hid hat2; clear hown2 hgrow2 hat2)
        go_roundw
        case rel => exact put_next 7 n many l x _ (by omega) hk HL.out hnext.out hG.out hO.out hz HO2.out HG2.out HA2.out
        case measure => simp [intOf]
end Go.Proofs.YtakfhoodjcfpcaaDoor.T
