/- wire: the writer -/
import Derived.Calls
import Derived.WalkKit
import Derived.WalkSpells
import Derived.WalkLawsBesides
import Derived.Handy
import Derived.Lib.Hide
import Derived.Deep.AppendLies
import Derived.Deep.LoopGhost
import Derived.Outline
import Derived.Laws.BitsAllLaws
import Derived.Laws.BitsLemmas
import Derived.Lib.AppendZeros
import Derived.Lib.AppendZerosOnto
import Derived.Maps.AppendAt
import Derived.Laws.Append
import Derived.Laws.AppendOwn
import Derived.Deep.QuietTactic
import Derived.BigQuiet
import Derived.Deep.RegionHeld3
import Derived.Lib.ConvBytes
import Derived.Laws.BytesArg
import Derived.Lib.ParseIntB
import Derived.Lib.Bytealg
import Derived.Shelf.Small.Strs
import Derived.Shelf.Strconv.Itoa0
import Derived.Shelf.Strconv.ParseIntEmpty
import Derived.Shelf.LaysM
import Derived.Shelf.Strconv.Clone
import Derived.Shelf.Strconv.SyntaxError
import Derived.Shelf.LaysC
import Derived.Shelf.Strconv.ToError
import Derived.Shelf.Strconv.Lower
import Derived.Shelf.Strconv.ParseUint10
import Derived.Shelf.Strconv.ParseUint10Empty
import Derived.Shelf.Strconv.ParseUint10Any
import Derived.Shelf.Strconv.ParseInt10
import Derived.Shelf.Strconv.RangeError
import Derived.Shelf.Strconv.ToErrorRange
import Derived.Shelf.Strconv.ParseUintEmpty
import Derived.Shelf.Strconv.ParseUint10b64
import Derived.Shelf.Strconv.ParseUint10b32
import Derived.Shelf.Strconv.ParseUint10b16
import Derived.Shelf.Strconv.ParseUint10b8
import Derived.Shelf.Strconv.ParseUint10At
import Derived.Shelf.Strconv.ParseInt10At64
import Derived.Shelf.Strconv.ParseInt10At32
import Derived.Shelf.Strconv.ParseInt10At16
import Derived.Shelf.Strconv.ParseInt10At8
import Derived.Shelf.Strconv.ParseInt10All
import Derived.Shelf.Strconv.ParseIntPublic10
import Derived.Shelf.Strconv.ErrVarParseInt
import Derived.Shelf.Strings.Search1
import Derived.Lib.Strings
import Derived.Lib.IndexBytes
import Derived.BigRegion
import Derived.Deep.RegionLaw
import Derived.Deep.Onto
import Derived.Deep.WholeRow
import Derived.Deep.CutRange
import Derived.Laws.CopyOwn
import Derived.Below
import Derived.WalkMore
import Derived.Test.YtakfhoodjcfpcaaDoorRows
import Derived.Test.YtakfhoodjcfpcaaDoorProg
import Derived.Test.YtakfhoodjcfpcaaDoorPl
import Derived.Test.YtakfhoodjcfpcaaDoorTlA
import Derived.Test.YtakfhoodjcfpcaaDoorTlB
import Derived.Test.YtakfhoodjcfpcaaDoorTlC
import Derived.Test.YtakfhoodjcfpcaaDoorTlD
import Derived.Test.YtakfhoodjcfpcaaDoorTlF
import Derived.Test.YtakfhoodjcfpcaaDoorTlG
import Derived.Test.YtakfhoodjcfpcaaDoorTlH
import Derived.Test.YtakfhoodjcfpcaaDoorTlI
import Derived.Test.YtakfhoodjcfpcaaDoorTlM
import Derived.Test.YtakfhoodjcfpcaaDoorTlU
import Derived.Test.YtakfhoodjcfpcaaDoorNumB
import Derived.Test.YtakfhoodjcfpcaaDoorTa
import Derived.Test.YtakfhoodjcfpcaaDoorRefG
import Derived.Test.YtakfhoodjcfpcaaDoorWirP
namespace Go.Proofs.YtakfhoodjcfpcaaDoor.T
set_option linter.unusedVariables false
open Go.RowKit Tlv Wire
/-! wire: what is written -/
theorem lt_of_heap {w : World} {b : Nat} {o : Obj} (h : w.heap[b]? = some o) : b < w.heap.size := (Array.getElem?_eq_some_iff.1 h).1
/-- the writer at that block has written these bytes, in rows of its own -/
def WB (w : World) (wb : Nat) (l : List UInt8) : Prop := ∃ v, w.heap[wb]? = some (.cells #[v] 65 (0, 0)) ∧ Byt w (wb + 1) v l
theorem WB.later {w w' : World} {wb : Nat} {l : List UInt8} (h : WB w wb l) (hb : Below w.heap.size w w') : WB w' wb l := by
  obtain ⟨v, h1, h2⟩ := h
  exact ⟨v, (hb.block wb (lt_of_heap h1)).trans h1, h2.below hb⟩
def WPost (wb : Nat) (l : List UInt8) (w : World) (e : Ending) (w' : World) : Prop := e = .returned (.tuple #[]) ∧ WB w' wb l ∧ Below wb w w'
set_option maxRecDepth 100000 in
set_option maxHeartbeats 2000000 in
theorem put_w (wb : Nat) (l m : List UInt8) (a : Option Addr) (c : Nat) (w : World) (hW : WB w wb l) (hs : Src w a m) (hn : l.length + m.length ≤ 1000000) : Calls Tryd.prog 28 #[.pointer (some ⟨wb, 0, none⟩), .slice a m.length c] w (WPost wb (l ++ m) w) := by
  obtain ⟨v, h1, h2⟩ := hW
  have hlt : wb < w.heap.size := lt_of_heap h1
  have c0 : w.cell? ⟨wb, 0, none⟩ = some v := by rw [cell_of_row _ _ _ _ _ _ h1]; rfl
  have HS := Lib.hid hs; have H1 := Lib.hid h1; have H2 := Lib.hid h2; have HLT := Lib.hid hlt
  have hown : ∀ k, v.ownBlock = some k → wb + 1 ≤ k := fun k hk => (h2.lt k hk).1
  have HOWN := Lib.hid hown
  clear hs h1 h2 hlt hown
  go_enter Tryd.func28, Tryd.ntmps28
  go_wp2_with (first
    | (at_builtin; refine wpList_app rfl _ _ rfl (wb + 1) v l.length _ rfl H2.out a m c rfl HS.out (by omega) (by have := HLT.out; omega) ?_; intro v1 w1 ho hg ha; obtain ⟨va1, vc1, rfl⟩ := own_slice ho; have HO := Lib.hid ho; have HG := Lib.hid hg; clear ho hg ha; have hk1 : w1.heap[wb]? = some (.cells #[v] 65 (0, 0)) := (HG.out.block wb HLT.out (fun e => by have := HOWN.out wb e.symm; omega)).trans H1.out; have HK1 := Lib.hid hk1; have d1 : w1.frozen? ⟨wb, 0, none⟩ = false := frozen_of_row _ _ _ _ _ hk1; have d2 : w1.cell? ⟨wb, 0, none⟩ = some v := (by rw [cell_of_row _ _ _ _ _ _ hk1]; rfl); clear hk1))
  go_end0
  refine ⟨rfl, ⟨_, heap_setCell_same _ _ _ _ _ _ HK1.out, ownsRow_setCell_below (byt_of' HO.out (by simp)) (by show wb < wb + 1; omega) _⟩, ?_⟩
  exact ((Below.refl wb w).grown HG.out (Nat.le_of_lt HLT.out) (fun k hk => by have := HOWN.out k hk; omega)).setCell (Nat.le_refl _) _
theorem WB.newd {w : World} {wb : Nat} {l : List UInt8} (h : WB w wb l) (o : Obj) : WB (w.alloc o).drew wb l := h.later (below_new w o).drew
theorem WB.drew {w : World} {wb : Nat} {l : List UInt8} (h : WB w wb l) : WB w.drew wb l := h.later (Below.refl _ _).drew
theorem src_new (w : World) (x : UInt8) : Src (w.alloc (.cells #[bv x] 5)) (some ⟨w.heap.size, 0, none⟩) [x] := .inr ⟨_, _, rfl, fun k c hk => by
  cases k with
  | zero =>
    simp at hk; subst hk
    rw [cell_of_row _ _ _ _ _ _ (heap_alloc_at w _)]; rfl
  | succ k => simp at hk⟩
theorem src_newd (w : World) (x : UInt8) : Src (w.alloc (.cells #[.int .u8 (x.toNat : Int)] 5)).drew (some ⟨w.heap.size, 0, none⟩) [x] := src_new w x
theorem put_w1 (wb : Nat) (l : List UInt8) (x : UInt8) (g : Nat) (w : World) (hW : WB w wb l) (hs : Src w (some ⟨g, 0, none⟩) [x]) (hn : l.length + 1 ≤ 1000000) : Calls Tryd.prog 28 #[.pointer (some ⟨wb, 0, none⟩), .slice (some ⟨g, 0, none⟩) 1 1] w (WPost wb (l ++ [x]) w) := put_w wb l [x] _ 1 w hW hs hn
theorem put_wn (wb : Nat) (l m : List UInt8) (n : Nat) (hm : m.length = n) (a : Option Addr) (c : Nat) (w : World) (hW : WB w wb l) (hs : Src w a m) (hn : l.length + n ≤ 1000000) : Calls Tryd.prog 28 #[.pointer (some ⟨wb, 0, none⟩), .slice a n c] w (WPost wb (l ++ m) w) := by subst hm; exact put_w wb l m a c w hW hs hn
set_option maxRecDepth 100000 in
set_option maxHeartbeats 4000000 in
theorem number_w (wb : Nat) (head : List UInt8) (n : Nat) (n0 : Int) (h0 : n0 = (n : Int)) (many : Nat) (hm : many ≤ 8) (w : World) (hW : WB w wb head) (hh : head.length ≤ 900000) : Calls Tryd.prog 24 #[.pointer (some ⟨wb, 0, none⟩), .int .u64 n0, .int .i64 many] w (WPost wb (head ++ be many n) w) := by
  have HW := Lib.hid hW
  have hwb : wb ≤ w.heap.size := by obtain ⟨v, h1, _⟩ := hW; exact Nat.le_of_lt (lt_of_heap h1)
  have HWB := Lib.hid hwb
  have H0 := Lib.hid h0
  clear hW hwb h0
  go_enter Tryd.func24, Tryd.ntmps24
  go_wp2
  go_loopw [6] (fun i wr => ∃ (k : Nat) (l : List UInt8), k ≤ many ∧ i = .int .i64 ((k : Int) - 1) ∧ l.length = head.length + (many - k) ∧ Hid (head ++ be many n = l ++ be k n) ∧ Hid (WB wr wb l) ∧ Hid (Below wb w wr)) (fun i _ => (intOf i + 1).toNat)
  case atStart => exact ⟨many, head, Nat.le_refl _, by go_num, by omega, rfl, HW.out, Below.refl _ _⟩
  case round =>
    obtain ⟨k, l, hk, rfl, hl, hE, hWl, hB⟩ := hrel
    by_cases hk0 : k = 0
    · subst hk0
      go_wp2
      go_end0
      refine ⟨rfl, ?_, hB.out⟩
      have := hE.out
      rw [this]
      simpa [be] using hWl.out
    · obtain ⟨m, rfl⟩ : ∃ m, k = m + 1 := ⟨k - 1, by omega⟩
      have hwr := put_byte (n : Int) (by omega) m _ rfl
      have hq : Hid (IntKind.u8.wrap ((n : Int) / (((256 ^ m : Nat)) : Int)) = ((UInt8.ofNat (n / 256 ^ m)).toNat : Int)) := by show _ = _; simpa using hwr
      clear hwr
      obtain ⟨x, hx⟩ : ∃ x : UInt8, UInt8.ofNat (n / 256 ^ m) = x := ⟨_, rfl⟩
      have HX := Lib.hid hx
      rw [hx, ← H0.out] at hq
      clear hx
      have hr : m = 0 ∨ m = 1 ∨ m = 2 ∨ m = 3 ∨ m = 4 ∨ m = 5 ∨ m = 6 ∨ m = 7 := by omega
      have HM := Lib.hid hr
      clear hr
      have HL : Hid (l.length + 1 ≤ 1000000) := by show _ ≤ _; omega
      have HLL := Lib.hid hl; clear hl
      have hz : wb ≤ wr.heap.size := Nat.le_trans HWB.out hB.out.size
      rcases HM.out with rfl | rfl | rfl | rfl | rfl | rfl | rfl | rfl
      · have hv : IntKind.u8.wrap (n0) = (x.toNat : Int) := (by have := hq.out; rw [show ((256 ^ 0 : Nat) : Int) = 1 from rfl, Int.ediv_one] at this; exact this)
        rw [show ((0 + 1 : Nat) : Int) - 1 = 0 from rfl]
        have w8 : IntKind.i64.wrap 0 = 0 := by decide
        go_wp2_with fail
        go_region_held3 (fun w' => True) (trivial) ((first | (go_at_call 28; (with_reducible refine Calls.mono (put_w1 wb l x wr.heap.size _ (by exact hWl.out.newd _) (by exact src_newd wr x) HL.out) ?_); rintro e w2 ⟨rfl, hw2, hb2⟩; have HW2 := Lib.hid hw2; have HB2 := Lib.hid hb2; clear hw2 hb2)))
        go_wp2_with fail
        go_roundw
        case rel => exact ⟨0, l ++ [x], by omega, by go_num, by have := HLL.out; simp; omega, be_next hE.out HX.out, HW2.out, (hB.out.alloc hz _).drew.trans HB2.out⟩
        case measure => simp [intOf]
      · have hv : IntKind.u8.wrap (n0 / 256) = (x.toNat : Int) := hq.out
        rw [show ((1 + 1 : Nat) : Int) - 1 = 1 from rfl]
        have w8 : IntKind.i64.wrap 8 = 8 := by decide
        go_wp2_with fail
        go_region_held3 (fun w' => True) (trivial) ((first | (go_at_call 28; (with_reducible refine Calls.mono (put_w1 wb l x wr.heap.size _ (by exact hWl.out.newd _) (by exact src_newd wr x) HL.out) ?_); rintro e w2 ⟨rfl, hw2, hb2⟩; have HW2 := Lib.hid hw2; have HB2 := Lib.hid hb2; clear hw2 hb2)))
        go_wp2_with fail
        go_roundw
        case rel => exact ⟨1, l ++ [x], by omega, by go_num, by have := HLL.out; simp; omega, be_next hE.out HX.out, HW2.out, (hB.out.alloc hz _).drew.trans HB2.out⟩
        case measure => simp [intOf]
      · have hv : IntKind.u8.wrap (n0 / 65536) = (x.toNat : Int) := hq.out
        rw [show ((2 + 1 : Nat) : Int) - 1 = 2 from rfl]
        have w8 : IntKind.i64.wrap 16 = 16 := by decide
        go_wp2_with fail
        go_region_held3 (fun w' => True) (trivial) ((first | (go_at_call 28; (with_reducible refine Calls.mono (put_w1 wb l x wr.heap.size _ (by exact hWl.out.newd _) (by exact src_newd wr x) HL.out) ?_); rintro e w2 ⟨rfl, hw2, hb2⟩; have HW2 := Lib.hid hw2; have HB2 := Lib.hid hb2; clear hw2 hb2)))
        go_wp2_with fail
        go_roundw
        case rel => exact ⟨2, l ++ [x], by omega, by go_num, by have := HLL.out; simp; omega, be_next hE.out HX.out, HW2.out, (hB.out.alloc hz _).drew.trans HB2.out⟩
        case measure => simp [intOf]
      · have hv : IntKind.u8.wrap (n0 / 16777216) = (x.toNat : Int) := hq.out
        rw [show ((3 + 1 : Nat) : Int) - 1 = 3 from rfl]
        have w8 : IntKind.i64.wrap 24 = 24 := by decide
        go_wp2_with fail
        go_region_held3 (fun w' => True) (trivial) ((first | (go_at_call 28; (with_reducible refine Calls.mono (put_w1 wb l x wr.heap.size _ (by exact hWl.out.newd _) (by exact src_newd wr x) HL.out) ?_); rintro e w2 ⟨rfl, hw2, hb2⟩; have HW2 := Lib.hid hw2; have HB2 := Lib.hid hb2; clear hw2 hb2)))
        go_wp2_with fail
        go_roundw
        case rel => exact ⟨3, l ++ [x], by omega, by go_num, by have := HLL.out; simp; omega, be_next hE.out HX.out, HW2.out, (hB.out.alloc hz _).drew.trans HB2.out⟩
        case measure => simp [intOf]
      · have hv : IntKind.u8.wrap (n0 / 4294967296) = (x.toNat : Int) := hq.out
        rw [show ((4 + 1 : Nat) : Int) - 1 = 4 from rfl]
        have w8 : IntKind.i64.wrap 32 = 32 := by decide
        go_wp2_with fail
        go_region_held3 (fun w' => True) (trivial) ((first | (go_at_call 28; (with_reducible refine Calls.mono (put_w1 wb l x wr.heap.size _ (by exact hWl.out.newd _) (by exact src_newd wr x) HL.out) ?_); rintro e w2 ⟨rfl, hw2, hb2⟩; have HW2 := Lib.hid hw2; have HB2 := Lib.hid hb2; clear hw2 hb2)))
        go_wp2_with fail
        go_roundw
        case rel => exact ⟨4, l ++ [x], by omega, by go_num, by have := HLL.out; simp; omega, be_next hE.out HX.out, HW2.out, (hB.out.alloc hz _).drew.trans HB2.out⟩
        case measure => simp [intOf]
      · have hv : IntKind.u8.wrap (n0 / 1099511627776) = (x.toNat : Int) := hq.out
        rw [show ((5 + 1 : Nat) : Int) - 1 = 5 from rfl]
        have w8 : IntKind.i64.wrap 40 = 40 := by decide
        go_wp2_with fail
        go_region_held3 (fun w' => True) (trivial) ((first | (go_at_call 28; (with_reducible refine Calls.mono (put_w1 wb l x wr.heap.size _ (by exact hWl.out.newd _) (by exact src_newd wr x) HL.out) ?_); rintro e w2 ⟨rfl, hw2, hb2⟩; have HW2 := Lib.hid hw2; have HB2 := Lib.hid hb2; clear hw2 hb2)))
        go_wp2_with fail
        go_roundw
        case rel => exact ⟨5, l ++ [x], by omega, by go_num, by have := HLL.out; simp; omega, be_next hE.out HX.out, HW2.out, (hB.out.alloc hz _).drew.trans HB2.out⟩
        case measure => simp [intOf]
      · have hv : IntKind.u8.wrap (n0 / 281474976710656) = (x.toNat : Int) := hq.out
        rw [show ((6 + 1 : Nat) : Int) - 1 = 6 from rfl]
        have w8 : IntKind.i64.wrap 48 = 48 := by decide
        go_wp2_with fail
        go_region_held3 (fun w' => True) (trivial) ((first | (go_at_call 28; (with_reducible refine Calls.mono (put_w1 wb l x wr.heap.size _ (by exact hWl.out.newd _) (by exact src_newd wr x) HL.out) ?_); rintro e w2 ⟨rfl, hw2, hb2⟩; have HW2 := Lib.hid hw2; have HB2 := Lib.hid hb2; clear hw2 hb2)))
        go_wp2_with fail
        go_roundw
        case rel => exact ⟨6, l ++ [x], by omega, by go_num, by have := HLL.out; simp; omega, be_next hE.out HX.out, HW2.out, (hB.out.alloc hz _).drew.trans HB2.out⟩
        case measure => simp [intOf]
      · have hv : IntKind.u8.wrap (n0 / 72057594037927936) = (x.toNat : Int) := hq.out
        rw [show ((7 + 1 : Nat) : Int) - 1 = 7 from rfl]
        have w8 : IntKind.i64.wrap 56 = 56 := by decide
        go_wp2_with fail
        go_region_held3 (fun w' => True) (trivial) ((first | (go_at_call 28; (with_reducible refine Calls.mono (put_w1 wb l x wr.heap.size _ (by exact hWl.out.newd _) (by exact src_newd wr x) HL.out) ?_); rintro e w2 ⟨rfl, hw2, hb2⟩; have HW2 := Lib.hid hw2; have HB2 := Lib.hid hb2; clear hw2 hb2)))
        go_wp2_with fail
        go_roundw
        case rel => exact ⟨7, l ++ [x], by omega, by go_num, by have := HLL.out; simp; omega, be_next hE.out HX.out, HW2.out, (hB.out.alloc hz _).drew.trans HB2.out⟩
        case measure => simp [intOf]
/-- a count is written -/
theorem count_w (wb : Nat) (l : List UInt8) (n : Nat) (n0 : Int) (h0 : n0 = (n : Int)) (hn : n ≤ 1000000) (w : World) (hW : WB w wb l) (hl : l.length ≤ 900000) : Calls Tryd.prog 26 #[.pointer (some ⟨wb, 0, none⟩), .int .i64 n0] w (WPost wb (l ++ putN n) w) := by
  have HW := Lib.hid hW
  have hu : IntKind.u64.wrap n0 = n0 := by subst h0; unfold IntKind.wrap; simp [IntKind.signed]; rw [show (2 : Int) ^ IntKind.u64.bits = 18446744073709551616 by decide]; omega
  have hn0 : 0 ≤ n0 := by omega
  have HN : Hid (n0.toNat = n) := by subst h0; exact Int.toNat_natCast n
  clear hW h0
  have hwb : wb ≤ w.heap.size := by obtain ⟨v, h1, _⟩ := HW.out; exact Nat.le_of_lt (lt_of_heap h1)
  have HWB := Lib.hid hwb
  go_enter Tryd.func26, Tryd.ntmps26
  go_wp2_with fail
  go_region_held3 (fun w' => True) (trivial) ((first
    | (go_at_call 46; (with_reducible refine Calls.mono (Put_any n0 hn0 _) ?_); rintro e w1 ⟨v1, rfl, hp1, hb1⟩; obtain ⟨q1, t1, rfl⟩ := own_slice hp1; have HP1 := Lib.hid (Src.of_byt hp1); have HB1 := Lib.hid hb1; clear hp1 hb1)
    | (go_at_call 28; (with_reducible refine Calls.mono (put_w wb l (putN n0.toNat) q1 t1 _ (HW.out.drew.later HB1.out) HP1.out (by have := (putN_pos n0.toNat).2; omega)) ?_); rintro e w2 ⟨rfl, hw2, hb2⟩; have HW2 := Lib.hid hw2; have HB2 := Lib.hid hb2; clear hw2 hb2)))
  go_end0
  refine ⟨rfl, by rw [← HN.out]; exact HW2.out, ?_⟩
  have h1 : Below wb w w.drew := (Below.refl _ _).drew
  exact (h1.trans (HB1.out.mono HWB.out)).trans HB2.out
theorem str_fun (s : ByteArray) : ∃ (C : World → Nat) (F : World → World), (∀ w, (convert 9 33 (.string s)).run Tryd.prog w = .ok (.slice (some ⟨w.heap.size, 0, none⟩) s.data.toList.length (C w)) (F w)) ∧ Hid (∀ w : World, Src (F w) (some ⟨w.heap.size, 0, none⟩) s.data.toList ∧ Below w.heap.size w (F w)) := by
  refine ⟨fun w => grownCap w s.size 0 5, fun w => Lib.bytesWorld w 5 s, fun w => ?_, fun w => ⟨?_, back_below w s⟩⟩
  · have := conv_back w s
    rw [this]
    congr 2
  · have := back_src w s.data.toList
    rw [show (⟨s.data.toList.toArray⟩ : ByteArray) = s by cases s; rfl] at this
    exact this
/-- a text is written -/
theorem text_w (wb : Nat) (l : List UInt8) (s : ByteArray) (hs : s.size ≤ 100000) (w : World) (hW : WB w wb l) (hl : l.length ≤ 800000) : Calls Tryd.prog 25 #[.pointer (some ⟨wb, 0, none⟩), .string s] w (WPost wb (l ++ tx s) w) := by
  have HW := Lib.hid hW
  have hwb : wb ≤ w.heap.size := by obtain ⟨v, h1, _⟩ := hW; exact Nat.le_of_lt (lt_of_heap h1)
  have HWB := Lib.hid hwb
  obtain ⟨C, F, hcv, HCV⟩ := str_fun s
  have hsz : s.data.toList.length = s.size := by cases s; rfl
  have HSZ := Lib.hid hsz
  clear hW hsz
  go_enter Tryd.func25, Tryd.ntmps25
  go_wp2_with (first
    | (go_at_call 26; (with_reducible refine Calls.mono (count_w wb l s.size _ rfl (by omega) _ HW.out (by omega)) ?_); rintro e w1 ⟨rfl, hw1, hb1⟩; have HW1 := Lib.hid hw1; have HB1 := Lib.hid hb1; clear hw1 hb1)
    | (go_at_call 28; (with_reducible refine Calls.mono (put_wn wb (l ++ putN s.size) s.data.toList s.size HSZ.out _ _ _ (HW1.out.later (HCV.out w1).2) (HCV.out w1).1 (by have := (putN_pos s.size).2; rw [List.length_append]; omega)) ?_); rintro e w2 ⟨rfl, hw2, hb2⟩; have HW2 := Lib.hid hw2; have HB2 := Lib.hid hb2; clear hw2 hb2))
  go_end0
  refine ⟨rfl, by unfold tx; rw [← List.append_assoc]; exact HW2.out, ?_⟩
  have h1 := (HCV.out w1).2
  exact (HB1.out.trans (h1.mono (Nat.le_trans HWB.out HB1.out.size))).trans HB2.out
end Go.Proofs.YtakfhoodjcfpcaaDoor.T
