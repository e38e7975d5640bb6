/- wire: WireKnown -/
import Derived.Deep.CutRange
import Derived.Deep.CutBlock
import Derived.Deep.RegionHeld3
import Derived.BigRegion
import Derived.Laws.MakeOwn
import Derived.Great.Walk
import Derived.Great.BuildSlice
import Derived.Calls
import Derived.WalkKit
import Derived.WalkSpells
import Derived.WalkLawsBesides
import Derived.Handy
import Derived.Lib.Hide
import Derived.Deep.AppendLies
import Derived.Deep.LoopGhost
import Derived.Outline
import Derived.Laws.BitsAllLaws
import Derived.Laws.BitsLemmas
import Derived.Lib.AppendZeros
import Derived.Lib.AppendZerosOnto
import Derived.Maps.AppendAt
import Derived.Laws.Append
import Derived.Laws.AppendOwn
import Derived.Deep.QuietTactic
import Derived.BigQuiet
import Derived.Lib.ConvBytes
import Derived.Laws.BytesArg
import Derived.Lib.ParseIntB
import Derived.Lib.Bytealg
import Derived.Shelf.Small.Strs
import Derived.Shelf.Strconv.Itoa0
import Derived.Shelf.Strconv.ParseIntEmpty
import Derived.Shelf.LaysM
import Derived.Shelf.Strconv.Clone
import Derived.Shelf.Strconv.SyntaxError
import Derived.Shelf.LaysC
import Derived.Shelf.Strconv.ToError
import Derived.Shelf.Strconv.Lower
import Derived.Shelf.Strconv.ParseUint10
import Derived.Shelf.Strconv.ParseUint10Empty
import Derived.Shelf.Strconv.ParseUint10Any
import Derived.Shelf.Strconv.ParseInt10
import Derived.Shelf.Strconv.RangeError
import Derived.Shelf.Strconv.ToErrorRange
import Derived.Shelf.Strconv.ParseUintEmpty
import Derived.Shelf.Strconv.ParseUint10b64
import Derived.Shelf.Strconv.ParseUint10b32
import Derived.Shelf.Strconv.ParseUint10b16
import Derived.Shelf.Strconv.ParseUint10b8
import Derived.Shelf.Strconv.ParseUint10At
import Derived.Shelf.Strconv.ParseInt10At64
import Derived.Shelf.Strconv.ParseInt10At32
import Derived.Shelf.Strconv.ParseInt10At16
import Derived.Shelf.Strconv.ParseInt10At8
import Derived.Shelf.Strconv.ParseInt10All
import Derived.Shelf.Strconv.ParseIntPublic10
import Derived.Shelf.Strconv.ErrVarParseInt
import Derived.Shelf.Strings.Search1
import Derived.Lib.Strings
import Derived.Lib.IndexBytes
import Derived.Deep.RegionLaw
import Derived.Deep.Onto
import Derived.Deep.WholeRow
import Derived.Laws.CopyOwn
import Derived.Below
import Derived.WalkMore
import Derived.MapKept
import Derived.Carry
import Derived.Lib.AppendStr
import Derived.IntWalk
import Derived.Test.YtakfhoodjcfpcaaDoorRows
import Derived.Test.YtakfhoodjcfpcaaDoorProg
import Derived.Test.YtakfhoodjcfpcaaDoorTlA
import Derived.Test.YtakfhoodjcfpcaaDoorTlF
import Derived.Test.YtakfhoodjcfpcaaDoorTlH
import Derived.Test.YtakfhoodjcfpcaaDoorTlI
import Derived.Test.YtakfhoodjcfpcaaDoorTlM
import Derived.Test.YtakfhoodjcfpcaaDoorTlR
import Derived.Test.YtakfhoodjcfpcaaDoorTlU
import Derived.Test.YtakfhoodjcfpcaaDoorNumB
import Derived.Test.YtakfhoodjcfpcaaDoorTa
import Derived.Test.YtakfhoodjcfpcaaDoorRefG
import Derived.Test.YtakfhoodjcfpcaaDoorWirP
import Derived.Test.YtakfhoodjcfpcaaDoorWrA
import Derived.Test.YtakfhoodjcfpcaaDoorWrC
import Derived.Test.YtakfhoodjcfpcaaDoorWrD
import Derived.Test.YtakfhoodjcfpcaaDoorWrE
import Derived.Test.YtakfhoodjcfpcaaDoorWrL
import Derived.Test.YtakfhoodjcfpcaaDoorWrM
import Derived.Test.YtakfhoodjcfpcaaDoorWka
namespace Go.Proofs.YtakfhoodjcfpcaaDoor.T
set_option linter.unusedVariables false
set_option maxRecDepth 100000
open Go.RowKit Tlv Wire
/-! wire: WireKnown -/
set_option maxHeartbeats 32000000 in
theorem known_any (w : World) (hL : LibOk w) : Calls Tryd.prog 7 #[] w (BoolPost true w) := by
  have HL := Lib.hid hL
  clear hL
  go_enter Tryd.func7, Tryd.ntmps7
  go_wp2_with fail
  go_loopw [1] (fun iv wr => ∃ k : Nat, k ≤ 65536 ∧ iv = .int .i64 k ∧ Hid (Below w.heap.size w wr)) (fun iv _ => 65536 - (intOf iv).toNat)
  case atStart => exact ⟨0, Nat.zero_le _, rfl, Below.refl _ _⟩
  case round =>
    obtain ⟨k, hk, rfl, hB⟩ := hrel
    by_cases hlt : k < 65536
    · have hkk : (k : Int) < 65536 := by omega
      have u1 : IntKind.u16.wrap (k : Int) = (k : Int) := IntWalk.u16_in _ (by omega)
      have u2 : IntKind.i64.wrap ((k : Int) + 1) = (k : Int) + 1 := IntWalk.i64_in _ (by omega)
      have HCT := Lib.hid (fun W => counts_any k W)
      have HCR := Lib.hid (fun W => countsr_any k W)
      unfold CntPost at HCT HCR
      obtain ⟨c1, hc1⟩ : ∃ c1 : Int, ((countsN k).1 : Int) = c1 := ⟨_, rfl⟩
      obtain ⟨c2, hc2⟩ : ∃ c2 : Int, ((countsN k).2.1 : Int) = c2 := ⟨_, rfl⟩
      obtain ⟨c3, hc3⟩ : ∃ c3, (countsN k).2.2 = c3 := ⟨_, rfl⟩
      rw [hc1, hc2, hc3] at HCT HCR
      have HLT := Lib.hid hlt
      clear hc1 hc2 hc3 hlt hk
      go_wp2_with (first
        | (go_at_call 10; (with_reducible refine Calls.mono (HCT.out _) ?_); rintro e w3 ⟨rfl, hb3⟩; have HB3 := Lib.hid (btr hB.out hb3); clear hb3)
        | (go_at_call 11; (with_reducible refine Calls.mono (HCR.out _) ?_); rintro e w4 ⟨rfl, hb4⟩; have HB4 := Lib.hid (btr HB3.out hb4); clear hb4))
      go_roundw
      case rel => exact ⟨k + 1, HLT.out, by go_num, HB4.out⟩
      case measure => have := HLT.out; simp only [intOf]; omega
    · obtain rfl : k = 65536 := by omega
      rw [show ((65536 : Nat) : Int) = 65536 from rfl]
      clear hlt hk
      generalize wr = w0 at hB ⊢
      have HEA := Lib.hid (enc_A w0 (lib_later HL.out hB.out))
      go_upto_region 9 with (go_at_call 13; (with_reducible refine Calls.mono HEA.out ?_); rintro e1 w1 ⟨a1, c1, rfl, hs1, hb1⟩; have B1 := Lib.hid (btr hB.out hb1); have S1 := Lib.hid hs1; clear hs1 hb1)
      clear HEA
      have HEB := Lib.hid (enc_B w1 (lib_later HL.out B1.out))
      go_upto_region 10 with (go_at_call 13; (with_reducible refine Calls.mono HEB.out ?_); rintro e2 w2 ⟨a2, c2, rfl, hs2, hb2⟩; have B2 := Lib.hid (btr B1.out hb2); have S2 := Lib.hid hs2; have S1b := Lib.hid (S1.out.below hb2); clear hs2 hb2)
      clear HEB
      have hc1 : (convert 33 9 (.slice a1 14 c1)).run Tryd.prog w2 = .ok (.string ⟨#[0, 18, 0, 1, 0, 0, 0, 0, 0, 0, 0, 5, 0, 0]⟩) w2 := conv_src w2 a1 kaB c1 S1b.out
      have hc2 : (convert 33 9 (.slice a2 10 c2)).run Tryd.prog w2 = .ok (.string ⟨#[3, 231, 0, 0, 0, 1, 120, 1, 1, 9]⟩) w2 := conv_src w2 a2 kbB c2 S2.out
      go_upto_region 12 with fail
      clear hc1 hc2 S1 S1b S2 B1
      have hb3 := bel2 w2 (.cells #[.int .i64 (-1)] 2) (.cells #[.int .u16 18, .string ⟨#[]⟩, .slice (some ⟨w2.heap.size, 0, none⟩) 1 1, .slice none 0 0, .string ⟨#[]⟩, .slice none 0 0] 27)
      have hg3 := old_at w2 (.cells #[.int .i64 (-1)] 2) (.cells #[.int .u16 18, .string ⟨#[]⟩, .slice (some ⟨w2.heap.size, 0, none⟩) 1 1, .slice none 0 0, .string ⟨#[]⟩, .slice none 0 0] 27)
      have hm3 : MC ((w2.alloc (.cells #[.int .i64 (-1)] 2)).alloc (.cells #[.int .u16 18, .string ⟨#[]⟩, .slice (some ⟨w2.heap.size, 0, none⟩) 1 1, .slice none 0 0, .string ⟨#[]⟩, .slice none 0 0] 27)) (w2.heap.size + 1) #[.int .u16 18, .string ⟨#[]⟩, .slice (some ⟨w2.heap.size, 0, none⟩) 1 1, .slice none 0 0, .string ⟨#[]⟩, .slice none 0 0] := new_at w2 _ _
      have B3 := Lib.hid (btr B2.out hb3)
      clear hb3
      generalize ((w2.alloc (.cells #[.int .i64 (-1)] 2)).alloc (.cells #[.int .u16 18, .string ⟨#[]⟩, .slice (some ⟨w2.heap.size, 0, none⟩) 1 1, .slice none 0 0, .string ⟨#[]⟩, .slice none 0 0] 27)) = w3 at hg3 hm3 B3 ⊢
      generalize w2.heap.size = g3 at hg3 hm3 ⊢
      clear B2
      obtain ⟨d0, d1, d2, d3, d4, d5⟩ := hm3.cells
      have HEC := Lib.hid (enc_C g3 w3 hg3 (lib_later HL.out B3.out))
      clear hg3 hm3
      go_upto_region 13 with (go_at_call 13; (with_reducible refine Calls.mono HEC.out ?_); rintro e4 w4 ⟨a4, c4, rfl, k1, k2, k3, hs4, hb4⟩; have B4 := Lib.hid (btr B3.out hb4); have HDC := Lib.hid (dec_C a4 c4 w4 k1 k2 k3 hs4 (lib_later HL.out B4.out)); clear hs4 hb4 k1 k2 k3)
      clear HEC d0 d1 d2 d3 d4 d5 B3
      go_upto_region 14 with (go_at_call 16; (with_reducible refine Calls.mono HDC.out ?_); rintro e5 w5 ⟨nb5, no5, nc5, ta5, tc5, ra5, rc5, rfl, hx5, hb5⟩; have B5 := Lib.hid (btr B4.out hb5); have X5 := Lib.hid hx5; clear hx5 hb5)
      clear HDC B4
      have hb6 := below_new w5 (.cells #[.int .u16 18, .string ⟨#[]⟩, .slice (some ⟨nb5, no5, none⟩) 1 nc5, .slice ta5 0 tc5, .string ⟨#[]⟩, .slice ra5 0 rc5] 27)
      have hm6 : MC (w5.alloc (.cells #[.int .u16 18, .string ⟨#[]⟩, .slice (some ⟨nb5, no5, none⟩) 1 nc5, .slice ta5 0 tc5, .string ⟨#[]⟩, .slice ra5 0 rc5] 27)) w5.heap.size #[.int .u16 18, .string ⟨#[]⟩, .slice (some ⟨nb5, no5, none⟩) 1 nc5, .slice ta5 0 tc5, .string ⟨#[]⟩, .slice ra5 0 rc5] := heap_alloc_at w5 _
      have hx6 : (w5.alloc (.cells #[.int .u16 18, .string ⟨#[]⟩, .slice (some ⟨nb5, no5, none⟩) 1 nc5, .slice ta5 0 tc5, .string ⟨#[]⟩, .slice ra5 0 rc5] 27)).cell? ⟨nb5, no5, none⟩ = some (.int .i64 (-1)) := by
        rw [World.cell?_of_block (hb6.block _ (World.block_lt_of_cell? w5 _ X5.out))]; exact X5.out
      have B6 := Lib.hid (btr B5.out hb6)
      clear hb6 X5 B5
      generalize (w5.alloc (.cells #[.int .u16 18, .string ⟨#[]⟩, .slice (some ⟨nb5, no5, none⟩) 1 nc5, .slice ta5 0 tc5, .string ⟨#[]⟩, .slice ra5 0 rc5] 27)) = w6 at hm6 hx6 B6 ⊢
      generalize w5.heap.size = g6 at hm6 ⊢
      obtain ⟨d0, d1, d2, d3, d4, d5⟩ := hm6.cells
      have hl6 := lt_of_heap hm6
      clear hm6
      go_upto_region 15 with fail
      clear d0 d1 d2 d3 d4 d5 hl6 hx6
      go_upto_region 16 with (first
        | (go_at_call 18; (with_reducible refine Calls.mono (bd_1 _ (lib_later HL.out B6.out)) ?_); rintro e7 w7 ⟨rfl, hb7⟩; have B7 := Lib.hid (btr B6.out hb7); clear hb7)
        | (go_at_call 18; (with_reducible refine Calls.mono (bd_2 _ (lib_later HL.out B7.out)) ?_); rintro e8 w8 ⟨rfl, hb8⟩; have B8 := Lib.hid (btr B7.out hb8); clear hb8)
        | (go_at_call 18; (with_reducible refine Calls.mono (bd_3 _ (lib_later HL.out B8.out)) ?_); rintro e9 w9 ⟨rfl, hb9⟩; have B9 := Lib.hid (btr B8.out hb9); clear hb9)
        | (go_at_call 18; (with_reducible refine Calls.mono (bd_4 _ (lib_later HL.out B9.out)) ?_); rintro e10 w10 ⟨rfl, hb10⟩; have B10 := Lib.hid (btr B9.out hb10); clear hb10)
        | (go_at_call 18; (with_reducible refine Calls.mono (bd_5 _ (lib_later HL.out B10.out)) ?_); rintro e11 w11 ⟨rfl, hb11⟩; have B11 := Lib.hid (btr B10.out hb11); have hmk := make_n 33 (by omega) (by omega) w11; clear hb11)
        | (go_at_call 18; (with_reducible refine Calls.mono (bd_6 _ (lib_later HL.out B11.out)) ?_); rintro e12 w12 ⟨rfl, hb12⟩; have B12 := Lib.hid (btr B11.out hb12); have hmb := make_b 4097 (by omega) (by omega) w12; have hcv : (convert 33 9 (.slice (some ⟨w12.heap.size, 0, none⟩) 4097 4097)).run Tryd.prog (w12.alloc (.cells (madeCells #[.int .u8 0] (4097 * 1)) 5)) = .ok (.string (zs 4097)) (w12.alloc (.cells (madeCells #[.int .u8 0] (4097 * 1)) 5)) := conv_made 4097 _ _ (heap_alloc_at w12 _); have B12a := Lib.hid (btr B12.out (below_new w12 (.cells (madeCells #[.int .u8 0] (4097 * 1)) 5))); clear hb12)
        | (go_at_call 18; (with_reducible refine Calls.mono (bd_7 _ (lib_later HL.out B12a.out)) ?_); rintro e13 w13 ⟨rfl, hb13⟩; have B13 := Lib.hid (btr B12a.out hb13); have hmc := make_b 101 (by omega) (by omega) w13; have hcw : (convert 33 9 (.slice (some ⟨w13.heap.size, 0, none⟩) 101 101)).run Tryd.prog (w13.alloc (.cells (madeCells #[.int .u8 0] (101 * 1)) 5)) = .ok (.string (zs 101)) (w13.alloc (.cells (madeCells #[.int .u8 0] (101 * 1)) 5)) := conv_made 101 _ _ (heap_alloc_at w13 _); have B13a := Lib.hid (btr B13.out (below_new w13 (.cells (madeCells #[.int .u8 0] (101 * 1)) 5))); clear hb13)
        | (go_at_call 18; (with_reducible refine Calls.mono (bd_8 _ (lib_later HL.out B13a.out)) ?_); rintro e14 w14 ⟨rfl, hb14⟩; have B14 := Lib.hid (btr B13a.out hb14); clear hb14))
      clear B6 B7 B8 B9 B10 B11 B12 B12a B13 B13a hmk hmb hmc hcv hcw
      have HD := Lib.hid (dec_1 w14 (lib_later HL.out B14.out))
      go_upto_region 17 with (go_at_call 16; (with_reducible refine Calls.mono HD.out ?_); rintro e15 w15 ⟨na15, nc15, ta15, tc15, ra15, rc15, rfl, hb15⟩; have B15 := Lib.hid (btr B14.out hb15); clear hb15)
      have B16 := Lib.hid (btr B15.out (below_new w15 (.cells #[.int .u16 0, .string ⟨#[]⟩, .slice na15 0 nc15, .slice ta15 0 tc15, .string ⟨#[]⟩, .slice ra15 0 rc15] 27)))
      clear HD B14 B15
      generalize w15.alloc (.cells #[.int .u16 0, .string ⟨#[]⟩, .slice na15 0 nc15, .slice ta15 0 tc15, .string ⟨#[]⟩, .slice ra15 0 rc15] 27) = w16 at B16 ⊢
      generalize w15.heap.size = g15 at ⊢
      have HD := Lib.hid (dec_2 w16 (lib_later HL.out B16.out))
      go_upto_region 18 with (go_at_call 16; (with_reducible refine Calls.mono HD.out ?_); rintro e17 w17 ⟨na17, nc17, ta17, tc17, ra17, rc17, rfl, hb17⟩; have B17 := Lib.hid (btr B16.out hb17); clear hb17)
      have B18 := Lib.hid (btr B17.out (below_new w17 (.cells #[.int .u16 0, .string ⟨#[]⟩, .slice na17 0 nc17, .slice ta17 0 tc17, .string ⟨#[]⟩, .slice ra17 0 rc17] 27)))
      clear HD B16 B17
      generalize w17.alloc (.cells #[.int .u16 0, .string ⟨#[]⟩, .slice na17 0 nc17, .slice ta17 0 tc17, .string ⟨#[]⟩, .slice ra17 0 rc17] 27) = w18 at B18 ⊢
      generalize w17.heap.size = g17 at ⊢
      have HD := Lib.hid (dec_3 w18 (lib_later HL.out B18.out))
      have hmk := make_b 32769 (by omega) (by omega) w18
      go_upto_region 19 with (go_at_call 16; (with_reducible refine Calls.mono HD.out ?_); rintro e19 w19 ⟨na19, nc19, ta19, tc19, ra19, rc19, rfl, hb19⟩; have B19 := Lib.hid (btr B18.out hb19); clear hb19)
      have B20 := Lib.hid (btr B19.out (below_new w19 (.cells #[.int .u16 0, .string ⟨#[]⟩, .slice na19 0 nc19, .slice ta19 0 tc19, .string ⟨#[]⟩, .slice ra19 0 rc19] 27)))
      clear HD B18 B19 hmk
      generalize w19.alloc (.cells #[.int .u16 0, .string ⟨#[]⟩, .slice na19 0 nc19, .slice ta19 0 tc19, .string ⟨#[]⟩, .slice ra19 0 rc19] 27) = w20 at B20 ⊢
      generalize w19.heap.size = g19 at ⊢
      have HD := Lib.hid (dec_4 w20 (lib_later HL.out B20.out))
      go_upto_region 20 with (go_at_call 16; (with_reducible refine Calls.mono HD.out ?_); rintro e21 w21 ⟨na21, nc21, ta21, tc21, ra21, rc21, rfl, hb21⟩; have B21 := Lib.hid (btr B20.out hb21); clear hb21)
      have B22 := Lib.hid (btr B21.out (below_new w21 (.cells #[.int .u16 0, .string ⟨#[]⟩, .slice na21 0 nc21, .slice ta21 0 tc21, .string ⟨#[]⟩, .slice ra21 0 rc21] 27)))
      clear HD B20 B21
      generalize w21.alloc (.cells #[.int .u16 0, .string ⟨#[]⟩, .slice na21 0 nc21, .slice ta21 0 tc21, .string ⟨#[]⟩, .slice ra21 0 rc21] 27) = w22 at B22 ⊢
      generalize w21.heap.size = g21 at ⊢
      go_upto_region 21 with fail
      refine make_msg _ 21 (by rfl) (ac_of (by kernel_rfl)) ⟨_, rfl, rfl, rfl, rfl, by kernel_rfl⟩ ⟨_, rfl, rfl, rfl, rfl, by kernel_rfl⟩ ⟨_, rfl, rfl, rfl, rfl, by kernel_rfl⟩ ⟨_, rfl, rfl, rfl, rfl, by kernel_rfl⟩ ⟨_, rfl, rfl, rfl, rfl, by kernel_rfl⟩ ⟨_, rfl, rfl, rfl, rfl, by kernel_rfl⟩ ⟨_, rfl, rfl, rfl, rfl, by kernel_rfl⟩ ⟨_, rfl, rfl, rfl, rfl, by kernel_rfl⟩ ⟨_, rfl, rfl, rfl, rfl, by kernel_rfl⟩ ⟨_, rfl, rfl, rfl, rfl, by kernel_rfl⟩ ⟨_, rfl, rfl, rfl, rfl, by kernel_rfl⟩ _ w22 (by show 214 < 275; omega) ?_
      intro a23 w23 hF
      obtain ⟨x0, x1, x2, x3, x4, x5, x6, x7, x8, f, n, e, g, rfl, hf, he, hm, hn, he2, hg, hb⟩ := fin_act hF (by show 214 < 275; omega)
      have B23 := Lib.hid (btr B22.out hb)
      have HF0 := Lib.hid (show w.heap.size ≤ f from Nat.le_trans B22.out.size hf)
      have HE0 := Lib.hid (show w.heap.size ≤ e from Nat.le_trans B22.out.size he)
      have HM := Lib.hid hm
      have HN := Lib.hid hn
      have HE2 := Lib.hid he2
      have HG := Lib.hid hg
      clear hF hf he hm hn he2 hg hb B22
      simp only [putL, List.foldl, List.setIfInBounds_toArray, List.set_cons_zero, List.set_cons_succ]
      obtain ⟨d0, d1, d2, d3, d4, d5⟩ := (show MC w23 f #[.int .u16 999, .string (zs 100), .slice (some ⟨n, 0, none⟩) 32 32, .slice none 0 0, .string (zs 4096), .slice (some ⟨e, 0, none⟩) 1 1] from HM.out).cells
      have HC1 := Lib.hid (enc_L1 n e g w23 HN.out HE2.out HG.out (lib_later HL.out B23.out))
      go_upto_region 23 with (go_at_call 13; (with_reducible refine Calls.mono HC1.out ?_); rintro e24 w24 ⟨a24, c24, rfl, hb24, hd24⟩; have B24 := Lib.hid (btr B23.out hb24); have M24 := Lib.hid (HM.out.later hb24); have N24 := Lib.hid (HN.out.later hb24); have E24 := Lib.hid (HE2.out.later hb24); have G24 := Lib.hid (HG.out.later hb24); have HC2 := Lib.hid (hd24 w24 (lib_later HL.out B24.out) rfl); clear hb24 hd24)
      clear HC1 d0 d1 d2 d3 d4 d5 HM HN HE2 HG B23
      go_upto_region 24 with (go_at_call 16; (with_reducible refine Calls.mono HC2.out ?_); rintro e25 w25 ⟨na5, nc5', ta5', tc5', ra5', rc5', rfl, hb25⟩; have B25 := Lib.hid (btr B24.out hb25); have M25 := Lib.hid (M24.out.later hb25); have N25 := Lib.hid (N24.out.later hb25); have E25 := Lib.hid (E24.out.later hb25); have G25 := Lib.hid (G24.out.later hb25); clear hb25)
      clear HC2 M24 N24 E24 G24 B24
      have hb26 := below_new w25 (.cells #[.int .u16 999, .string (zs 100), .slice na5 32 nc5', .slice ta5' 0 tc5', .string (zs 4096), .slice ra5' 1 rc5'] 27)
      have hm26 : MC (w25.alloc (.cells #[.int .u16 999, .string (zs 100), .slice na5 32 nc5', .slice ta5' 0 tc5', .string (zs 4096), .slice ra5' 1 rc5'] 27)) w25.heap.size #[.int .u16 999, .string (zs 100), .slice na5 32 nc5', .slice ta5' 0 tc5', .string (zs 4096), .slice ra5' 1 rc5'] := heap_alloc_at w25 _
      have B26 := Lib.hid (btr B25.out hb26)
      have M26 := Lib.hid (M25.out.later hb26)
      have N26 := Lib.hid (N25.out.later hb26)
      have E26 := Lib.hid (E25.out.later hb26)
      have G26 := Lib.hid (G25.out.later hb26)
      clear hb26 M25 N25 E25 G25 B25
      generalize (w25.alloc (.cells #[.int .u16 999, .string (zs 100), .slice na5 32 nc5', .slice ta5' 0 tc5', .string (zs 4096), .slice ra5' 1 rc5'] 27)) = w26 at hm26 B26 M26 N26 E26 G26 ⊢
      generalize w25.heap.size = g26 at hm26 ⊢
      have H26 := Lib.hid hm26
      clear hm26
      as_aux_lemma =>
        obtain ⟨-, -, -, -, -, d5⟩ := (show MC w26 f #[.int .u16 999, .string (zs 100), .slice (some ⟨n, 0, none⟩) 32 32, .slice none 0 0, .string (zs 4096), .slice (some ⟨e, 0, none⟩) 1 1] from M26.out).cells
        have e1 : w26.cell? ⟨e, 1, none⟩ = some (.slice (some ⟨g, 0, none⟩) 28304 28304) := by rw [cell_of_row _ _ _ _ _ _ E26.out]; rfl
        have el := lt_of_heap E26.out
        have fl := lt_of_heap M26.out
        have ez : w26.frozen? ⟨e, 1, none⟩ = false := by
          have hx := E26.out
          unfold Me at hx
          simp only [World.frozen?, hx]; rfl
        have hb27 := below_new w26 (.cells (madeCells #[.int .u8 0] 28305) 5)
        obtain ⟨-, -, -, -, -, d5'⟩ := (show MC (w26.alloc (.cells (madeCells #[.int .u8 0] 28305) 5)) f #[.int .u16 999, .string (zs 100), .slice (some ⟨n, 0, none⟩) 32 32, .slice none 0 0, .string (zs 4096), .slice (some ⟨e, 0, none⟩) 1 1] from M26.out.later hb27).cells
        have e1' : (w26.alloc (.cells (madeCells #[.int .u8 0] 28305) 5)).cell? ⟨e, 1, none⟩ = some (.slice (some ⟨g, 0, none⟩) 28304 28304) := by rw [cell_of_row _ _ _ _ _ _ (E26.out.later hb27)]; rfl
        have ez' : (w26.alloc (.cells (madeCells #[.int .u8 0] 28305) 5)).frozen? ⟨e, 1, none⟩ = false := by
          have hx := E26.out.later hb27
          unfold Me at hx
          simp only [World.frozen?, hx]; rfl
        clear hb27
        have hmk : (Instr.makeSlice 33 (.int .i64 28305) (.int .i64 28305)).run Tryd.prog w26.drew = .ok (.slice (some ⟨w26.heap.size, 0, none⟩) 28305 28305) (w26.drew.alloc (.cells (madeCells #[.int .u8 0] (28305 * 1)) 5)) := make_b 28305 (by omega) (by omega) w26.drew
        go_cut [35] from 225 to 236 (fun v wx => v = .int .i64 65536 ∧ ∃ g2, Hid (Below w.heap.size w wx) ∧ Hid (MC wx f (msgA n e)) ∧ Hid (Mn wx n 32) ∧ Hid (Me wx e (sl g2 28305)) ∧ Hid (Mb wx g2 28305) ∧ Hid (MC wx g26 #[.int .u16 999, .string (zs 100), .slice na5 32 nc5', .slice ta5' 0 tc5', .string (zs 4096), .slice ra5' 1 rc5']))
        case first =>
          go_region
          all_goals go_wp2_with fail
          all_goals go_meet
          all_goals exact ⟨rfl, after24 M26.out N26.out E26.out H26.out B26.out HE0.out _ rfl⟩
        case rest =>
          obtain ⟨rfl, g2, HB27, HM27, HN27, HE27, HG27, HH27⟩ := hcut
          clear d5 e1 el fl ez d5' e1' ez' hmk M26 N26 E26 G26 H26 B26
          generalize wc = w27 at HB27 HM27 HN27 HE27 HG27 HH27 ⊢
          obtain ⟨d0, d1, d2, d3, d4, d5⟩ := (show MC w27 f #[.int .u16 999, .string (zs 100), .slice (some ⟨n, 0, none⟩) 32 32, .slice none 0 0, .string (zs 4096), .slice (some ⟨e, 0, none⟩) 1 1] from HM27.out).cells
          have HC3 := Lib.hid (enc_L2 n e g2 w27 HN27.out HE27.out HG27.out (lib_later HL.out HB27.out))
          go_upto_region 26 with (go_at_call 13; (with_reducible refine Calls.mono HC3.out ?_); rintro e28 w28 ⟨a28, c28, rfl, hb28⟩; have B28 := Lib.hid (btr HB27.out hb28); have H28 := Lib.hid (HH27.out.later hb28); clear hb28)
          clear HC3 d0 d1 d2 d3 d4 d5 HB27 HM27 HN27 HE27 HG27 HH27
          obtain ⟨d0, d1, d2, d3, d4, d5⟩ := H28.out.cells
          have HWK := Lib.hid (works_any w28 (lib_later HL.out B28.out))
          go_wp2_with (go_at_call 9; (with_reducible refine Calls.mono HWK.out ?_); rintro e29 w29 ⟨rfl, hb29⟩; have B29 := Lib.hid (btr B28.out hb29); clear hb29)
          go_ret
          exact ⟨rfl, B29.out⟩
end Go.Proofs.YtakfhoodjcfpcaaDoor.T
