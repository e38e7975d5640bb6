/- wire: the readers -/
import Derived.Calls
import Derived.WalkKit
import Derived.WalkSpells
import Derived.WalkLawsBesides
import Derived.Handy
import Derived.Lib.Hide
import Derived.Deep.AppendLies
import Derived.Deep.LoopGhost
import Derived.Outline
import Derived.Laws.BitsAllLaws
import Derived.Laws.BitsLemmas
import Derived.Lib.AppendZeros
import Derived.Lib.AppendZerosOnto
import Derived.Maps.AppendAt
import Derived.Laws.Append
import Derived.Laws.AppendOwn
import Derived.Deep.QuietTactic
import Derived.BigQuiet
import Derived.Deep.RegionHeld3
import Derived.Lib.ConvBytes
import Derived.Laws.BytesArg
import Derived.Lib.ParseIntB
import Derived.Lib.Bytealg
import Derived.Shelf.Small.Strs
import Derived.Shelf.Strconv.Itoa0
import Derived.Shelf.Strconv.ParseIntEmpty
import Derived.Shelf.LaysM
import Derived.Shelf.Strconv.Clone
import Derived.Shelf.Strconv.SyntaxError
import Derived.Shelf.LaysC
import Derived.Shelf.Strconv.ToError
import Derived.Shelf.Strconv.Lower
import Derived.Shelf.Strconv.ParseUint10
import Derived.Shelf.Strconv.ParseUint10Empty
import Derived.Shelf.Strconv.ParseUint10Any
import Derived.Shelf.Strconv.ParseInt10
import Derived.Shelf.Strconv.RangeError
import Derived.Shelf.Strconv.ToErrorRange
import Derived.Shelf.Strconv.ParseUintEmpty
import Derived.Shelf.Strconv.ParseUint10b64
import Derived.Shelf.Strconv.ParseUint10b32
import Derived.Shelf.Strconv.ParseUint10b16
import Derived.Shelf.Strconv.ParseUint10b8
import Derived.Shelf.Strconv.ParseUint10At
import Derived.Shelf.Strconv.ParseInt10At64
import Derived.Shelf.Strconv.ParseInt10At32
import Derived.Shelf.Strconv.ParseInt10At16
import Derived.Shelf.Strconv.ParseInt10At8
import Derived.Shelf.Strconv.ParseInt10All
import Derived.Shelf.Strconv.ParseIntPublic10
import Derived.Shelf.Strconv.ErrVarParseInt
import Derived.Shelf.Strings.Search1
import Derived.Lib.Strings
import Derived.Lib.IndexBytes
import Derived.BigRegion
import Derived.Deep.RegionLaw
import Derived.Deep.Onto
import Derived.Deep.WholeRow
import Derived.Deep.CutRange
import Derived.Laws.CopyOwn
import Derived.Below
import Derived.WalkMore
import Derived.MapKept
import Derived.Carry
import Derived.Lib.AppendStr
import Derived.Test.YtakfhoodjcfpcaaDoorRows
import Derived.Test.YtakfhoodjcfpcaaDoorProg
import Derived.Test.YtakfhoodjcfpcaaDoorPl
import Derived.Test.YtakfhoodjcfpcaaDoorTlA
import Derived.Test.YtakfhoodjcfpcaaDoorTlD
import Derived.Test.YtakfhoodjcfpcaaDoorTlF
import Derived.Test.YtakfhoodjcfpcaaDoorTlH
import Derived.Test.YtakfhoodjcfpcaaDoorTlI
import Derived.Test.YtakfhoodjcfpcaaDoorTlM
import Derived.Test.YtakfhoodjcfpcaaDoorTlU
import Derived.Test.YtakfhoodjcfpcaaDoorNumB
import Derived.Test.YtakfhoodjcfpcaaDoorTa
import Derived.Test.YtakfhoodjcfpcaaDoorRefG
import Derived.Test.YtakfhoodjcfpcaaDoorWirP
import Derived.Test.YtakfhoodjcfpcaaDoorWrH
namespace Go.Proofs.YtakfhoodjcfpcaaDoor.T
set_option linter.unusedVariables false
set_option maxRecDepth 100000
open Go.RowKit Tlv Wire
/-! wire: texts and numbers read; the document's reader -/
theorem take_eq (n : Nat) (s : St) : (takeS n s).1.length ≤ n := by
  unfold takeS
  split
  · exact Nat.zero_le _
  · show (s.l.take n).length ≤ n
    rw [List.length_take]; omega
def TxPost (W0 : World) (rb : Nat) (s : St) (w : World) (e : Ending) (w' : World) : Prop := e = .returned (.string (ba (textS false s).1)) ∧ RSt W0 w' rb (textS false s).2 ∧ Fr (At rb) w w'
set_option maxHeartbeats 4000000 in
theorem textS_any (W0 : World) (rb : Nat) (s : St) (w : World) (hR : RSt W0 w rb s) : Calls Tryd.prog 36 #[.pointer (some ⟨rb, 0, none⟩)] w (TxPost W0 rb s w) := by
  unfold TxPost textS
  have HC := Lib.hid (countS_any W0 rb s w hR)
  unfold CtPost at HC
  obtain ⟨n, hn⟩ : ∃ n, (countS false s).1 = n := ⟨_, rfl⟩
  obtain ⟨s1, hs1⟩ : ∃ q, (countS false s).2 = q := ⟨_, rfl⟩
  rw [hn, hs1] at HC ⊢
  have HT := Lib.hid (fun W (h : RSt W0 W rb s1) => take_any W0 rb n s1 W h)
  unfold TkPost at HT
  obtain ⟨l, hl⟩ : ∃ l, (takeS n s1).1 = l := ⟨_, rfl⟩
  obtain ⟨s2, hs2⟩ : ∃ q, (takeS n s1).2 = q := ⟨_, rfl⟩
  rw [hl, hs2] at HT ⊢
  have HCV := Lib.hid (fun (W : World) (a : Option Addr) (c : Nat) (h : Src W a l) => conv_src W a l c h)
  clear hR hn hs1 hl hs2
  go_enter Tryd.func36, Tryd.ntmps36
  go_wp2_with (first
    | (go_at_call 34; (with_reducible refine Calls.mono HC.out ?_); rintro e w1 ⟨rfl, hr1, hf1⟩; have HR1 := Lib.hid hr1; have HF1 := Lib.hid hf1; clear hr1 hf1)
    | (go_at_call 51; (with_reducible refine Calls.mono (HT.out _ HR1.out) ?_); rintro e w2 ⟨a, c, rfl, hs, hc1, hc2, hc3, hr2, hf2⟩; have HR2 := Lib.hid hr2; have HF2 := Lib.hid hf2; have hcv := HCV.out w2 a c (by obtain ⟨a', c', h⟩ := HR2.out; exact hs.below h.low); clear hr2 hf2 hs hc3))
  go_ret
  exact ⟨rfl, HR2.out, HF1.out.trans HF2.out⟩
def NmPost (W0 : World) (rb many : Nat) (s : St) (w : World) (e : Ending) (w' : World) : Prop := e = .returned (.int .u64 ((numS many s).1 : Int)) ∧ RSt W0 w' rb (numS many s).2 ∧ Fr (At rb) w w'
set_option maxHeartbeats 4000000 in
theorem numS_any (W0 : World) (rb many : Nat) (hm : many ≤ 8) (s : St) (w : World) (hR : RSt W0 w rb s) : Calls Tryd.prog 35 #[.pointer (some ⟨rb, 0, none⟩), .int .u64 (many : Int)] w (NmPost W0 rb many s w) := by
  unfold NmPost numS
  have HT := Lib.hid (take_any W0 rb many s w hR)
  unfold TkPost at HT
  have hle := take_eq many s
  obtain ⟨l, hl⟩ : ∃ l, (takeS many s).1 = l := ⟨_, rfl⟩
  obtain ⟨s2, hs2⟩ : ∃ q, (takeS many s).2 = q := ⟨_, rfl⟩
  rw [hl] at hle
  rw [hl, hs2] at HT ⊢
  dsimp only
  clear hR hl hs2
  go_enter Tryd.func35, Tryd.ntmps35
  go_wp2_with (go_at_call 51; (with_reducible refine Calls.mono HT.out ?_); rintro e w2 ⟨a, c, rfl, hs, hc1, hc2, hc3, hr2, hf2⟩; have HR2 := Lib.hid hr2; have HF2 := Lib.hid hf2; have HSR := Lib.hid (show Src w2 a l from by obtain ⟨a', c', h⟩ := HR2.out; exact hs.below h.low); clear hr2 hf2 hs hc3)
  go_loopw [4, 11] (fun nv iv wr => ∃ (t : Nat) (y : Int), t ≤ l.length ∧ iv = .int .i64 t ∧ nv = .int .u64 y ∧ wr = w2 ∧ Hid (y = (Tlv.val (l.take t) : Int))) (fun _ iv _ => l.length - (intOf iv).toNat)
  case atStart => exact ⟨0, 0, Nat.zero_le _, by go_num, rfl, rfl, by show (0 : Int) = _; simp [Tlv.val]⟩
  case round =>
    obtain ⟨t, y, ht, rfl, rfl, rfl, hy⟩ := hrel
    have hy0 : 0 ≤ y := by have := hy.out; omega
    by_cases hlt : t < l.length
    · have hy1 : y < 72057594037927936 := by have := hy.out; have := val_take_lt l t (by omega); omega
      obtain ⟨d, hd⟩ : ∃ d, l[t]? = some d := ⟨_, List.getElem?_eq_getElem hlt⟩
      have hne : l ≠ [] := by intro h; rw [h] at hlt; simp at hlt
      obtain ⟨b, off, rfl, hcell⟩ := HSR.out.resolve_left hne
      have hcd := hcell t d hd
      unfold bv at hcd
      have hd1 : (d.toNat : Int) < 256 := by have := d.toNat_lt; omega
      have hnx := val_take_succ l t d hd
      have HN : Hid (y * 256 + (d.toNat : Int) = (Tlv.val (l.take (t + 1)) : Int)) := by have := hy.out; show _ = _; rw [hnx, this]; omega
      have hor := or_byte y d.toNat hy0 hy1 (by omega) hd1
      obtain ⟨z, hz⟩ : ∃ z : Int, (d.toNat : Int) = z := ⟨_, rfl⟩
      rw [hz] at hcd hor HN hd1
      have htl : (t : Int) < (l.length : Int) := by omega
      clear hd hnx hz hcell
      go_wp2_with fail
      go_roundw
      case rel => exact ⟨t + 1, y * 256 + z, by omega, by go_num, rfl, by first | rfl | trivial, HN⟩
      case measure => simp [intOf]; omega
    · obtain rfl : t = l.length := by omega
      go_wp2_with fail
      go_ret
      refine ⟨?_, HR2.out, HF2.out⟩
      have := hy.out
      rw [List.take_length] at this
      rw [← this]
      rfl
theorem num2 (W0 : World) (rb : Nat) (s : St) (w : World) (hR : RSt W0 w rb s) : Calls Tryd.prog 35 #[.pointer (some ⟨rb, 0, none⟩), .int .u64 2] w (NmPost W0 rb 2 s w) := numS_any W0 rb 2 (by omega) s w hR
theorem num8 (W0 : World) (rb : Nat) (s : St) (w : World) (hR : RSt W0 w rb s) : Calls Tryd.prog 35 #[.pointer (some ⟨rb, 0, none⟩), .int .u64 8] w (NmPost W0 rb 8 s w) := numS_any W0 rb 8 (by omega) s w hR
def RSd (W0 w : World) (rb : Nat) (s : St) : Prop := ∃ a c, RS W0 w rb 84 (!s.bad) s a c
end Go.Proofs.YtakfhoodjcfpcaaDoor.T
