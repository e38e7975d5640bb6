/- wire: Size, Lent, Same -/
import Derived.Calls
import Derived.WalkKit
import Derived.WalkSpells
import Derived.WalkLawsBesides
import Derived.Handy
import Derived.Lib.Hide
import Derived.Deep.AppendLies
import Derived.Deep.LoopGhost
import Derived.Outline
import Derived.Laws.BitsAllLaws
import Derived.Laws.BitsLemmas
import Derived.Lib.AppendZeros
import Derived.Lib.AppendZerosOnto
import Derived.Maps.AppendAt
import Derived.Laws.Append
import Derived.Laws.AppendOwn
import Derived.Deep.QuietTactic
import Derived.BigQuiet
import Derived.Deep.RegionHeld3
import Derived.Lib.ConvBytes
import Derived.Laws.BytesArg
import Derived.Lib.ParseIntB
import Derived.Lib.Bytealg
import Derived.Shelf.Small.Strs
import Derived.Shelf.Strconv.Itoa0
import Derived.Shelf.Strconv.ParseIntEmpty
import Derived.Shelf.LaysM
import Derived.Shelf.Strconv.Clone
import Derived.Shelf.Strconv.SyntaxError
import Derived.Shelf.LaysC
import Derived.Shelf.Strconv.ToError
import Derived.Shelf.Strconv.Lower
import Derived.Shelf.Strconv.ParseUint10
import Derived.Shelf.Strconv.ParseUint10Empty
import Derived.Shelf.Strconv.ParseUint10Any
import Derived.Shelf.Strconv.ParseInt10
import Derived.Shelf.Strconv.RangeError
import Derived.Shelf.Strconv.ToErrorRange
import Derived.Shelf.Strconv.ParseUintEmpty
import Derived.Shelf.Strconv.ParseUint10b64
import Derived.Shelf.Strconv.ParseUint10b32
import Derived.Shelf.Strconv.ParseUint10b16
import Derived.Shelf.Strconv.ParseUint10b8
import Derived.Shelf.Strconv.ParseUint10At
import Derived.Shelf.Strconv.ParseInt10At64
import Derived.Shelf.Strconv.ParseInt10At32
import Derived.Shelf.Strconv.ParseInt10At16
import Derived.Shelf.Strconv.ParseInt10At8
import Derived.Shelf.Strconv.ParseInt10All
import Derived.Shelf.Strconv.ParseIntPublic10
import Derived.Shelf.Strconv.ErrVarParseInt
import Derived.Shelf.Strings.Search1
import Derived.Lib.Strings
import Derived.Lib.IndexBytes
import Derived.BigRegion
import Derived.Deep.RegionLaw
import Derived.Deep.Onto
import Derived.Deep.WholeRow
import Derived.Deep.CutRange
import Derived.Laws.CopyOwn
import Derived.Below
import Derived.WalkMore
import Derived.MapKept
import Derived.Carry
import Derived.Lib.AppendStr
import Derived.Deep.CutBlock
import Derived.IntWalk
import Derived.Test.YtakfhoodjcfpcaaDoorRows
import Derived.Test.YtakfhoodjcfpcaaDoorProg
import Derived.Test.YtakfhoodjcfpcaaDoorPl
import Derived.Test.YtakfhoodjcfpcaaDoorTlA
import Derived.Test.YtakfhoodjcfpcaaDoorTlH
import Derived.Test.YtakfhoodjcfpcaaDoorTlO
import Derived.Test.YtakfhoodjcfpcaaDoorTlR
import Derived.Test.YtakfhoodjcfpcaaDoorNumA
import Derived.Test.YtakfhoodjcfpcaaDoorNumB
import Derived.Test.YtakfhoodjcfpcaaDoorTa
import Derived.Test.YtakfhoodjcfpcaaDoorRefG
import Derived.Test.YtakfhoodjcfpcaaDoorWirP
import Derived.Test.YtakfhoodjcfpcaaDoorWrA
import Derived.Test.YtakfhoodjcfpcaaDoorWrD
import Derived.Test.YtakfhoodjcfpcaaDoorWrE
namespace Go.Proofs.YtakfhoodjcfpcaaDoor.T
set_option linter.unusedVariables false
set_option maxRecDepth 100000
open Go.RowKit Tlv Wire
/-! wire: Size, Lent, Same -/
/-- a message that is looked at -/
structure Small (m : Wire.Msg) : Prop where
  c : m.chan.size ≤ 4000
  x : m.text.size ≤ 4000
  n : m.nums.length ≤ 4000
  t : m.terms.length + tsum m.terms ≤ 4000
  r : m.more.length + bodies m.more ≤ 4000
theorem tsum_le {L : List ByteArray} {t : ByteArray} (h : t ∈ L) : t.size ≤ tsum L := by
  induction L with
  | nil => cases h
  | cons x L ih =>
    have e2 : tsum (x :: L) = x.size + tsum L := by simp [tsum]
    rcases List.mem_cons.1 h with rfl | h
    · omega
    · have := ih h; omega
theorem Small.mb {m : Wire.Msg} (h : Small m) (ht : ∀ r ∈ m.more, r.t < 18446744073709551616) : MB m :=
  ⟨by have := h.c; omega, by have := h.x; omega, by have := h.n; omega, by have := h.t; omega, fun t hm => by have := tsum_le hm; have := h.t; omega, by have := h.r; omega, ht, fun r hr => by have := body_le hr; have := h.r; omega⟩
/-! rows of one cell each, appended to nothing -/
set_option maxHeartbeats 4000000 in
theorem same_m (m : Wire.Msg) (na : Option Addr) (nc : Nat) (ta : Option Addr) (tc : Nat) (ra : Option Addr) (rc : Nat) (na' : Option Addr) (nc' : Nat) (ta' : Option Addr) (tc' : Nat) (ra' : Option Addr) (rc' : Nat) (w : World) (h3 : m.nums.length ≤ maxLen) (h4 : m.terms.length ≤ maxLen) (h5 : m.more.length ≤ maxLen) (hA : MA w m na ta ra) (hB : MA w m na' ta' ra') :
    Calls Tryd.prog 15 #[.agg #[.int .u16 (m.kind : Int), .string m.chan, .slice na m.nums.length nc, .slice ta m.terms.length tc, .string m.text, .slice ra m.more.length rc], .agg #[.int .u16 (m.kind : Int), .string m.chan, .slice na' m.nums.length nc', .slice ta' m.terms.length tc', .string m.text, .slice ra' m.more.length rc']] w (BoolPost true w) := by
  obtain ⟨kind, chan, nums, terms, text, more⟩ := m
  dsimp only at *
  unfold maxLen at h3 h4
  have hb1 := below_new w (.cells #[.int .u16 (kind : Int), .string chan, .slice na nums.length nc, .slice ta terms.length tc, .string text, .slice ra more.length rc] 27)
  have hb2 := below_new (w.alloc (.cells #[.int .u16 (kind : Int), .string chan, .slice na nums.length nc, .slice ta terms.length tc, .string text, .slice ra more.length rc] 27)) (.cells #[.int .u16 (kind : Int), .string chan, .slice na' nums.length nc', .slice ta' terms.length tc', .string text, .slice ra' more.length rc'] 27)
  have hm1 : MC (w.alloc (.cells #[.int .u16 (kind : Int), .string chan, .slice na nums.length nc, .slice ta terms.length tc, .string text, .slice ra more.length rc] 27)) w.heap.size #[.int .u16 (kind : Int), .string chan, .slice na nums.length nc, .slice ta terms.length tc, .string text, .slice ra more.length rc] := heap_alloc_at w _
  have hm2 := heap_alloc_at (w.alloc (.cells #[.int .u16 (kind : Int), .string chan, .slice na nums.length nc, .slice ta terms.length tc, .string text, .slice ra more.length rc] 27)) (.cells #[.int .u16 (kind : Int), .string chan, .slice na' nums.length nc', .slice ta' terms.length tc', .string text, .slice ra' more.length rc'] 27)
  rw [World.size_alloc] at hm2
  have HA := Lib.hid ((hA.later hb1).later hb2)
  have HB := Lib.hid ((hB.later hb1).later hb2)
  have HM1 := Lib.hid (hm1.later hb2)
  have HM2 : Hid (MC _ (w.heap.size + 1) #[.int .u16 (kind : Int), .string chan, .slice na' nums.length nc', .slice ta' terms.length tc', .string text, .slice ra' more.length rc']) := hm2
  have HBW := Lib.hid (hb1.trans (hb2.mono hb1.size))
  clear hb1 hb2 hm1 hm2 hA hB
  go_enter Tryd.func15, Tryd.ntmps15
  go_upto_region 1 with fail
  obtain ⟨bb, hbb⟩ : ∃ bb, w.heap.size = bb := ⟨_, rfl⟩
  generalize (w.alloc (.cells #[.int .u16 (kind : Int), .string chan, .slice na nums.length nc, .slice ta terms.length tc, .string text, .slice ra more.length rc] 27)).alloc (.cells #[.int .u16 (kind : Int), .string chan, .slice na' nums.length nc', .slice ta' terms.length tc', .string text, .slice ra' more.length rc'] 27) = w2 at HA HB HM1 HM2 HBW
  have HBB := Lib.hid hbb
  rw [hbb] at HM1 HM2 ⊢
  clear hbb
  obtain ⟨d0, d1, d2, d3, d4, d5⟩ := HM1.out.cells
  obtain ⟨e0, e1, e2, e3, e4, e5⟩ := HM2.out.cells
  have HS5 := same_yes ra ra' rc rc' more w2 h5 HA.out.more HB.out.more
  have HS5' := Lib.hid HS5
  have HW0 : Hid (Below w2.heap.size w2 w2) := Below.refl _ _
  clear HS5
  go_upto_block 0 with (go_at_call 33; (with_reducible refine Calls.mono HS5'.out ?_); rintro e w3 ⟨rfl, hb3⟩; have HB3 := Lib.hid hb3; clear hb3)
  clear d0 d1 d2 d3 d4 d5 e0 e1 e2 e3 e4 e5
  go_cut [5] from 52 to 69 (fun _ wx => Hid (Below w2.heap.size w2 wx))
  case first =>
    go_wp2_with fail
    go_loopw [5] (fun iv wr => ∃ k : Nat, k ≤ nums.length ∧ iv = .int .i64 k ∧ Hid (Below w2.heap.size w2 wr)) (fun iv _ => nums.length - (intOf iv).toNat)
    case atStart => exact ⟨0, Nat.zero_le _, by go_num, HB3.out⟩
    case round =>
      obtain ⟨k, hk, rfl, hB⟩ := hrel
      obtain ⟨_, _, d2, _, _, _⟩ := (HM1.out.later hB.out).cells
      obtain ⟨_, _, e2, _, _, _⟩ := (HM2.out.later hB.out).cells
      by_cases hlt : k < nums.length
      · obtain ⟨x, hx⟩ : ∃ x, nums[k]? = some x := ⟨_, List.getElem?_eq_getElem hlt⟩
        have hne : nums ≠ [] := by intro h; rw [h] at hlt; simp at hlt
        obtain ⟨b1, o1, rfl, hr1⟩ := (HA.out.later hB.out).nums.resolve_left hne
        obtain ⟨b2, o2, rfl, hr2⟩ := (HB.out.later hB.out).nums.resolve_left hne
        have c1 := hr1 k x hx
        have c2 := hr2 k x hx
        have hkl : (k : Int) < (nums.length : Int) := by omega
        clear hr1 hr2 hx
        go_wp2_with fail
        go_quiet (fail)
        go_wp2
        go_roundw
        case rel => exact ⟨k + 1, by omega, by go_num, below_drewN hB.out _⟩
        case measure => simp [intOf]; omega
      · obtain rfl : k = nums.length := by omega
        go_wp2_with fail
        go_meet
        case rel => exact hB
  case rest =>
    have hB := hcut
    clear HB3
    go_upto_block 2 with fail
    go_wp2_with fail
    go_loopw [6] (fun iv wr => ∃ k : Nat, k ≤ terms.length ∧ iv = .int .i64 k ∧ Hid (Below w2.heap.size w2 wr)) (fun iv _ => terms.length - (intOf iv).toNat)
    case atStart => exact ⟨0, Nat.zero_le _, by go_num, hB.out⟩
    case round =>
      obtain ⟨k, hk, rfl, hB⟩ := hrel
      obtain ⟨_, _, _, d2, _, _⟩ := (HM1.out.later hB.out).cells
      obtain ⟨_, _, _, e2, _, _⟩ := (HM2.out.later hB.out).cells
      by_cases hlt : k < terms.length
      · obtain ⟨x, hx⟩ : ∃ x, terms[k]? = some x := ⟨_, List.getElem?_eq_getElem hlt⟩
        have hne : terms ≠ [] := by intro h; rw [h] at hlt; simp at hlt
        obtain ⟨b1, o1, rfl, hr1⟩ := (HA.out.later hB.out).terms.resolve_left hne
        obtain ⟨b2, o2, rfl, hr2⟩ := (HB.out.later hB.out).terms.resolve_left hne
        have c1 := hr1 k x hx
        have c2 := hr2 k x hx
        have hkl : (k : Int) < (terms.length : Int) := by omega
        clear hr1 hr2 hx
        go_wp2_with fail
        go_quiet (fail)
        go_wp2
        go_roundw
        case rel => exact ⟨k + 1, by omega, by go_num, below_drewN hB.out _⟩
        case measure => simp [intOf]; omega
      · obtain rfl : k = terms.length := by omega
        go_wp2_with fail
        go_ret
        exact ⟨rfl, HBW.out.trans (hB.out.mono HBW.out.size)⟩
end Go.Proofs.YtakfhoodjcfpcaaDoor.T
