/- wire: works, WireWrites -/
import Derived.Calls
import Derived.WalkKit
import Derived.WalkSpells
import Derived.WalkLawsBesides
import Derived.Handy
import Derived.Lib.Hide
import Derived.Deep.AppendLies
import Derived.Deep.LoopGhost
import Derived.Outline
import Derived.Laws.BitsAllLaws
import Derived.Laws.BitsLemmas
import Derived.Lib.AppendZeros
import Derived.Lib.AppendZerosOnto
import Derived.Maps.AppendAt
import Derived.Laws.Append
import Derived.Laws.AppendOwn
import Derived.Deep.QuietTactic
import Derived.BigQuiet
import Derived.Deep.RegionHeld3
import Derived.Lib.ConvBytes
import Derived.Laws.BytesArg
import Derived.Lib.ParseIntB
import Derived.Lib.Bytealg
import Derived.Shelf.Small.Strs
import Derived.Shelf.Strconv.Itoa0
import Derived.Shelf.Strconv.ParseIntEmpty
import Derived.Shelf.LaysM
import Derived.Shelf.Strconv.Clone
import Derived.Shelf.Strconv.SyntaxError
import Derived.Shelf.LaysC
import Derived.Shelf.Strconv.ToError
import Derived.Shelf.Strconv.Lower
import Derived.Shelf.Strconv.ParseUint10
import Derived.Shelf.Strconv.ParseUint10Empty
import Derived.Shelf.Strconv.ParseUint10Any
import Derived.Shelf.Strconv.ParseInt10
import Derived.Shelf.Strconv.RangeError
import Derived.Shelf.Strconv.ToErrorRange
import Derived.Shelf.Strconv.ParseUintEmpty
import Derived.Shelf.Strconv.ParseUint10b64
import Derived.Shelf.Strconv.ParseUint10b32
import Derived.Shelf.Strconv.ParseUint10b16
import Derived.Shelf.Strconv.ParseUint10b8
import Derived.Shelf.Strconv.ParseUint10At
import Derived.Shelf.Strconv.ParseInt10At64
import Derived.Shelf.Strconv.ParseInt10At32
import Derived.Shelf.Strconv.ParseInt10At16
import Derived.Shelf.Strconv.ParseInt10At8
import Derived.Shelf.Strconv.ParseInt10All
import Derived.Shelf.Strconv.ParseIntPublic10
import Derived.Shelf.Strconv.ErrVarParseInt
import Derived.Shelf.Strings.Search1
import Derived.Lib.Strings
import Derived.Lib.IndexBytes
import Derived.BigRegion
import Derived.Deep.RegionLaw
import Derived.Deep.Onto
import Derived.Deep.WholeRow
import Derived.Deep.CutRange
import Derived.Laws.CopyOwn
import Derived.Below
import Derived.WalkMore
import Derived.MapKept
import Derived.Carry
import Derived.Lib.AppendStr
import Derived.Deep.CutBlock
import Derived.IntWalk
import Derived.Test.YtakfhoodjcfpcaaDoorRows
import Derived.Test.YtakfhoodjcfpcaaDoorProg
import Derived.Test.YtakfhoodjcfpcaaDoorPl
import Derived.Test.YtakfhoodjcfpcaaDoorTlA
import Derived.Test.YtakfhoodjcfpcaaDoorTlD
import Derived.Test.YtakfhoodjcfpcaaDoorTlF
import Derived.Test.YtakfhoodjcfpcaaDoorTlH
import Derived.Test.YtakfhoodjcfpcaaDoorTlI
import Derived.Test.YtakfhoodjcfpcaaDoorTlM
import Derived.Test.YtakfhoodjcfpcaaDoorTlP
import Derived.Test.YtakfhoodjcfpcaaDoorTlR
import Derived.Test.YtakfhoodjcfpcaaDoorTlU
import Derived.Test.YtakfhoodjcfpcaaDoorNumA
import Derived.Test.YtakfhoodjcfpcaaDoorNumB
import Derived.Test.YtakfhoodjcfpcaaDoorTa
import Derived.Test.YtakfhoodjcfpcaaDoorRefG
import Derived.Test.YtakfhoodjcfpcaaDoorWirP
import Derived.Test.YtakfhoodjcfpcaaDoorWrA
import Derived.Test.YtakfhoodjcfpcaaDoorWrD
import Derived.Test.YtakfhoodjcfpcaaDoorWrE
import Derived.Test.YtakfhoodjcfpcaaDoorWrF
import Derived.Test.YtakfhoodjcfpcaaDoorWrJ
import Derived.Test.YtakfhoodjcfpcaaDoorWrL
namespace Go.Proofs.YtakfhoodjcfpcaaDoor.T
set_option linter.unusedVariables false
set_option maxRecDepth 100000
open Go.RowKit Tlv Wire
/-! wire: works, WireWrites -/
def wkM : Wire.Msg := ⟨130, ⟨#[99]⟩, [1], [⟨#[110, 55, 59]⟩], ⟨#[]⟩, []⟩
def wkB : List UInt8 := [0, 130, 1, 99, 1, 0, 0, 0, 0, 0, 0, 0, 1, 1, 3, 110, 55, 59, 0]
theorem wk_enc : encN R wkM = (wkB, 0) := by kernel_rfl
theorem wk_dec : Wire.decN R false wkB = (wkM, 0) := by kernel_rfl
theorem wk_mb : MB wkM := ⟨by decide, by decide, by decide, by decide, fun t h => (by have := List.mem_singleton.1 h; subst this; decide), by decide, fun r h => (by cases h), fun r h => (by cases h)⟩
theorem OwnM.ma {w : World} {base : Nat} {m : Wire.Msg} {nv tv rv : Value} (h : OwnM w base m nv tv rv) : ∃ na nc ta tc ra rc, nv = .slice na m.nums.length nc ∧ tv = .slice ta m.terms.length tc ∧ rv = .slice ra m.more.length rc ∧ MA w m na ta ra := by
  obtain ⟨na, nc, rfl⟩ := own_slice h.nums
  obtain ⟨ta, tc, rfl⟩ := own_slice h.terms
  obtain ⟨ra, rc, e, hr, _⟩ := h.more.recs
  exact ⟨na, nc, ta, tc, ra, rc, rfl, rfl, e, ints_own h.nums, strs_own h.terms, hr⟩
theorem byt_cap {w : World} {base n c : Nat} {a : Option Addr} {l : List UInt8} (h : Byt w base (.slice a n c) l) : l.length ≤ c ∧ c ≤ maxLen ∧ (a = none → c = 0) := by
  have h1 := h.1
  rcases h.2 with ⟨h0, hl⟩ | ⟨g, cap, cur, hv, hg, hh, hc, hm, hs, ht⟩
  · cases h0; exact ⟨by omega, Nat.zero_le _, fun _ => rfl⟩
  · cases hv; exact ⟨by omega, by omega, fun e => by cases e⟩
set_option maxHeartbeats 4000000 in
theorem works_any (w : World) (hL : LibOk w) : Calls Tryd.prog 9 #[] w (BoolPost true w) := by
  have hw1 := below_new w (.cells #[.int .i64 1] 2)
  have hw2 := hw1.trans ((below_new (w.alloc (.cells #[.int .i64 1] 2)) (.cells #[.string ⟨#[110, 55, 59]⟩] 49)).mono hw1.size)
  go_enter Tryd.func9, Tryd.ntmps9
  go_upto_region 2 with fail
  have hk1 : ((w.alloc (.cells #[.int .i64 1] 2)).alloc (.cells #[.string ⟨#[110, 55, 59]⟩] 49)).heap[w.heap.size]? = some (.cells #[.int .i64 1] 2 (0, 0)) := ((below_new _ _).block _ (by simp)).trans (heap_alloc_at w _)
  have hk2 : ((w.alloc (.cells #[.int .i64 1] 2)).alloc (.cells #[.string ⟨#[110, 55, 59]⟩] 49)).heap[w.heap.size + 1]? = some (.cells #[.string ⟨#[110, 55, 59]⟩] 49 (0, 0)) := by
    have := heap_alloc_at (w.alloc (.cells #[.int .i64 1] 2)) (.cells #[.string ⟨#[110, 55, 59]⟩] 49); simpa using this
  have hm3 : ∀ cs : Array Value, MC (((w.alloc (.cells #[.int .i64 1] 2)).alloc (.cells #[.string ⟨#[110, 55, 59]⟩] 49)).alloc (.cells cs 27)) (w.heap.size + 2) cs := fun cs => by
    have := heap_alloc_at ((w.alloc (.cells #[.int .i64 1] 2)).alloc (.cells #[.string ⟨#[110, 55, 59]⟩] 49)) (.cells cs 27); simpa [MC] using this
  have hM2 := hm3 #[.int .u16 130, .string ⟨#[99]⟩, .slice (some ⟨w.heap.size, 0, none⟩) 1 1, .slice (some ⟨w.heap.size + 1, 0, none⟩) 1 1, .string ⟨#[]⟩, .slice none 0 0]
  have hb3 := below_new ((w.alloc (.cells #[.int .i64 1] 2)).alloc (.cells #[.string ⟨#[110, 55, 59]⟩] 49)) (.cells #[.int .u16 130, .string ⟨#[99]⟩, .slice (some ⟨w.heap.size, 0, none⟩) 1 1, .slice (some ⟨w.heap.size + 1, 0, none⟩) 1 1, .string ⟨#[]⟩, .slice none 0 0] 27)
  have hw3 := hw2.trans (hb3.mono hw2.size)
  have hk1' := (hb3.block _ (lt_of_heap hk1)).trans hk1
  have hk2' := (hb3.block _ (lt_of_heap hk2)).trans hk2
  clear hk1 hk2 hm3 hb3 hw1 hw2
  obtain ⟨bb, hbb⟩ : ∃ bb, w.heap.size = bb := ⟨_, rfl⟩
  generalize ((w.alloc (.cells #[.int .i64 1] 2)).alloc (.cells #[.string ⟨#[110, 55, 59]⟩] 49)).alloc (.cells #[.int .u16 130, .string ⟨#[99]⟩, .slice (some ⟨w.heap.size, 0, none⟩) 1 1, .slice (some ⟨w.heap.size + 1, 0, none⟩) 1 1, .string ⟨#[]⟩, .slice none 0 0] 27) = w2 at hM2 hw3 hk1' hk2'
  have HW2 := Lib.hid hw3
  have HBB := Lib.hid hbb
  rw [hbb] at hk1' hk2' hM2 ⊢
  have hA2 : MA w2 wkM (some ⟨bb, 0, none⟩) (some ⟨bb + 1, 0, none⟩) none := ⟨.inr ⟨bb, 0, rfl, fun k x hk => by
      obtain rfl : k = 0 := by have := (List.getElem?_eq_some_iff.1 hk).1; simp [wkM] at this; omega
      cases hk; rw [cell_of_row _ _ _ _ _ _ hk1']; rfl⟩, .inr ⟨bb + 1, 0, rfl, fun k x hk => by
      obtain rfl : k = 0 := by have := (List.getElem?_eq_some_iff.1 hk).1; simp [wkM] at this; omega
      cases hk; rw [cell_of_row _ _ _ _ _ _ hk2']; rfl⟩, .inl rfl⟩
  have HA2 := Lib.hid hA2
  have HL2 := Lib.hid (lib_later hL hw3)
  have HM2 := Lib.hid hM2
  have hE : Calls Tryd.prog 13 #[.agg #[.int .u16 130, .string ⟨#[99]⟩, .slice (some ⟨bb, 0, none⟩) 1 1, .slice (some ⟨bb + 1, 0, none⟩) 1 1, .string ⟨#[]⟩, .slice none 0 0]] w2 (EncPost wkM w2) := encode_any wkM _ 1 _ 1 none 0 w2 wk_mb (by decide) hA2 HL2.out
  unfold EncPost at hE
  rw [wk_enc] at hE
  have HE := Lib.hid hE
  obtain ⟨d0, d1, d2, d3, d4, d5⟩ := hM2.cells
  clear hE hA2 hM2 hw3 hk1' hk2' hbb hL
  go_upto_region 4 with (first
    | (go_at_call 13; (with_reducible refine Calls.mono HE.out ?_); rintro e w3 ⟨v3, rfl, hv3, hb3⟩; obtain ⟨a3, c3, rfl⟩ := own_slice hv3; have HV3 := Lib.hid hv3; have HB3 := Lib.hid hb3; have HL3 := Lib.hid (lib_later HL2.out hb3); obtain ⟨k1, k2, k3⟩ := byt_cap hv3; have HD := decode_any a3 c3 wkB w3 k1 k2 (Src.of_byt hv3) k3 HL3.out; rw [wk_dec] at HD; unfold DecPost at HD; have HD' := Lib.hid HD; clear hv3 hb3 k1 k2 k3 HD)
    | (go_at_call 16; (with_reducible refine Calls.mono HD'.out ?_); rintro e w4 ⟨nv, tv, rv, rfl, ho4, hb4⟩; obtain ⟨na, nc, ta, tc, ra, rc, rfl, rfl, rfl, hma⟩ := ho4.ma; have HMA4 := Lib.hid hma; have HB4 := Lib.hid hb4; clear ho4 hb4 hma))
  have hb5 := below_new w4 (.cells #[.int .u16 (wkM.kind : Int), .string wkM.chan, .slice na wkM.nums.length nc, .slice ta wkM.terms.length tc, .string wkM.text, .slice ra wkM.more.length rc] 27)
  have hm5 : MC (w4.alloc (.cells #[.int .u16 (wkM.kind : Int), .string wkM.chan, .slice na wkM.nums.length nc, .slice ta wkM.terms.length tc, .string wkM.text, .slice ra wkM.more.length rc] 27)) w4.heap.size #[.int .u16 (wkM.kind : Int), .string wkM.chan, .slice na wkM.nums.length nc, .slice ta wkM.terms.length tc, .string wkM.text, .slice ra wkM.more.length rc] := heap_alloc_at w4 _
  have hb24 := HB3.out.trans (HB4.out.mono HB3.out.size)
  have hb25 := hb24.trans (hb5.mono hb24.size)
  have hmm : MC (w4.alloc (.cells #[.int .u16 (wkM.kind : Int), .string wkM.chan, .slice na wkM.nums.length nc, .slice ta wkM.terms.length tc, .string wkM.text, .slice ra wkM.more.length rc] 27)) (bb + 2) #[.int .u16 (wkM.kind : Int), .string wkM.chan, .slice (some ⟨bb, 0, none⟩) wkM.nums.length 1, .slice (some ⟨bb + 1, 0, none⟩) wkM.terms.length 1, .string wkM.text, .slice none wkM.more.length 0] := HM2.out.later hb25
  have HS := same_m wkM (some ⟨bb, 0, none⟩) 1 (some ⟨bb + 1, 0, none⟩) 1 none 0 na nc ta tc ra rc (w4.alloc (.cells #[.int .u16 (wkM.kind : Int), .string wkM.chan, .slice na wkM.nums.length nc, .slice ta wkM.terms.length tc, .string wkM.text, .slice ra wkM.more.length rc] 27)) (by decide) (by decide) (by decide) (HA2.out.later hb25) (HMA4.out.later hb5)
  have hcv : (convert 33 9 (.slice a3 wkB.length c3)).run Tryd.prog (w4.alloc (.cells #[.int .u16 (wkM.kind : Int), .string wkM.chan, .slice na wkM.nums.length nc, .slice ta wkM.terms.length tc, .string wkM.text, .slice ra wkM.more.length rc] 27)) = .ok (.string ⟨#[0, 130, 1, 99, 1, 0, 0, 0, 0, 0, 0, 0, 1, 1, 3, 110, 55, 59, 0]⟩) (w4.alloc (.cells #[.int .u16 (wkM.kind : Int), .string wkM.chan, .slice na wkM.nums.length nc, .slice ta wkM.terms.length tc, .string wkM.text, .slice ra wkM.more.length rc] 27)) := conv_src _ a3 wkB c3 ((Src.of_byt HV3.out).below (HB4.out.trans (hb5.mono HB4.out.size)))
  have HW5 : Hid (Below w.heap.size w (w4.alloc (.cells #[.int .u16 (wkM.kind : Int), .string wkM.chan, .slice na wkM.nums.length nc, .slice ta wkM.terms.length tc, .string wkM.text, .slice ra wkM.more.length rc] 27))) := HW2.out.trans (hb25.mono HW2.out.size)
  clear hb5 hb24 d0 d1 d2 d3 d4 d5
  obtain ⟨g0, g1, g2, g3, g4, g5⟩ := hmm.cells
  obtain ⟨q0, q1, q2, q3, q4, q5⟩ := hm5.cells
  have HS' := Lib.hid HS
  clear HS hm5 hmm hb25
  generalize w4.alloc (.cells #[.int .u16 (wkM.kind : Int), .string wkM.chan, .slice na wkM.nums.length nc, .slice ta wkM.terms.length tc, .string wkM.text, .slice ra wkM.more.length rc] 27) = w5 at *
  go_wp2_with (go_at_call 15; (with_reducible refine Calls.mono HS'.out ?_); rintro e w6 ⟨rfl, hb6⟩; have HB6 := Lib.hid hb6; clear hb6)
  go_ret
  exact ⟨rfl, HW5.out.trans (HB6.out.mono HW5.out.size)⟩
end Go.Proofs.YtakfhoodjcfpcaaDoor.T
