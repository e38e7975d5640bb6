/- wire: may -/
import Derived.Calls
import Derived.WalkKit
import Derived.WalkSpells
import Derived.WalkLawsBesides
import Derived.Handy
import Derived.Lib.Hide
import Derived.Deep.AppendLies
import Derived.Deep.LoopGhost
import Derived.Outline
import Derived.Laws.BitsAllLaws
import Derived.Laws.BitsLemmas
import Derived.Lib.AppendZeros
import Derived.Lib.AppendZerosOnto
import Derived.Maps.AppendAt
import Derived.Laws.Append
import Derived.Laws.AppendOwn
import Derived.Deep.QuietTactic
import Derived.BigQuiet
import Derived.Deep.RegionHeld3
import Derived.Lib.ConvBytes
import Derived.Laws.BytesArg
import Derived.Lib.ParseIntB
import Derived.Lib.Bytealg
import Derived.Shelf.Small.Strs
import Derived.Shelf.Strconv.Itoa0
import Derived.Shelf.Strconv.ParseIntEmpty
import Derived.Shelf.LaysM
import Derived.Shelf.Strconv.Clone
import Derived.Shelf.Strconv.SyntaxError
import Derived.Shelf.LaysC
import Derived.Shelf.Strconv.ToError
import Derived.Shelf.Strconv.Lower
import Derived.Shelf.Strconv.ParseUint10
import Derived.Shelf.Strconv.ParseUint10Empty
import Derived.Shelf.Strconv.ParseUint10Any
import Derived.Shelf.Strconv.ParseInt10
import Derived.Shelf.Strconv.RangeError
import Derived.Shelf.Strconv.ToErrorRange
import Derived.Shelf.Strconv.ParseUintEmpty
import Derived.Shelf.Strconv.ParseUint10b64
import Derived.Shelf.Strconv.ParseUint10b32
import Derived.Shelf.Strconv.ParseUint10b16
import Derived.Shelf.Strconv.ParseUint10b8
import Derived.Shelf.Strconv.ParseUint10At
import Derived.Shelf.Strconv.ParseInt10At64
import Derived.Shelf.Strconv.ParseInt10At32
import Derived.Shelf.Strconv.ParseInt10At16
import Derived.Shelf.Strconv.ParseInt10At8
import Derived.Shelf.Strconv.ParseInt10All
import Derived.Shelf.Strconv.ParseIntPublic10
import Derived.Shelf.Strconv.ErrVarParseInt
import Derived.Shelf.Strings.Search1
import Derived.Lib.Strings
import Derived.Lib.IndexBytes
import Derived.BigRegion
import Derived.Deep.RegionLaw
import Derived.Deep.Onto
import Derived.Deep.WholeRow
import Derived.Deep.CutRange
import Derived.Laws.CopyOwn
import Derived.Below
import Derived.WalkMore
import Derived.MapKept
import Derived.Carry
import Derived.Test.YtakfhoodjcfpcaaDoorRows
import Derived.Test.YtakfhoodjcfpcaaDoorProg
import Derived.Test.YtakfhoodjcfpcaaDoorPl
import Derived.Test.YtakfhoodjcfpcaaDoorTlA
import Derived.Test.YtakfhoodjcfpcaaDoorTlF
import Derived.Test.YtakfhoodjcfpcaaDoorTlH
import Derived.Test.YtakfhoodjcfpcaaDoorTlI
import Derived.Test.YtakfhoodjcfpcaaDoorTlR
import Derived.Test.YtakfhoodjcfpcaaDoorTlU
import Derived.Test.YtakfhoodjcfpcaaDoorNumB
import Derived.Test.YtakfhoodjcfpcaaDoorTa
import Derived.Test.YtakfhoodjcfpcaaDoorRefG
import Derived.Test.YtakfhoodjcfpcaaDoorWirP
import Derived.Test.YtakfhoodjcfpcaaDoorWrA
import Derived.Test.YtakfhoodjcfpcaaDoorWrC
import Derived.Test.YtakfhoodjcfpcaaDoorWrD
namespace Go.Proofs.YtakfhoodjcfpcaaDoor.T
set_option linter.unusedVariables false
set_option maxRecDepth 100000
open Go.RowKit Tlv Wire
/-! wire: may -/
theorem unk_nil (L : List Rec) : unkN [] L = unk L := by
  unfold unkN unk
  congr 1
  funext r
  unfold pU hasN
  simp only [List.any_nil, Bool.not_false, Bool.and_true]
  rw [Bool.eq_iff_iff, beq_iff_eq, beq_iff_eq]
  omega
theorem unknown_nil (a : Option Addr) (c : Nat) (L : List Rec) (w : World) (hm : L.length ≤ 4000) (hr : Recs w a L) : Calls Tryd.prog 42 #[.slice a L.length c, .slice none 0 0] w (BoolPost (unk L) w) := by
  rw [← unk_nil]
  exact unknown_any none 0 [] a c L w hm (by simp) hr (.inl rfl)
/-- sizes of a message -/
structure MB (m : Wire.Msg) : Prop where
  chan : m.chan.size ≤ 100000
  text : m.text.size ≤ 100000
  ln : m.nums.length ≤ 100000
  lt : m.terms.length ≤ 100000
  terms : ∀ t ∈ m.terms, t.size ≤ 100000
  lm : m.more.length ≤ 4000
  types : ∀ r ∈ m.more, r.t < 18446744073709551616
  bodies : ∀ r ∈ m.more, r.body.length ≤ 100000
/-- a message's parts lie there -/
structure MA (w : World) (m : Wire.Msg) (na ta ra : Option Addr) : Prop where
  nums : Ints w na m.nums
  terms : Strs w ta m.terms
  more : Recs w ra m.more
theorem MA.later {w w' : World} {m : Wire.Msg} {na ta ra : Option Addr} (h : MA w m na ta ra) (hb : Below w.heap.size w w') : MA w' m na ta ra := ⟨h.nums.later hb, h.terms.later hb, h.more.below hb⟩
def MC (w : World) (mb : Nat) (cs : Array Value) : Prop := w.heap[mb]? = some (.cells cs 27 (0, 0))
theorem MC.later {w w' : World} {mb : Nat} {cs : Array Value} (h : MC w mb cs) (hb : Below w.heap.size w w') : MC w' mb cs := (hb.block mb (lt_of_heap h)).trans h
theorem MC.cells {w : World} {mb : Nat} {a b c d e f : Value} (h : MC w mb #[a, b, c, d, e, f]) : w.cell? ⟨mb, 0, none⟩ = some a ∧ w.cell? ⟨mb, 1, none⟩ = some b ∧ w.cell? ⟨mb, 2, none⟩ = some c ∧ w.cell? ⟨mb, 3, none⟩ = some d ∧ w.cell? ⟨mb, 4, none⟩ = some e ∧ w.cell? ⟨mb, 5, none⟩ = some f := by
  refine ⟨?_, ?_, ?_, ?_, ?_, ?_⟩ <;> (rw [cell_of_row _ _ _ _ _ _ h]; rfl)
theorem nat_beq (a b : Nat) : (a == b) = ((a : Int) == (b : Int)) := by
  rw [Bool.eq_iff_iff, beq_iff_eq, beq_iff_eq]
  omega
theorem nat_le (a b : Nat) : decide (a ≤ b) = decide ((a : Int) ≤ (b : Int)) := by
  rw [Bool.eq_iff_iff, decide_eq_true_iff, decide_eq_true_iff]
  omega
theorem nat_odd (a : Nat) : (a % 2 == 1) = !((a : Int) % 2 == 0) := by
  rw [Bool.eq_iff_iff]
  simp only [beq_iff_eq, Bool.not_eq_true', beq_eq_false_iff_ne, ne_eq]
  omega
theorem may_form (c3 u rb : Bool) (k nl tl c1 c2 cs ts sE : Nat) : ((if c3 = true then nl == c1 && tl == c2 else k % 2 == 1 && decide (nl ≤ 32) && decide (tl ≤ 32)) && decide (cs ≤ 100) && decide (ts ≤ 4096) && !u && sE == 0 && rb) =
    ((if c3 = true then ((nl : Int) == (c1 : Int)) && ((tl : Int) == (c2 : Int)) else !((k : Int) % 2 == 0) && decide ((nl : Int) ≤ 32) && decide ((tl : Int) ≤ 32)) && decide ((cs : Int) ≤ 100) && decide ((ts : Int) ≤ 4096) && !u && sE == 0 && rb) := by
  rw [nat_beq nl c1, nat_beq tl c2, nat_odd, nat_le nl, nat_le tl, nat_le cs, nat_le ts]
  rfl
set_option maxHeartbeats 8000000 in
theorem may_any (m : Wire.Msg) (na : Option Addr) (nc : Nat) (ta : Option Addr) (tc : Nat) (ra : Option Addr) (rc : Nat) (w : World) (hB : MB m) (hA : MA w m na ta ra) (hL : LibOk w) :
    Calls Tryd.prog 23 #[.agg #[.int .u16 (m.kind : Int), .string m.chan, .slice na m.nums.length nc, .slice ta m.terms.length tc, .string m.text, .slice ra m.more.length rc]] w (BoolPost (mayN R m) w) := by
  obtain ⟨kind, chan, nums, terms, text, more⟩ := m
  obtain ⟨B, hBv⟩ : ∃ B, mayN R ⟨kind, chan, nums, terms, text, more⟩ = B := ⟨_, rfl⟩
  rw [hBv]
  unfold mayN fitN at hBv
  rw [show (Wire.Msg.terms ⟨kind, chan, nums, terms, text, more⟩).all (fun t => R t.data.toList) = RA terms from rfl] at hBv
  dsimp only at hBv ⊢
  have HA := Lib.hid hA
  have HL := Lib.hid hL
  have hc := counts_any kind
  unfold CntPost at hc
  obtain ⟨c1, hc1⟩ : ∃ c1 : Nat, (countsN kind).1 = c1 := ⟨_, rfl⟩
  obtain ⟨c2, hc2⟩ : ∃ c2 : Nat, (countsN kind).2.1 = c2 := ⟨_, rfl⟩
  obtain ⟨c3, hc3⟩ : ∃ c3, (countsN kind).2.2 = c3 := ⟨_, rfl⟩
  obtain ⟨u, hu⟩ : ∃ u, unk more = u := ⟨_, rfl⟩
  obtain ⟨sE, hsE⟩ : ∃ sE, (streamN more).2 = sE := ⟨_, rfl⟩
  obtain ⟨ra', hra⟩ : ∃ r, RA terms = r := ⟨_, rfl⟩
  rw [hc1, hc2, hc3] at hBv
  rw [hu, hsE, hra] at hBv
  simp only [hc1, hc2, hc3] at hc
  have HCT := Lib.hid hc
  have HU := Lib.hid (fun (W : World) (h : Recs W ra more) => unknown_nil ra rc more W hB.lm h)
  have HS := Lib.hid (fun (W : World) (h : Recs W ra more) => stream_any ra rc more W (by have := hB.lm; unfold maxLen; simp only at this; omega) h hB.types (fun r hr => Nat.le_trans (hB.bodies r hr) (by omega)))
  have HW := Lib.hid (fun (W : World) (h : Strs W ta terms) (hL : LibOk W) => anyw ta tc terms ra' hra W (by have := hB.lt; simp only at this; omega) (fun t ht => Nat.le_trans (hB.terms t ht) (by unfold maxLen; omega)) h hL)
  unfold StreamPost at HS
  rw [hu] at HU
  rw [hsE] at HS
  rw [may_form] at hBv
  have HBV := Lib.hid hBv
  have hk0 : (0 : Int) ≤ (kind : Int) := by omega
  clear hA hL hc1 hc2 hc3 hu hsE hra hc hBv hB
  have hmc : MC (w.alloc (.cells #[.int .u16 (kind : Int), .string chan, .slice na nums.length nc, .slice ta terms.length tc, .string text, .slice ra more.length rc] 27)) w.heap.size #[.int .u16 (kind : Int), .string chan, .slice na nums.length nc, .slice ta terms.length tc, .string text, .slice ra more.length rc] := heap_alloc_at w _
  have HMC := Lib.hid hmc
  have HA0 := Lib.hid (HA.out.later (below_new w (.cells #[.int .u16 (kind : Int), .string chan, .slice na nums.length nc, .slice ta terms.length tc, .string text, .slice ra more.length rc] 27)))
  have HB0 := Lib.hid (below_new w (.cells #[.int .u16 (kind : Int), .string chan, .slice na nums.length nc, .slice ta terms.length tc, .string text, .slice ra more.length rc] 27))
  clear hmc
  go_enter Tryd.func23, Tryd.ntmps23
  go_wp2_with (first
    | (go_at_call 10; (with_reducible refine Calls.mono (HCT.out _) ?_); rintro e w1 ⟨rfl, hb1⟩; obtain ⟨d0, d1, d2, d3, d4, d5⟩ := (HMC.out.later hb1).cells; have HA1 := Lib.hid (HA0.out.later hb1); have HB1 := Lib.hid (HB0.out.trans (hb1.mono HB0.out.size)); have HM1 := Lib.hid (HMC.out.later hb1); clear hb1)
    | (go_at_call 42; (with_reducible refine Calls.mono (HU.out _ HA1.out.more) ?_); rintro e w2 ⟨rfl, hb2⟩; obtain ⟨f0, f1, f2, f3, f4, f5⟩ := (HM1.out.later hb2).cells; have HA2 := Lib.hid (HA1.out.later hb2); have HB2 := Lib.hid (HB1.out.trans (hb2.mono HB1.out.size)); have HM2 := Lib.hid (HM1.out.later hb2); clear hb2)
    | (go_at_call 27; (with_reducible refine Calls.mono (HS.out _ HA2.out.more) ?_); rintro e w3 ⟨v3, rfl, hv3, hb3⟩; obtain ⟨g0, g1, g2, g3, g4, g5⟩ := (HM2.out.later hb3).cells; have HA3 := Lib.hid (HA2.out.later hb3); have HB3 := Lib.hid (HB2.out.trans (hb3.mono HB2.out.size)); clear hb3 hv3)
    | (go_at_call 43; (with_reducible refine Calls.mono (HW.out _ HA3.out.terms (lib_later HL.out HB3.out)) ?_); rintro e w4 ⟨rfl, hb4⟩; have HB4 := Lib.hid (HB3.out.trans (hb4.mono HB3.out.size)); clear hb4))
  all_goals go_ret
  all_goals refine ⟨?_, by first | exact HB4.out | exact HB3.out | exact HB2.out | exact HB1.out⟩
  all_goals
    have hf := HBV.out
    clear HBV HA HL HCT HU HS HW HMC HA0 HB0
    subst hf
    try clear d0 d1 d2 d3 d4 d5
    try clear f0 f1 f2 f3 f4 f5
    try clear g0 g1 g2 g3 g4 g5
    simp only [Ending.returned.injEq]
  all_goals (try simp_all)
  all_goals (intros; exfalso; first | omega | (simp_all; done) | (simp_all; omega))
end Go.Proofs.YtakfhoodjcfpcaaDoor.T
