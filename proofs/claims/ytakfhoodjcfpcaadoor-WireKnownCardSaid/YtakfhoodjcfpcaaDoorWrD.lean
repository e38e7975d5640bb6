/- wire: wrong terms -/
import Derived.Calls
import Derived.WalkKit
import Derived.WalkSpells
import Derived.WalkLawsBesides
import Derived.Handy
import Derived.Lib.Hide
import Derived.Deep.AppendLies
import Derived.Deep.LoopGhost
import Derived.Outline
import Derived.Laws.BitsAllLaws
import Derived.Laws.BitsLemmas
import Derived.Lib.AppendZeros
import Derived.Lib.AppendZerosOnto
import Derived.Maps.AppendAt
import Derived.Laws.Append
import Derived.Laws.AppendOwn
import Derived.Deep.QuietTactic
import Derived.BigQuiet
import Derived.Deep.RegionHeld3
import Derived.Lib.ConvBytes
import Derived.Laws.BytesArg
import Derived.Lib.ParseIntB
import Derived.Lib.Bytealg
import Derived.Shelf.Small.Strs
import Derived.Shelf.Strconv.Itoa0
import Derived.Shelf.Strconv.ParseIntEmpty
import Derived.Shelf.LaysM
import Derived.Shelf.Strconv.Clone
import Derived.Shelf.Strconv.SyntaxError
import Derived.Shelf.LaysC
import Derived.Shelf.Strconv.ToError
import Derived.Shelf.Strconv.Lower
import Derived.Shelf.Strconv.ParseUint10
import Derived.Shelf.Strconv.ParseUint10Empty
import Derived.Shelf.Strconv.ParseUint10Any
import Derived.Shelf.Strconv.ParseInt10
import Derived.Shelf.Strconv.RangeError
import Derived.Shelf.Strconv.ToErrorRange
import Derived.Shelf.Strconv.ParseUintEmpty
import Derived.Shelf.Strconv.ParseUint10b64
import Derived.Shelf.Strconv.ParseUint10b32
import Derived.Shelf.Strconv.ParseUint10b16
import Derived.Shelf.Strconv.ParseUint10b8
import Derived.Shelf.Strconv.ParseUint10At
import Derived.Shelf.Strconv.ParseInt10At64
import Derived.Shelf.Strconv.ParseInt10At32
import Derived.Shelf.Strconv.ParseInt10At16
import Derived.Shelf.Strconv.ParseInt10At8
import Derived.Shelf.Strconv.ParseInt10All
import Derived.Shelf.Strconv.ParseIntPublic10
import Derived.Shelf.Strconv.ErrVarParseInt
import Derived.Shelf.Strings.Search1
import Derived.Lib.Strings
import Derived.Lib.IndexBytes
import Derived.BigRegion
import Derived.Deep.RegionLaw
import Derived.Deep.Onto
import Derived.Deep.WholeRow
import Derived.Deep.CutRange
import Derived.Laws.CopyOwn
import Derived.Below
import Derived.WalkMore
import Derived.MapKept
import Derived.Carry
import Derived.Test.YtakfhoodjcfpcaaDoorRows
import Derived.Test.YtakfhoodjcfpcaaDoorProg
import Derived.Test.YtakfhoodjcfpcaaDoorTlI
import Derived.Test.YtakfhoodjcfpcaaDoorTlR
import Derived.Test.YtakfhoodjcfpcaaDoorNumB
import Derived.Test.YtakfhoodjcfpcaaDoorTa
import Derived.Test.YtakfhoodjcfpcaaDoorTermM
import Derived.Test.YtakfhoodjcfpcaaDoorRefG
import Derived.Test.YtakfhoodjcfpcaaDoorWirP
import Derived.Test.YtakfhoodjcfpcaaDoorWrA
namespace Go.Proofs.YtakfhoodjcfpcaaDoor.T
set_option linter.unusedVariables false
set_option maxRecDepth 100000
open Go.RowKit Tlv Wire
/-! wire: may -/
theorem lib_later {w w' : World} (h : LibOk w) (hb : Below w.heap.size w w') : LibOk w' := fun g hg => by
  obtain ⟨ev, h1, h2⟩ := h g hg
  exact ⟨ev, cell_later hb h1, h2⟩
def Strs (w : World) (a : Option Addr) (L : List ByteArray) : Prop := L = [] ∨ ∃ b off, a = some ⟨b, off, none⟩ ∧ ∀ (k : Nat) (s : ByteArray), L[k]? = some s → w.cell? ⟨b, off + k, none⟩ = some (.string s)
theorem Strs.later {w w' : World} {a : Option Addr} {L : List ByteArray} (h : Strs w a L) (hb : Below w.heap.size w w') : Strs w' a L := by
  rcases h with h | ⟨b, off, ha, hk⟩
  · exact .inl h
  · exact .inr ⟨b, off, ha, fun k x hx => cell_later hb (hk k x hx)⟩
def Ints (w : World) (a : Option Addr) (L : List Int) : Prop := L = [] ∨ ∃ b off, a = some ⟨b, off, none⟩ ∧ ∀ (k : Nat) (x : Int), L[k]? = some x → w.cell? ⟨b, off + k, none⟩ = some (.int .i64 x)
theorem Ints.later {w w' : World} {a : Option Addr} {L : List Int} (h : Ints w a L) (hb : Below w.heap.size w w') : Ints w' a L := by
  rcases h with h | ⟨b, off, ha, hk⟩
  · exact .inl h
  · exact .inr ⟨b, off, ha, fun k x hx => cell_later hb (hk k x hx)⟩
def R (l : List UInt8) : Bool := rightB l
def RA (L : List ByteArray) : Bool := L.all fun t => R t.data.toList
theorem wrong_t (t : ByteArray) (w : World) (ht : t.size ≤ maxLen) (hL : LibOk w) : Calls Tryd.prog 44 #[.string t] w (BoolPost (!R t.data.toList) w) := by
  have H := Lib.hid (right_any t w ht hL)
  unfold R
  generalize rightB t.data.toList = b at H ⊢
  clear hL ht
  go_enter Tryd.func44, Tryd.ntmps44
  go_wp2_with (go_at_call 45; (with_reducible refine Calls.mono H.out ?_); rintro e w1 ⟨rfl, hb1⟩; have HB1 := Lib.hid hb1; clear hb1)
  go_ret
  exact ⟨rfl, HB1.out⟩
theorem wrong_t' (b : Bool) (t : ByteArray) (hb : R t.data.toList = b) (w : World) (ht : t.size ≤ maxLen) (hL : LibOk w) : Calls Tryd.prog 44 #[.string t] w (BoolPost (!b) w) := hb ▸ wrong_t t w ht hL
set_option maxHeartbeats 2000000 in
theorem idx_wrong (a : Option Addr) (c : Nat) (L : List ByteArray) (B : Bool) (hB : RA L = B) (w : World) (hm : L.length ≤ 100000000) (ht : ∀ t ∈ L, t.size ≤ maxLen) (hs : Strs w a L) (hL : LibOk w) :
    Calls Tryd.prog 58 #[.slice a L.length c, .func (.func 44) #[] #[]] w fun e w' => ∃ n : Int, e = .returned (.int .i64 n) ∧ decide (0 ≤ n) = !B ∧ Below w.heap.size w w' := by
  have HS := Lib.hid hs; have HT := Lib.hid ht; have HL := Lib.hid hL
  have HB0 : Hid (RA (L.drop 0) = B) := hB
  clear hs ht hL hB
  go_enter Tryd.func58, Tryd.ntmps58
  go_wp2
  go_loopw [8] (fun iv wr => ∃ j : Nat, j ≤ L.length ∧ iv = .int .i64 j ∧ Hid (RA (L.drop j) = B) ∧ Hid (Below w.heap.size w wr)) (fun iv _ => L.length - (intOf iv).toNat)
  case atStart => exact ⟨0, Nat.zero_le _, rfl, HB0.out, Below.refl _ _⟩
  case round =>
    obtain ⟨j, hj, rfl, hR, hBw⟩ := hrel
    by_cases hlt : j < L.length
    · obtain ⟨s, hs⟩ : ∃ s, L[j]? = some s := ⟨_, List.getElem?_eq_getElem hlt⟩
      have hne : L ≠ [] := by intro h; rw [h] at hlt; simp at hlt
      obtain ⟨b, off, rfl, hrec⟩ := (HS.out.later hBw.out).resolve_left hne
      have c0 := hrec j s hs
      have hsz := HT.out s (List.mem_of_getElem? hs)
      have HSZ := Lib.hid hsz
      have hjl : (j : Int) < (L.length : Int) := by omega
      have hd : RA (L.drop j) = (R s.data.toList && RA (L.drop (j + 1))) := by
        rw [List.drop_eq_getElem_cons hlt]
        rw [List.getElem?_eq_getElem hlt] at hs
        rw [Option.some.inj hs]
        rfl
      have HD := Lib.hid hd
      clear hrec hs hsz hd
      cases hr : R s.data.toList with
      | false =>
        have HR := Lib.hid hr
        clear hr
        go_wp2_with (go_at_call 44; (with_reducible refine Calls.mono (wrong_t' false s HR.out _ HSZ.out (lib_later HL.out hBw.out)) ?_); rintro e w1 ⟨rfl, hb1⟩; have HB1 := Lib.hid hb1; clear hb1)
        go_ret
        refine ⟨_, rfl, ?_, hBw.out.trans (HB1.out.mono hBw.out.size)⟩
        have h := hR.out
        rw [HD.out, HR.out] at h
        rw [← h]
        simp
      | true =>
        have HR := Lib.hid hr
        clear hr
        go_wp2_with (go_at_call 44; (with_reducible refine Calls.mono (wrong_t' true s HR.out _ HSZ.out (lib_later HL.out hBw.out)) ?_); rintro e w1 ⟨rfl, hb1⟩; have HB1 := Lib.hid hb1; clear hb1)
        go_roundw
        case rel =>
          refine ⟨j + 1, by omega, by go_num, ?_, hBw.out.trans (HB1.out.mono hBw.out.size)⟩
          have h := hR.out
          rw [HD.out, HR.out, Bool.true_and] at h
          exact h
        case measure => simp [intOf]; omega
    · obtain rfl : j = L.length := by omega
      go_wp2_with fail
      go_ret
      refine ⟨_, rfl, ?_, hBw.out⟩
      have h := hR.out
      rw [List.drop_length] at h
      rw [← h]
      decide
theorem anyw (a : Option Addr) (c : Nat) (L : List ByteArray) (B : Bool) (hB : RA L = B) (w : World) (hm : L.length ≤ 100000000) (ht : ∀ t ∈ L, t.size ≤ maxLen) (hs : Strs w a L) (hL : LibOk w) :
    Calls Tryd.prog 43 #[.slice a L.length c, .func (.func 44) #[] #[]] w (BoolPost (!B) w) := by
  have H := Lib.hid (idx_wrong a c L B hB w hm ht hs hL)
  clear hs ht hL hB
  go_enter Tryd.func43, Tryd.ntmps43
  go_wp2_with (go_at_call 58; (with_reducible refine Calls.mono H.out ?_); rintro e w1 ⟨n, rfl, hn, hb1⟩; have HB1 := Lib.hid hb1; clear hb1)
  go_ret
  exact ⟨rfl, HB1.out⟩
end Go.Proofs.YtakfhoodjcfpcaaDoor.T
