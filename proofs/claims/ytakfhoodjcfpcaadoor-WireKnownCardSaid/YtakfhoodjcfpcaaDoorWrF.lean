/- wire: Encode -/
import Derived.Calls
import Derived.WalkKit
import Derived.WalkSpells
import Derived.WalkLawsBesides
import Derived.Handy
import Derived.Lib.Hide
import Derived.Deep.AppendLies
import Derived.Deep.LoopGhost
import Derived.Outline
import Derived.Laws.BitsAllLaws
import Derived.Laws.BitsLemmas
import Derived.Lib.AppendZeros
import Derived.Lib.AppendZerosOnto
import Derived.Maps.AppendAt
import Derived.Laws.Append
import Derived.Laws.AppendOwn
import Derived.Deep.QuietTactic
import Derived.BigQuiet
import Derived.Deep.RegionHeld3
import Derived.Lib.ConvBytes
import Derived.Laws.BytesArg
import Derived.Lib.ParseIntB
import Derived.Lib.Bytealg
import Derived.Shelf.Small.Strs
import Derived.Shelf.Strconv.Itoa0
import Derived.Shelf.Strconv.ParseIntEmpty
import Derived.Shelf.LaysM
import Derived.Shelf.Strconv.Clone
import Derived.Shelf.Strconv.SyntaxError
import Derived.Shelf.LaysC
import Derived.Shelf.Strconv.ToError
import Derived.Shelf.Strconv.Lower
import Derived.Shelf.Strconv.ParseUint10
import Derived.Shelf.Strconv.ParseUint10Empty
import Derived.Shelf.Strconv.ParseUint10Any
import Derived.Shelf.Strconv.ParseInt10
import Derived.Shelf.Strconv.RangeError
import Derived.Shelf.Strconv.ToErrorRange
import Derived.Shelf.Strconv.ParseUintEmpty
import Derived.Shelf.Strconv.ParseUint10b64
import Derived.Shelf.Strconv.ParseUint10b32
import Derived.Shelf.Strconv.ParseUint10b16
import Derived.Shelf.Strconv.ParseUint10b8
import Derived.Shelf.Strconv.ParseUint10At
import Derived.Shelf.Strconv.ParseInt10At64
import Derived.Shelf.Strconv.ParseInt10At32
import Derived.Shelf.Strconv.ParseInt10At16
import Derived.Shelf.Strconv.ParseInt10At8
import Derived.Shelf.Strconv.ParseInt10All
import Derived.Shelf.Strconv.ParseIntPublic10
import Derived.Shelf.Strconv.ErrVarParseInt
import Derived.Shelf.Strings.Search1
import Derived.Lib.Strings
import Derived.Lib.IndexBytes
import Derived.BigRegion
import Derived.Deep.RegionLaw
import Derived.Deep.Onto
import Derived.Deep.WholeRow
import Derived.Deep.CutRange
import Derived.Laws.CopyOwn
import Derived.Below
import Derived.WalkMore
import Derived.MapKept
import Derived.Carry
import Derived.Test.YtakfhoodjcfpcaaDoorRows
import Derived.Test.YtakfhoodjcfpcaaDoorProg
import Derived.Test.YtakfhoodjcfpcaaDoorPl
import Derived.Test.YtakfhoodjcfpcaaDoorTlA
import Derived.Test.YtakfhoodjcfpcaaDoorTlB
import Derived.Test.YtakfhoodjcfpcaaDoorTlD
import Derived.Test.YtakfhoodjcfpcaaDoorTlF
import Derived.Test.YtakfhoodjcfpcaaDoorTlH
import Derived.Test.YtakfhoodjcfpcaaDoorTlI
import Derived.Test.YtakfhoodjcfpcaaDoorNumB
import Derived.Test.YtakfhoodjcfpcaaDoorTa
import Derived.Test.YtakfhoodjcfpcaaDoorTermM
import Derived.Test.YtakfhoodjcfpcaaDoorRefG
import Derived.Test.YtakfhoodjcfpcaaDoorWirP
import Derived.Test.YtakfhoodjcfpcaaDoorWrA
import Derived.Test.YtakfhoodjcfpcaaDoorWrD
import Derived.Test.YtakfhoodjcfpcaaDoorWrE
namespace Go.Proofs.YtakfhoodjcfpcaaDoor.T
set_option linter.unusedVariables false
set_option maxRecDepth 100000
open Go.RowKit Tlv Wire
/-! wire: Encode -/
theorem right_size {l : List UInt8} (h : R l = true) : l.length ≤ 16384 := by
  unfold R rightB readP at h
  rcases Nat.lt_or_ge 16384 l.length with h1 | h1
  · rw [if_neg (by omega)] at h; cases h
  · exact h1
def E1 (m : Wire.Msg) : List UInt8 := be 2 m.kind
def E2 (m : Wire.Msg) : List UInt8 := E1 m ++ tx m.chan
def E3 (m : Wire.Msg) : List UInt8 := E2 m ++ putN m.nums.length
def E4 (m : Wire.Msg) : List UInt8 := (E3 m ++ nb m.nums) ++ putN m.terms.length
def E5 (m : Wire.Msg) : List UInt8 := E4 m ++ m.terms.flatMap tx
def E6 (m : Wire.Msg) : List UInt8 := E5 m ++ tx m.text
theorem enc_E (m : Wire.Msg) : encB m = E6 m ++ (streamN m.more).1 := by simp [encB, hd, E6, E5, E4, E3, E2, E1]
theorem flat_len (L : List ByteArray) (h : ∀ t ∈ L, t.size ≤ 16384) : (L.flatMap tx).length ≤ 16393 * L.length := by
  induction L with
  | nil => simp
  | cons t L ih =>
    have h1 := tx_len t
    have h2 := h t (List.mem_cons_self ..)
    have h3 := ih (fun x hx => h x (List.mem_cons_of_mem _ hx))
    rw [List.flatMap_cons, List.length_append, List.length_cons]
    omega
/-- how long they are -/
structure EL (m : Wire.Msg) : Prop where
  l1 : (E1 m).length ≤ 2
  l2 : (E2 m).length ≤ 111
  l3 : (E3 m).length ≤ 120
  l4 : (E4 m).length ≤ 400
  l5 : (E5 m).length ≤ 530000
  l6 : (E6 m).length ≤ 540000
  ls : (streamN m.more).1.length ≤ 32768
  ln : m.nums.length ≤ 32
  lt : m.terms.length ≤ 32
  lc : m.chan.size ≤ 100
  lx : m.text.size ≤ 4096
  ts : ∀ t ∈ m.terms, t.size ≤ 16384
  se : (streamN m.more).2 = 0
theorem el_of (m : Wire.Msg) (h : mayN R m = true) : EL m := by
  obtain ⟨a, b, c, d⟩ := may_len R h
  have hs := may_stream R h
  have ht : ∀ t ∈ m.terms, t.size ≤ 16384 := fun t ht => by
    have h2 : m.terms.all (fun t => R t.data.toList) = true := by
      unfold mayN at h
      simp only [Bool.and_eq_true] at h
      exact h.2
    have := right_size (List.all_eq_true.1 h2 t ht)
    have e : t.data.toList.length = t.size := by cases t; rfl
    omega
  have hx : (streamN m.more).1.length ≤ 32768 := by
    unfold streamN
    split
    · simp
    · split
      · simp
      · split
        · simp
        · show (encAll m.more).length ≤ _; omega
  have l1 : (E1 m).length ≤ 2 := by unfold E1; rw [be_length]; omega
  have l2 : (E2 m).length ≤ 111 := by unfold E2; have := tx_len m.chan; rw [List.length_append]; omega
  have l3 : (E3 m).length ≤ 120 := by unfold E3; have := (putN_pos m.nums.length).2; rw [List.length_append]; omega
  have l4 : (E4 m).length ≤ 400 := by unfold E4; have := (putN_pos m.terms.length).2; rw [List.length_append, List.length_append, nb_len]; omega
  have l5 : (E5 m).length ≤ 530000 := by unfold E5; have := flat_len m.terms ht; rw [List.length_append]; omega
  have l6 : (E6 m).length ≤ 540000 := by unfold E6; have := tx_len m.text; rw [List.length_append]; omega
  exact ⟨l1, l2, l3, l4, l5, l6, hx, a, b, c, d, ht, hs⟩
theorem WB.fresh (w : World) : WB (w.alloc (.cells #[.slice none 0 0] 65)) w.heap.size [] := ⟨_, heap_alloc_at w _, byt_nil _ _⟩
def EncPost (m : Wire.Msg) (w : World) (e : Ending) (w' : World) : Prop := ∃ v, e = .returned (.tuple #[v, .int .i64 ((encN R m).2 : Int)]) ∧ Byt w' w.heap.size v (encN R m).1 ∧ Below w.heap.size w w'
def boxV (m : Wire.Msg) (na : Option Addr) (nc : Nat) (ta : Option Addr) (tc : Nat) (ra : Option Addr) (rc : Nat) : Obj := .cells #[.int .u16 (m.kind : Int), .string m.chan, .slice na m.nums.length nc, .slice ta m.terms.length tc, .string m.text, .slice ra m.more.length rc] 27
theorem encode_no (m : Wire.Msg) (na : Option Addr) (nc : Nat) (ta : Option Addr) (tc : Nat) (ra : Option Addr) (rc : Nat) (w : World) (hB : MB m) (hA : MA w m na ta ra) (hL : LibOk w) (hno : mayN R m = false) :
    Calls Tryd.prog 13 #[.agg #[.int .u16 (m.kind : Int), .string m.chan, .slice na m.nums.length nc, .slice ta m.terms.length tc, .string m.text, .slice ra m.more.length rc]] w (EncPost m w) := by
  have hE : encN R m = ([], 80) := by unfold encN; rw [hno]; rfl
  have HM := may_any m na nc ta tc ra rc _ hB (hA.later (below_new w (boxV m na nc ta tc ra rc))) (lib_later hL (below_new w (boxV m na nc ta tc ra rc)))
  rw [hno] at HM
  unfold boxV at HM
  unfold EncPost
  rw [hE]
  have HM' := Lib.hid HM
  clear HM hE hno hB hA hL
  go_enter Tryd.func13, Tryd.ntmps13
  go_wp2_with (go_at_call 23; (with_reducible refine Calls.mono HM'.out ?_); rintro e w1 ⟨rfl, hb1⟩; have HB1 := Lib.hid hb1; clear hb1)
  go_ret2
  exact ⟨_, rfl, byt_nil _ _, (below_new w _).trans (HB1.out.mono (below_new w _).size)⟩
theorem wb_cell {w : World} {wb : Nat} {l : List UInt8} (h : WB w wb l) : ∃ a c, w.cell? ⟨wb, 0, none⟩ = some (.slice a l.length c) ∧ Byt w (wb + 1) (.slice a l.length c) l := by
  obtain ⟨v, h1, h2⟩ := h
  obtain ⟨a, c, rfl⟩ := own_slice h2
  exact ⟨a, c, by rw [cell_of_row _ _ _ _ _ _ h1]; rfl, h2⟩
theorem nat64_eq (x : Int) : IntKind.u64.wrap x = ((nat64 x : Nat) : Int) := by
  unfold nat64 IntKind.wrap
  have e1 : (2 : Int) ^ IntKind.u64.bits = 18446744073709551616 := by decide
  simp [IntKind.signed, e1]
  omega
theorem nb_take (l : List Int) (k : Nat) (x : Int) (h : l[k]? = some x) : nb (l.take (k + 1)) = nb (l.take k) ++ be 8 (nat64 x) := by
  have hk := (List.getElem?_eq_some_iff.1 h).1
  rw [List.take_succ_eq_append_getElem hk]
  have : l[k] = x := by rw [List.getElem?_eq_getElem hk] at h; exact Option.some.inj h
  simp [nb, this]
theorem tx_take (l : List ByteArray) (k : Nat) (x : ByteArray) (h : l[k]? = some x) : (l.take (k + 1)).flatMap tx = (l.take k).flatMap tx ++ tx x := by
  have hk := (List.getElem?_eq_some_iff.1 h).1
  rw [List.take_succ_eq_append_getElem hk]
  have : l[k] = x := by rw [List.getElem?_eq_getElem hk] at h; exact Option.some.inj h
  simp [this]
theorem number_2 (wb : Nat) (head : List UInt8) (n : Nat) (n0 : Int) (h0 : n0 = (n : Int)) (w : World) (hW : WB w wb head) (hh : head.length ≤ 900000) : Calls Tryd.prog 24 #[.pointer (some ⟨wb, 0, none⟩), .int .u64 n0, .int .i64 2] w (WPost wb (head ++ be 2 n) w) := number_w wb head n n0 h0 2 (by omega) w hW hh
theorem number_8 (wb : Nat) (head : List UInt8) (n : Nat) (n0 : Int) (h0 : n0 = (n : Int)) (w : World) (hW : WB w wb head) (hh : head.length ≤ 900000) : Calls Tryd.prog 24 #[.pointer (some ⟨wb, 0, none⟩), .int .u64 n0, .int .i64 8] w (WPost wb (head ++ be 8 n) w) := number_w wb head n n0 h0 8 (by omega) w hW hh
theorem put_own {W : World} {wb : Nat} {l m : List UInt8} {B : Nat} {v : Value} (hW : WB W wb l) (hb : Byt W B v m) (hn : l.length + m.length ≤ 1000000) : ∃ a c, v = .slice a m.length c ∧ Calls Tryd.prog 28 #[.pointer (some ⟨wb, 0, none⟩), .slice a m.length c] W (WPost wb (l ++ m) W) := by
  obtain ⟨a, c, rfl⟩ := own_slice hb
  exact ⟨a, c, rfl, put_w wb l m a c W hW (Src.of_byt hb) hn⟩
set_option maxHeartbeats 16000000 in
theorem encode_yes (m : Wire.Msg) (na : Option Addr) (nc : Nat) (ta : Option Addr) (tc : Nat) (ra : Option Addr) (rc : Nat) (w : World) (hB : MB m) (hk : m.kind < 65536) (hA : MA w m na ta ra) (hL : LibOk w) (hyes : mayN R m = true) :
    Calls Tryd.prog 13 #[.agg #[.int .u16 (m.kind : Int), .string m.chan, .slice na m.nums.length nc, .slice ta m.terms.length tc, .string m.text, .slice ra m.more.length rc]] w (EncPost m w) := by
  have hE : encN R m = if 32768 < (encB m).length then ([], 3) else (encB m, 0) := by unfold encN; rw [hyes]; rfl
  have EL0 := Lib.hid (el_of m hyes)
  have hbA : Below w.heap.size w (w.alloc (boxV m na nc ta tc ra rc)) := below_new w _
  have HM := may_any m na nc ta tc ra rc _ hB (hA.later hbA) (lib_later hL hbA)
  rw [hyes] at HM
  have hmc : MC (w.alloc (boxV m na nc ta tc ra rc)) w.heap.size #[.int .u16 (m.kind : Int), .string m.chan, .slice na m.nums.length nc, .slice ta m.terms.length tc, .string m.text, .slice ra m.more.length rc] := heap_alloc_at w _
  have HM' := Lib.hid HM
  have HA := Lib.hid (hA.later hbA)
  have HBA := Lib.hid hbA
  have HMC := Lib.hid hmc
  have HS := Lib.hid (fun (W : World) (h : Recs W ra m.more) => stream_any ra rc m.more W (by have := hB.lm; unfold maxLen; omega) h hB.types (fun r hr => Nat.le_trans (hB.bodies r hr) (by omega)))
  unfold StreamPost at HS
  unfold EncPost
  have HE := Lib.hid hE
  have hu : IntKind.u64.wrap (m.kind : Int) = (m.kind : Int) := by
    unfold IntKind.wrap
    have e1 : (2 : Int) ^ IntKind.u64.bits = 18446744073709551616 := by decide
    simp [IntKind.signed, e1]
    omega
  obtain ⟨er, her⟩ : ∃ er, encN R m = er := ⟨_, rfl⟩
  rw [her]
  have HER := Lib.hid her
  have hsz : Hid (w.heap.size < (w.alloc (boxV m na nc ta tc ra rc)).heap.size) := lt_of_heap hmc
  clear HM hE hyes hB hA hL hmc hbA her
  unfold boxV at HM' HA HBA HMC hsz
  go_enter Tryd.func13, Tryd.ntmps13
  go_upto_region 3 with (go_at_call 23; (with_reducible refine Calls.mono HM'.out ?_); rintro e w1 ⟨rfl, hb1⟩; have HB1 := Lib.hid hb1; clear hb1)
  clear HM'
  generalize w.alloc (.cells #[.int .u16 (m.kind : Int), .string m.chan, .slice na m.nums.length nc, .slice ta m.terms.length tc, .string m.text, .slice ra m.more.length rc] 27) = wA at HA HBA HMC hsz HB1
  have hz1 := HB1.out.size
  have hszw := hsz.out
  have HWB0 := Lib.hid (WB.fresh w1)
  have HBF : Hid (Below wA.heap.size wA (w1.alloc (.cells #[.slice none 0 0] 65))) := HB1.out.alloc hz1 _
  have HWBS : Hid (wA.heap.size ≤ w1.heap.size) := hz1
  obtain ⟨d0, _, _, _, _, _⟩ := (HMC.out.later HBF.out).cells
  obtain ⟨wb, hwb⟩ : ∃ wb, w1.heap.size = wb := ⟨_, rfl⟩
  rw [hwb] at HWB0 HWBS
  go_upto_region 5 with (go_at_call 24; (with_reducible refine Calls.mono (number_2 wb [] m.kind _ rfl _ HWB0.out (by simp)) ?_); rintro e w2 ⟨rfl, hw2, hb2⟩; have HW2 : Hid (WB w2 wb (E1 m)) := hw2; have HB2 := Lib.hid (HBF.out.trans (hb2.mono HWBS.out)); clear hb2 hw2)
  obtain ⟨_, d1, d2, _, _, _⟩ := (HMC.out.later HB2.out).cells
  go_upto_region 6 with (go_at_call 25; (with_reducible refine Calls.mono (text_w wb (E1 m) m.chan (by have := EL0.out.lc; omega) _ HW2.out (by have := EL0.out.l1; omega)) ?_); rintro e w3 ⟨rfl, hw3, hb3⟩; have HW3 : Hid (WB w3 wb (E2 m)) := hw3; have HB3 := Lib.hid (HB2.out.trans (hb3.mono HWBS.out)); clear hb3 hw3)
  clear d1 d2
  obtain ⟨_, _, d2, _, _, _⟩ := (HMC.out.later HB3.out).cells
  go_upto_region 7 with (go_at_call 26; (with_reducible refine Calls.mono (count_w wb (E2 m) m.nums.length _ rfl (by have := EL0.out.ln; omega) _ HW3.out (by have := EL0.out.l2; omega)) ?_); rintro e w4 ⟨rfl, hw4, hb4⟩; have HW4 : Hid (WB w4 wb (E3 m)) := hw4; have HB4 := Lib.hid (HB3.out.trans (hb4.mono HWBS.out)); clear hb4 hw4)
  clear d2
  obtain ⟨_, _, d2, _, _, _⟩ := (HMC.out.later HB4.out).cells
  go_wp2_with fail
  go_loopw [32] (fun iv wr => ∃ k : Nat, k ≤ m.nums.length ∧ iv = .int .i64 k ∧ Hid (WB wr wb (E3 m ++ nb (m.nums.take k))) ∧ Hid (Below wA.heap.size wA wr)) (fun iv _ => m.nums.length - (intOf iv).toNat)
  case atStart => exact ⟨0, Nat.zero_le _, by go_num, by show WB w4 wb _; simpa [nb] using HW4.out, HB4.out⟩
  case round =>
    obtain ⟨k, hk, rfl, hWk, hBk⟩ := hrel
    have hln := EL0.out.ln
    by_cases hlt : k < m.nums.length
    · obtain ⟨x, hx⟩ : ∃ x, m.nums[k]? = some x := ⟨_, List.getElem?_eq_getElem hlt⟩
      have hne : m.nums ≠ [] := by intro h; rw [h] at hlt; simp at hlt
      obtain ⟨b, off, hna, hrec⟩ := (HA.out.later hBk.out).nums.resolve_left hne
      have c0 := hrec k x hx
      have hkl : (k : Int) < (m.nums.length : Int) := by omega
      have htk := Lib.hid (nb_take m.nums k x hx)
      obtain ⟨xv, hxv⟩ : ∃ xv, IntKind.u64.wrap x = xv := ⟨_, rfl⟩
      have HXV : Hid (xv = ((nat64 x : Nat) : Int)) := hxv.symm.trans (nat64_eq x)
      have HLN : Hid ((E3 m ++ nb (m.nums.take k)).length ≤ 900000) := by
        show _ ≤ _
        have := EL0.out.l3
        rw [List.length_append, nb_len, List.length_take]
        omega
      clear hrec hx d2
      subst hna
      go_wp2_with (go_at_call 24; (with_reducible refine Calls.mono (number_8 wb (E3 m ++ nb (m.nums.take k)) (nat64 x) xv HXV.out _ hWk.out HLN.out) ?_); rintro e w5 ⟨rfl, hw5, hb5⟩; have HW5 := Lib.hid hw5; have HB5 := Lib.hid (hBk.out.trans (hb5.mono HWBS.out)); clear hb5 hw5)
      go_roundw
      case rel =>
        refine ⟨k + 1, by omega, by go_num, ?_, HB5.out⟩
        rw [htk.out, ← List.append_assoc]
        exact HW5.out
      case measure => simp [intOf]; omega
    · obtain rfl : k = m.nums.length := by omega
      have HW5 : Hid (WB wr wb (E3 m ++ nb m.nums)) := by have := hWk.out; rw [List.take_length] at this; exact this
      have HLN : Hid ((E3 m ++ nb m.nums).length ≤ 900000) := by
        show _ ≤ _
        have := EL0.out.l3
        rw [List.length_append, nb_len]
        omega
      clear d2
      obtain ⟨_, _, _, d3, _, _⟩ := (HMC.out.later hBk.out).cells
      go_upto_region 13 with (go_at_call 26; (with_reducible refine Calls.mono (count_w wb (E3 m ++ nb m.nums) m.terms.length _ rfl (by have := EL0.out.lt; omega) _ HW5.out HLN.out) ?_); rintro e w6 ⟨rfl, hw6, hb6⟩; have HW6 : Hid (WB w6 wb (E4 m)) := hw6; have HB6 := Lib.hid (hBk.out.trans (hb6.mono HWBS.out)); clear hb6 hw6)
      clear d3
      obtain ⟨_, _, _, d3, _, _⟩ := (HMC.out.later HB6.out).cells
      go_wp2_with fail
      clear d3 hln
      go_loopw [49] (fun iv wr2 => ∃ k : Nat, k ≤ m.terms.length ∧ iv = .int .i64 k ∧ Hid (WB wr2 wb (E4 m ++ (m.terms.take k).flatMap tx)) ∧ Hid (Below wA.heap.size wA wr2)) (fun iv _ => m.terms.length - (intOf iv).toNat)
      case atStart => exact ⟨0, Nat.zero_le _, by go_num, by show WB w6 wb _; simpa using HW6.out, HB6.out⟩
      case round =>
        obtain ⟨k, hk2, rfl, hWk2, hBk2⟩ := hrel
        have hlt2 := EL0.out.lt
        by_cases hlt' : k < m.terms.length
        · obtain ⟨x, hx⟩ : ∃ x, m.terms[k]? = some x := ⟨_, List.getElem?_eq_getElem hlt'⟩
          have hne : m.terms ≠ [] := by intro h; rw [h] at hlt'; simp at hlt'
          obtain ⟨b, off, hta, hrec⟩ := (HA.out.later hBk2.out).terms.resolve_left hne
          have c0 := hrec k x hx
          have hkl : (k : Int) < (m.terms.length : Int) := by omega
          have htk := Lib.hid (tx_take m.terms k x hx)
          have HXS := Lib.hid (EL0.out.ts x (List.mem_of_getElem? hx))
          have HLN2 : Hid ((E4 m ++ (m.terms.take k).flatMap tx).length ≤ 800000) := by
            show _ ≤ _
            have := EL0.out.l4
            have := flat_len (m.terms.take k) (fun t ht => EL0.out.ts t (List.mem_of_mem_take ht))
            rw [List.length_take] at this
            rw [List.length_append]
            have : min k m.terms.length ≤ 32 := by omega
            omega
          clear hrec hx
          subst hta
          go_wp2_with (go_at_call 25; (with_reducible refine Calls.mono (text_w wb (E4 m ++ (m.terms.take k).flatMap tx) x (by have := HXS.out; omega) _ hWk2.out HLN2.out) ?_); rintro e w7 ⟨rfl, hw7, hb7⟩; have HW7 := Lib.hid hw7; have HB7 := Lib.hid (hBk2.out.trans (hb7.mono HWBS.out)); clear hb7 hw7)
          go_roundw
          case rel =>
            refine ⟨k + 1, by omega, by go_num, ?_, HB7.out⟩
            rw [htk.out, ← List.append_assoc]
            exact HW7.out
          case measure => simp [intOf]; omega
        · obtain rfl : k = m.terms.length := by omega
          have HW7 : Hid (WB wr wb (E5 m)) := by have := hWk2.out; rw [List.take_length] at this; exact this
          obtain ⟨_, _, _, _, d4, _⟩ := (HMC.out.later hBk2.out).cells
          go_upto_region 19 with (go_at_call 25; (with_reducible refine Calls.mono (text_w wb (E5 m) m.text (by have := EL0.out.lx; omega) _ HW7.out (by have := EL0.out.l5; omega)) ?_); rintro e w8 ⟨rfl, hw8, hb8⟩; have HW8 : Hid (WB w8 wb (E6 m)) := hw8; have HB8 := Lib.hid (hBk2.out.trans (hb8.mono HWBS.out)); clear hb8 hw8)
          clear d4
          obtain ⟨_, _, _, _, _, d5⟩ := (HMC.out.later HB8.out).cells
          have HA8 := Lib.hid (HA.out.later HB8.out)
          obtain ⟨n7, hn7⟩ : ∃ n7, (encB m).length = n7 := ⟨_, rfl⟩
          have HN7 := Lib.hid hn7
          clear hn7
          have HFIN : Hid (∀ (W : World), WB W wb (E6 m ++ (streamN m.more).1) → ∃ a c, W.cell? ⟨wb, 0, none⟩ = some (.slice a n7 c) ∧ Byt W (wb + 1) (.slice a n7 c) (encB m)) := fun W h => by
            rw [← enc_E] at h
            obtain ⟨a, c, h1, h2⟩ := wb_cell h
            rw [HN7.out] at h1 h2
            exact ⟨a, c, h1, h2⟩
          have HSL : Hid ((E6 m).length + (streamN m.more).1.length ≤ 1000000) := by show _ ≤ _; have := EL0.out.l6; have := EL0.out.ls; omega
          by_cases hbig : 32768 < n7
          · have hbigi : (32768 : Int) < (n7 : Int) := by omega
            go_wp2_with (first
              | (go_at_call 27; (with_reducible refine Calls.mono (HS.out _ HA8.out.more) ?_); rintro e w9 ⟨v9, rfl, hv9, hb9⟩; obtain ⟨a9, c9, rfl, hc9⟩ := put_own (HW8.out.later hb9) hv9 HSL.out; have HC9 := Lib.hid hc9; have HB9 := Lib.hid (HB8.out.trans (hb9.mono HB8.out.size)); clear hb9 hv9 hc9)
              | (go_at_call 28; (with_reducible refine Calls.mono HC9.out ?_); rintro e w10 ⟨rfl, hw10, hb10⟩; obtain ⟨a10, c10, f10, hb10'⟩ := HFIN.out _ hw10; have HF10 := Lib.hid hb10'; have HB10 := Lib.hid (HB9.out.trans (hb10.mono HWBS.out)); clear hb10 hw10 hb10'))
            go_ret2
            have he := HER.out
            rw [HE.out, if_pos (by rw [HN7.out]; exact hbig)] at he
            rw [← he]
            exact ⟨_, rfl, byt_nil _ _, HBA.out.trans (HB10.out.mono HBA.out.size)⟩
          · have hbigi : ¬ (32768 : Int) < (n7 : Int) := by omega
            go_wp2_with (first
              | (go_at_call 27; (with_reducible refine Calls.mono (HS.out _ HA8.out.more) ?_); rintro e w9 ⟨v9, rfl, hv9, hb9⟩; obtain ⟨a9, c9, rfl, hc9⟩ := put_own (HW8.out.later hb9) hv9 HSL.out; have HC9 := Lib.hid hc9; have HB9 := Lib.hid (HB8.out.trans (hb9.mono HB8.out.size)); clear hb9 hv9 hc9)
              | (go_at_call 28; (with_reducible refine Calls.mono HC9.out ?_); rintro e w10 ⟨rfl, hw10, hb10⟩; obtain ⟨a10, c10, f10, hb10'⟩ := HFIN.out _ hw10; have HF10 := Lib.hid hb10'; have HB10 := Lib.hid (HB9.out.trans (hb10.mono HWBS.out)); clear hb10 hw10 hb10'))
            go_ret2
            have he := HER.out
            rw [HE.out, if_neg (by rw [HN7.out]; exact hbig)] at he
            rw [← he]
            exact ⟨_, rfl, byt_base HF10.out (by have := HBA.out.size; have := HWBS.out; omega), HBA.out.trans (HB10.out.mono HBA.out.size)⟩
theorem encode_any (m : Wire.Msg) (na : Option Addr) (nc : Nat) (ta : Option Addr) (tc : Nat) (ra : Option Addr) (rc : Nat) (w : World) (hB : MB m) (hk : m.kind < 65536) (hA : MA w m na ta ra) (hL : LibOk w) :
    Calls Tryd.prog 13 #[.agg #[.int .u16 (m.kind : Int), .string m.chan, .slice na m.nums.length nc, .slice ta m.terms.length tc, .string m.text, .slice ra m.more.length rc]] w (EncPost m w) := by
  cases h : mayN R m with
  | true => exact encode_yes m na nc ta tc ra rc w hB hk hA hL h
  | false => exact encode_no m na nc ta tc ra rc w hB hA hL h
end Go.Proofs.YtakfhoodjcfpcaaDoor.T
