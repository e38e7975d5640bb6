/- wire: WireKnown, what lies around its walk -/
import Derived.Laws.MakeOwn
import Derived.Great.Walk
import Derived.Great.BuildSlice
import Derived.Calls
import Derived.WalkKit
import Derived.WalkSpells
import Derived.WalkLawsBesides
import Derived.Handy
import Derived.Lib.Hide
import Derived.Deep.AppendLies
import Derived.Deep.LoopGhost
import Derived.Outline
import Derived.Laws.BitsAllLaws
import Derived.Laws.BitsLemmas
import Derived.Lib.AppendZeros
import Derived.Lib.AppendZerosOnto
import Derived.Maps.AppendAt
import Derived.Laws.Append
import Derived.Laws.AppendOwn
import Derived.Deep.QuietTactic
import Derived.BigQuiet
import Derived.Deep.RegionHeld3
import Derived.Lib.ConvBytes
import Derived.Laws.BytesArg
import Derived.Lib.ParseIntB
import Derived.Lib.Bytealg
import Derived.Shelf.Small.Strs
import Derived.Shelf.Strconv.Itoa0
import Derived.Shelf.Strconv.ParseIntEmpty
import Derived.Shelf.LaysM
import Derived.Shelf.Strconv.Clone
import Derived.Shelf.Strconv.SyntaxError
import Derived.Shelf.LaysC
import Derived.Shelf.Strconv.ToError
import Derived.Shelf.Strconv.Lower
import Derived.Shelf.Strconv.ParseUint10
import Derived.Shelf.Strconv.ParseUint10Empty
import Derived.Shelf.Strconv.ParseUint10Any
import Derived.Shelf.Strconv.ParseInt10
import Derived.Shelf.Strconv.RangeError
import Derived.Shelf.Strconv.ToErrorRange
import Derived.Shelf.Strconv.ParseUintEmpty
import Derived.Shelf.Strconv.ParseUint10b64
import Derived.Shelf.Strconv.ParseUint10b32
import Derived.Shelf.Strconv.ParseUint10b16
import Derived.Shelf.Strconv.ParseUint10b8
import Derived.Shelf.Strconv.ParseUint10At
import Derived.Shelf.Strconv.ParseInt10At64
import Derived.Shelf.Strconv.ParseInt10At32
import Derived.Shelf.Strconv.ParseInt10At16
import Derived.Shelf.Strconv.ParseInt10At8
import Derived.Shelf.Strconv.ParseInt10All
import Derived.Shelf.Strconv.ParseIntPublic10
import Derived.Shelf.Strconv.ErrVarParseInt
import Derived.Shelf.Strings.Search1
import Derived.Lib.Strings
import Derived.Lib.IndexBytes
import Derived.BigRegion
import Derived.Deep.RegionLaw
import Derived.Deep.Onto
import Derived.Deep.WholeRow
import Derived.Deep.CutRange
import Derived.Laws.CopyOwn
import Derived.Below
import Derived.WalkMore
import Derived.MapKept
import Derived.Carry
import Derived.Lib.AppendStr
import Derived.Deep.CutBlock
import Derived.IntWalk
import Derived.Test.YtakfhoodjcfpcaaDoorRows
import Derived.Test.YtakfhoodjcfpcaaDoorProg
import Derived.Test.YtakfhoodjcfpcaaDoorPl
import Derived.Test.YtakfhoodjcfpcaaDoorTlA
import Derived.Test.YtakfhoodjcfpcaaDoorTlD
import Derived.Test.YtakfhoodjcfpcaaDoorTlF
import Derived.Test.YtakfhoodjcfpcaaDoorTlH
import Derived.Test.YtakfhoodjcfpcaaDoorTlI
import Derived.Test.YtakfhoodjcfpcaaDoorTlM
import Derived.Test.YtakfhoodjcfpcaaDoorTlR
import Derived.Test.YtakfhoodjcfpcaaDoorNumA
import Derived.Test.YtakfhoodjcfpcaaDoorNumB
import Derived.Test.YtakfhoodjcfpcaaDoorNumC
import Derived.Test.YtakfhoodjcfpcaaDoorTa
import Derived.Test.YtakfhoodjcfpcaaDoorRefG
import Derived.Test.YtakfhoodjcfpcaaDoorWirP
import Derived.Test.YtakfhoodjcfpcaaDoorWrA
import Derived.Test.YtakfhoodjcfpcaaDoorWrD
import Derived.Test.YtakfhoodjcfpcaaDoorWrE
import Derived.Test.YtakfhoodjcfpcaaDoorWrF
import Derived.Test.YtakfhoodjcfpcaaDoorWrJ
import Derived.Test.YtakfhoodjcfpcaaDoorWrM
namespace Go.Proofs.YtakfhoodjcfpcaaDoor.T
set_option linter.unusedVariables false
set_option maxRecDepth 100000
open Go.RowKit Tlv Wire
/-! wire: the messages of WireKnown, plain -/
def zb (n : Nat) : List UInt8 := List.replicate n 0
def zs (n : Nat) : ByteArray := ⟨(zb n).toArray⟩
theorem zb_len (n : Nat) : (zb n).length = n := by simp [zb]
theorem zs_size (n : Nat) : (zs n).size = n := by simp [zs, zb, ByteArray.size]
theorem zs_list (n : Nat) : (zs n).data.toList = zb n := by simp [zs]
def kwA : Wire.Msg := ⟨18, ⟨#[]⟩, [5], [], ⟨#[]⟩, []⟩
def kwB : Wire.Msg := ⟨999, ⟨#[]⟩, [], [], ⟨#[120]⟩, [⟨1, [9]⟩]⟩
def kwC : Wire.Msg := ⟨18, ⟨#[]⟩, [-1], [], ⟨#[]⟩, []⟩
def kaB : List UInt8 := [0, 18, 0, 1, 0, 0, 0, 0, 0, 0, 0, 5, 0, 0]
def kbB : List UInt8 := [3, 231, 0, 0, 0, 1, 120, 1, 1, 9]
def kcB : List UInt8 := [0, 18, 0, 1, 255, 255, 255, 255, 255, 255, 255, 255, 0, 0]
theorem ka_enc : encN R kwA = (kaB, 0) := by kernel_rfl
theorem kb_enc : encN R kwB = (kbB, 0) := by kernel_rfl
theorem kc_enc : encN R kwC = (kcB, 0) := by kernel_rfl
theorem kc_dec : Wire.decN R false kcB = (kwC, 0) := by kernel_rfl
def d1B : List UInt8 := [0, 18, 0]
def d4B : List UInt8 := [3, 231, 0, 0, 0, 0, 2, 0]
theorem d1_dec : Wire.decN R false d1B = (no, 80) := by kernel_rfl
theorem d2_dec : Wire.decN R false [] = (no, 80) := by kernel_rfl
theorem d3_dec : Wire.decN R false (zb 32769) = (no, 3) := by
  unfold Wire.decN
  rw [if_pos (by rw [zb_len]; decide)]
theorem d4_dec : Wire.decN R false d4B = (no, 80) := by kernel_rfl
/-! eight that are bad -/
def w1 : Wire.Msg := ⟨18, ⟨#[]⟩, [], [], ⟨#[]⟩, []⟩
def w2m : Wire.Msg := ⟨1000, ⟨#[]⟩, [], [], ⟨#[]⟩, []⟩
def w3m : Wire.Msg := ⟨18, ⟨#[]⟩, [1], [], ⟨#[]⟩, [⟨2, []⟩]⟩
def w4m : Wire.Msg := ⟨18, ⟨#[]⟩, [1], [], ⟨#[]⟩, [⟨3, []⟩, ⟨1, []⟩]⟩
def w5m : Wire.Msg := ⟨35, ⟨#[]⟩, [], [⟨#[110]⟩], ⟨#[]⟩, []⟩
def w6m : Wire.Msg := ⟨999, ⟨#[]⟩, List.replicate 33 0, [], ⟨#[]⟩, []⟩
def w7m : Wire.Msg := ⟨999, ⟨#[]⟩, [], [], zs 4097, []⟩
def w8m : Wire.Msg := ⟨999, zs 101, [], [], ⟨#[]⟩, []⟩
theorem w1_enc : encN R w1 = ([], 80) := by kernel_rfl
theorem w2_enc : encN R w2m = ([], 80) := by kernel_rfl
theorem w3_enc : encN R w3m = ([], 80) := by kernel_rfl
theorem w4_enc : encN R w4m = ([], 80) := by kernel_rfl
theorem w5_enc : encN R w5m = ([], 80) := by kernel_rfl
theorem w6_enc : encN R w6m = ([], 80) := by kernel_rfl
theorem enc_80 {m : Wire.Msg} (h : mayN R m = false) : encN R m = ([], 80) := by
  unfold encN
  rw [h, if_neg (by decide)]
theorem w7_enc : encN R w7m = ([], 80) := by
  refine enc_80 ?_
  have h : decide (w7m.text.size ≤ 4096) = false := by
    show decide ((zs 4097).size ≤ 4096) = false
    rw [zs_size]; rfl
  unfold mayN
  rw [h]; simp
theorem w8_enc : encN R w8m = ([], 80) := by
  refine enc_80 ?_
  have h : decide (w8m.chan.size ≤ 100) = false := by
    show decide ((zs 101).size ≤ 100) = false
    rw [zs_size]; rfl
  unfold mayN
  rw [h]; simp
theorem mb_of (m : Wire.Msg) (h1 : m.chan.size ≤ 100000) (h2 : m.text.size ≤ 100000) (h3 : m.nums.length ≤ 100000) (h4 : m.terms.length ≤ 1) (h5 : ∀ t ∈ m.terms, t.size ≤ 1) (h6 : m.more.length ≤ 2) (h7 : ∀ r ∈ m.more, r.t < 4) (h8 : ∀ r ∈ m.more, r.body.length ≤ 100000) : MB m :=
  ⟨h1, h2, h3, by omega, fun t ht => by have := h5 t ht; omega, by omega, fun r hr => by have := h7 r hr; omega, h8⟩
theorem w1_mb : MB w1 := mb_of _ (by decide) (by decide) (by decide) (by decide) (by decide) (by decide) (by decide) (by decide)
theorem w2_mb : MB w2m := mb_of _ (by decide) (by decide) (by decide) (by decide) (by decide) (by decide) (by decide) (by decide)
theorem w3_mb : MB w3m := mb_of _ (by decide) (by decide) (by decide) (by decide) (by decide) (by decide) (by decide) (by decide)
theorem w4_mb : MB w4m := mb_of _ (by decide) (by decide) (by decide) (by decide) (by decide) (by decide) (by decide) (by decide)
theorem w5_mb : MB w5m := mb_of _ (by decide) (by decide) (by decide) (by decide) (by decide) (by decide) (by decide) (by decide)
theorem w6_mb : MB w6m := mb_of _ (by decide) (by decide) (by decide) (by decide) (by decide) (by decide) (by decide) (by decide)
theorem w7_mb : MB w7m := mb_of _ (by decide) (by show (zs 4097).size ≤ _; rw [zs_size]; decide) (by decide) (by decide) (by decide) (by decide) (by decide) (by decide)
theorem w8_mb : MB w8m := mb_of _ (by show (zs 101).size ≤ _; rw [zs_size]; decide) (by decide) (by decide) (by decide) (by decide) (by decide) (by decide) (by decide)
theorem kwA_mb : MB kwA := mb_of _ (by decide) (by decide) (by decide) (by decide) (by decide) (by decide) (by decide) (by decide)
theorem kwB_mb : MB kwB := mb_of _ (by decide) (by decide) (by decide) (by decide) (by decide) (by decide) (by decide) (by decide)
theorem kwC_mb : MB kwC := mb_of _ (by decide) (by decide) (by decide) (by decide) (by decide) (by decide) (by decide) (by decide)
/-! the long ones -/
def mL (r : Nat) : Wire.Msg := ⟨999, zs 100, List.replicate 32 0, [], zs 4096, [⟨1, zb r⟩]⟩
theorem encAll_L (r : Nat) (h : 65536 > r) (h2 : 253 ≤ r) : (encAll [⟨1, zb r⟩]).length = 4 + r := by
  have hp : (putN r).length = 3 := by
    unfold putN
    rw [if_neg (by omega), if_pos (by omega)]
    rfl
  have h1 : (putN 1).length = 1 := by rfl
  show (([⟨1, zb r⟩] : List Rec).flatMap Rec.enc).length = _
  simp only [List.flatMap_cons, List.flatMap_nil, List.append_nil, Rec.enc, List.length_append, zb_len, hp, h1]
theorem stream_L (r : Nat) (h : r ≤ 30000) (h2 : 253 ≤ r) : streamN [⟨1, zb r⟩] = (encAll [⟨1, zb r⟩], 0) := by
  unfold streamN
  rw [if_neg (by show ¬ 64 < 1; decide), if_neg (by show ¬ (true = false); decide), if_neg (by rw [encAll_L r (by omega) h2]; omega)]
theorem may_L (r : Nat) (h : r ≤ 30000) (h2 : 253 ≤ r) : mayN R (mL r) = true := by
  have hs : (streamN (mL r).more).2 = 0 := by
    show (streamN [⟨1, zb r⟩]).2 = 0
    rw [stream_L r h h2]
  have h1 : (mL r).chan.size = 100 := zs_size 100
  have h3 : (mL r).text.size = 4096 := zs_size 4096
  have h4 : fitN (mL r) = true := by
    show (if (countsN 999).2.2 = true then _ else ((999 % 2 == 1 && decide ((List.replicate 32 (0 : Int)).length ≤ 32) && decide (([] : List ByteArray).length ≤ 32)) : Bool)) = true
    rfl
  have h5 : unk (mL r).more = false := rfl
  have h6 : (mL r).terms = [] := rfl
  unfold mayN
  rw [hs, h1, h3, h4, h5, h6]
  rfl
theorem nb_zero : (nb (List.replicate 32 0)).length = 256 := by rfl
theorem encB_L (r : Nat) (h : r ≤ 30000) (h2 : 253 ≤ r) : (encB (mL r)).length = 4464 + r := by
  have h1 : (tx (zs 100)).length = 101 := by
    unfold tx
    rw [List.length_append, zs_size, zs_list, zb_len]; rfl
  have h3 : (tx (zs 4096)).length = 4099 := by
    unfold tx
    rw [List.length_append, zs_size, zs_list, zb_len]; rfl
  have h4 : (be 2 999).length = 2 := rfl
  have h5 : (putN 32).length = 1 := rfl
  have h6 : (putN 0).length = 1 := rfl
  show ((be 2 999 ++ (tx (zs 100) ++ (putN (List.replicate 32 (0 : Int)).length ++ (nb (List.replicate 32 0) ++ (putN ([] : List ByteArray).length ++ (([] : List ByteArray).flatMap tx ++ tx (zs 4096))))))) ++ (streamN [⟨1, zb r⟩]).1).length = _
  rw [stream_L r h h2]
  simp only [List.length_append, h1, h3, h4, nb_zero, encAll_L r (by omega) h2, List.length_replicate, h5, List.length_nil, h6, List.flatMap_nil]
  omega
theorem enc_L : ∃ l : List UInt8, encN R (mL 28304) = (l, 0) ∧ l.length = 32768 ∧ Wire.decN R false l = (mL 28304, 0) := by
  have hl := encB_L 28304 (by omega) (by omega)
  have he : encN R (mL 28304) = (encB (mL 28304), 0) := by
    unfold encN
    rw [may_L 28304 (by omega) (by omega), if_pos rfl, if_neg (by rw [hl]; omega)]
  refine ⟨_, he, by rw [hl], ?_⟩
  have := dec_enc R (mL 28304) ⟨by decide, (fun x hx => by rw [List.eq_of_mem_replicate hx]; omega), by show (List.replicate 32 (0 : Int)).length < _; rw [List.length_replicate]; omega, by decide, (fun t ht => by cases ht), by show (zs 100).size < _; rw [zs_size]; omega, by show (zs 4096).size < _; rw [zs_size]; omega⟩ (fun r hr => by have := List.mem_singleton.1 hr; subst this; decide) (by rw [he])
  rw [he] at this
  exact this
theorem enc_X : encN R (mL 28305) = ([], 3) := by
  unfold encN
  rw [may_L 28305 (by omega) (by omega), if_pos rfl, if_pos (by rw [encB_L 28305 (by omega) (by omega)]; omega)]
theorem mL_mb (r : Nat) (h : r ≤ 30000) : MB (mL r) := mb_of _ (by show (zs 100).size ≤ _; rw [zs_size]; decide) (by show (zs 4096).size ≤ _; rw [zs_size]; decide) (by show (List.replicate 32 (0 : Int)).length ≤ _; rw [List.length_replicate]; decide) (by show 0 ≤ 1; decide) (fun t ht => by cases ht) (by show 1 ≤ 2; decide) (fun x hx => by have := List.mem_singleton.1 hx; subst this; show 1 < 4; decide) (fun x hx => by have := List.mem_singleton.1 hx; subst this; show (zb r).length ≤ _; rw [zb_len]; omega)
end Go.Proofs.YtakfhoodjcfpcaaDoor.T
namespace Go.Proofs.YtakfhoodjcfpcaaDoor.T
set_option linter.unusedVariables false
set_option maxRecDepth 100000
open Go.RowKit Tlv Wire
/-! wire: bad -/
set_option maxHeartbeats 4000000 in
theorem bad_any (m : Wire.Msg) (na : Option Addr) (nc : Nat) (ta : Option Addr) (tc : Nat) (ra : Option Addr) (rc : Nat) (w : World) (hB : MB m) (hk : m.kind < 65536) (hA : MA w m na ta ra) (hL : LibOk w) (he : encN R m = ([], 80)) :
    Calls Tryd.prog 18 #[.agg #[.int .u16 (m.kind : Int), .string m.chan, .slice na m.nums.length nc, .slice ta m.terms.length tc, .string m.text, .slice ra m.more.length rc]] w (BoolPost true w) := by
  have hb1 := below_new w (.cells #[.int .u16 (m.kind : Int), .string m.chan, .slice na m.nums.length nc, .slice ta m.terms.length tc, .string m.text, .slice ra m.more.length rc] 27)
  have hm1 : MC (w.alloc (.cells #[.int .u16 (m.kind : Int), .string m.chan, .slice na m.nums.length nc, .slice ta m.terms.length tc, .string m.text, .slice ra m.more.length rc] 27)) w.heap.size #[.int .u16 (m.kind : Int), .string m.chan, .slice na m.nums.length nc, .slice ta m.terms.length tc, .string m.text, .slice ra m.more.length rc] := heap_alloc_at w _
  have hE := encode_any m na nc ta tc ra rc (w.alloc (.cells #[.int .u16 (m.kind : Int), .string m.chan, .slice na m.nums.length nc, .slice ta m.terms.length tc, .string m.text, .slice ra m.more.length rc] 27)) hB hk (hA.later hb1) (lib_later hL hb1)
  unfold EncPost at hE
  rw [he] at hE
  have HE := Lib.hid hE
  have HB1 := Lib.hid hb1
  obtain ⟨d0, d1, d2, d3, d4, d5⟩ := hm1.cells
  clear hm1 hb1 hA hL hE hB hk he
  go_enter Tryd.func18, Tryd.ntmps18
  go_wp2_with (first
    | (go_at_call 13; (with_reducible refine Calls.mono HE.out ?_); rintro e w2 ⟨v2, rfl, hv2, hb2⟩; obtain ⟨a2, c2, rfl⟩ := own_slice hv2; have HB2 := Lib.hid (HB1.out.trans (hb2.mono HB1.out.size)); clear hb2 hv2))
  go_ret
  exact ⟨rfl, HB2.out⟩
/-! what is made -/
theorem made_get (z : Array Value) (N q : Nat) (h : q < N) : (madeCells z N)[q]? = some (z[q % z.size]!) := by
  unfold madeCells
  rw [Array.getElem?_map, Array.getElem?_range, if_pos h]
  rfl
theorem Tryd.info5m : (Tryd.prog.info? 5).map (fun i => (i.zero, i.size, i.bytes)) = some (some (.int .u8 0), 1, 1) := by kernel_rfl
theorem Tryd.under33 : Tryd.prog.underlying 33 = some (.slice 5) := by kernel_rfl
theorem Tryd.under23 : Tryd.prog.underlying 23 = some (.slice 2) := by kernel_rfl
theorem make_b (n : Int) (h0 : 0 ≤ n) (h1 : n ≤ 100000) (W : World) : (Instr.makeSlice 33 (.int .i64 n) (.int .i64 n)).run Tryd.prog W = .ok (.slice (some ⟨W.heap.size, 0, none⟩) n.toNat n.toNat) (W.alloc (.cells (madeCells #[.int .u8 0] (n.toNat * 1)) 5)) := by
  obtain ⟨i, hi, hz, hs, hb⟩ := info_parts Tryd.info5m
  have h := run_make (P := Tryd.prog) W 33 5 i _ Tryd.under33 hi hz .i64 .i64 n n (by omega) (by omega) (by rw [hb]; omega) (by omega)
  rw [hs] at h
  exact h
theorem make_n (n : Int) (h0 : 0 ≤ n) (h1 : n ≤ 100000) (W : World) : (Instr.makeSlice 23 (.int .i64 n) (.int .i64 n)).run Tryd.prog W = .ok (.slice (some ⟨W.heap.size, 0, none⟩) n.toNat n.toNat) (W.alloc (.cells (madeCells #[.int .i64 0] (n.toNat * 1)) 2)) := by
  obtain ⟨i, hi, hz, hs, hb⟩ := info_parts Tryd.info2
  have h := run_make (P := Tryd.prog) W 23 2 i _ Tryd.under23 hi hz .i64 .i64 n n (by omega) (by omega) (by rw [hb]; omega) (by omega)
  rw [hs] at h
  exact h
theorem src_made {W : World} {k : Nat} (n : Nat) (h : W.heap[k]? = some (.cells (madeCells #[.int .u8 0] (n * 1)) 5 (0, 0))) : Src W (some ⟨k, 0, none⟩) (zb n) := by
  refine .inr ⟨k, 0, rfl, fun i c hc => ?_⟩
  unfold zb at hc
  rw [List.getElem?_replicate] at hc
  split at hc
  · rename_i hi
    cases hc
    rw [cell_of_row _ _ _ _ _ _ h, made_get _ _ _ (by omega)]
    have : (0 + i) % (#[Value.int .u8 0] : Array Value).size = 0 := Nat.mod_one _
    rw [this]; rfl
  · cases hc
theorem ints_made {W : World} {k : Nat} (n : Nat) (h : W.heap[k]? = some (.cells (madeCells #[.int .i64 0] (n * 1)) 2 (0, 0))) : Ints W (some ⟨k, 0, none⟩) (List.replicate n 0) := by
  refine .inr ⟨k, 0, rfl, fun i c hc => ?_⟩
  rw [List.getElem?_replicate] at hc
  split at hc
  · rename_i hi
    cases hc
    rw [cell_of_row _ _ _ _ _ _ h, made_get _ _ _ (by omega)]
    have : (0 + i) % (#[Value.int .i64 0] : Array Value).size = 0 := Nat.mod_one _
    rw [this]; rfl
  · cases hc
theorem conv_made (n : Nat) (W : World) (k : Nat) (h : W.heap[k]? = some (.cells (madeCells #[.int .u8 0] (n * 1)) 5 (0, 0))) : (convert 33 9 (.slice (some ⟨k, 0, none⟩) n n)).run Tryd.prog W = .ok (.string (zs n)) W := by
  have := conv_src W (some ⟨k, 0, none⟩) (zb n) n (src_made n h)
  rw [zb_len] at this
  exact this
end Go.Proofs.YtakfhoodjcfpcaaDoor.T
namespace Go.Proofs.YtakfhoodjcfpcaaDoor.T
set_option linter.unusedVariables false
set_option maxRecDepth 100000
open Go.RowKit Tlv Wire
/-! wire: what Encode, Decode and bad tell of WireKnown's messages -/
theorem btr {a b c : World} (h : Below a.heap.size a b) (k : Below b.heap.size b c) : Below a.heap.size a c := h.trans (k.mono h.size)
theorem enc_of (m : Wire.Msg) (na : Option Addr) (nc : Nat) (ta : Option Addr) (tc : Nat) (ra : Option Addr) (rc : Nat) (w : World) (hB : MB m) (hk : m.kind < 65536) (hA : MA w m na ta ra) (hL : LibOk w) {l : List UInt8} {n c : Nat} (he : encN R m = (l, c)) (hn : l.length = n) :
    Calls Tryd.prog 13 #[.agg #[.int .u16 (m.kind : Int), .string m.chan, .slice na m.nums.length nc, .slice ta m.terms.length tc, .string m.text, .slice ra m.more.length rc]] w fun e w' => ∃ a cp, e = .returned (.tuple #[.slice a n cp, .int .i64 (c : Int)]) ∧ n ≤ cp ∧ cp ≤ maxLen ∧ (a = none → cp = 0) ∧ Src w' a l ∧ Below w.heap.size w w' := by
  have h := encode_any m na nc ta tc ra rc w hB hk hA hL
  unfold EncPost at h
  rw [he] at h
  refine h.mono fun e w' q => ?_
  obtain ⟨v, q1, q2, q3⟩ := q
  obtain ⟨a, cp, rfl⟩ := own_slice q2
  subst hn
  obtain ⟨k1, k2, k3⟩ := byt_cap q2
  exact ⟨a, cp, q1, k1, k2, k3, Src.of_byt q2, q3⟩
theorem dec_of (a : Option Addr) (c : Nat) (l : List UInt8) (w : World) {n : Nat} (hn : l.length = n) (hc : n ≤ c) (hm : c ≤ maxLen) (hs : Src w a l) (hna : a = none → c = 0) (hL : LibOk w) {m : Wire.Msg} {x : Nat} (hd : Wire.decN R false l = (m, x)) :
    Calls Tryd.prog 16 #[.slice a n c] w fun e w' => ∃ na nc ta tc ra rc, e = .returned (.tuple #[.agg #[.int .u16 (m.kind : Int), .string m.chan, .slice na m.nums.length nc, .slice ta m.terms.length tc, .string m.text, .slice ra m.more.length rc], .int .i64 (x : Int)]) ∧ MA w' m na ta ra ∧ Below w.heap.size w w' := by
  subst hn
  have h := decode_any a c l w hc hm hs hna hL
  unfold DecPost at h
  rw [hd] at h
  refine h.mono fun e w' q => ?_
  obtain ⟨nv, tv, rv, q1, q2, q3⟩ := q
  obtain ⟨na, nc, ta, tc, ra, rc, rfl, rfl, rfl, hma⟩ := q2.ma
  exact ⟨na, nc, ta, tc, ra, rc, q1, hma, q3⟩
theorem ints_one {W : World} {g : Nat} {x : Int} (h : W.heap[g]? = some (.cells #[.int .i64 x] 2 (0, 0))) : Ints W (some ⟨g, 0, none⟩) [x] := .inr ⟨g, 0, rfl, fun k y hk => by
  obtain rfl : k = 0 := by have := (List.getElem?_eq_some_iff.1 hk).1; simp at this; omega
  cases hk; rw [cell_of_row _ _ _ _ _ _ h]; rfl⟩
theorem old_at (W : World) (o o' : Obj) : ((W.alloc o).alloc o').heap[W.heap.size]? = some o := ((below_new (W.alloc o) o').block _ (by simp)).trans (heap_alloc_at W o)
theorem new_at (W : World) (o o' : Obj) : ((W.alloc o).alloc o').heap[W.heap.size + 1]? = some o' := by
  have := heap_alloc_at (W.alloc o) o'; simpa using this
theorem old3_at (W : World) (o o' o'' : Obj) : (((W.alloc o).alloc o').alloc o'').heap[W.heap.size]? = some o := ((below_new ((W.alloc o).alloc o') o'').block _ (by simp; omega)).trans (old_at W o o')
theorem mid3_at (W : World) (o o' o'' : Obj) : (((W.alloc o).alloc o').alloc o'').heap[W.heap.size + 1]? = some o' := ((below_new ((W.alloc o).alloc o') o'').block _ (by simp)).trans (new_at W o o')
theorem bel2 (W : World) (o o' : Obj) : Below W.heap.size W ((W.alloc o).alloc o') := btr (below_new W o) (below_new _ o')
theorem enc_A (W : World) (hL : LibOk W) : Calls Tryd.prog 13 #[.agg #[.int .u16 18, .string ⟨#[]⟩, .slice (some ⟨W.heap.size, 0, none⟩) 1 1, .slice none 0 0, .string ⟨#[]⟩, .slice none 0 0]] (W.alloc (.cells #[.int .i64 5] 2)) fun e w' => ∃ a cp, e = .returned (.tuple #[.slice a 14 cp, .int .i64 0]) ∧ Src w' a kaB ∧ Below W.heap.size W w' :=
  (enc_of kwA (some ⟨W.heap.size, 0, none⟩) 1 none 0 none 0 _ kwA_mb (by decide) ⟨ints_one (heap_alloc_at W _), .inl rfl, .inl rfl⟩ (lib_later hL (below_new W _)) ka_enc rfl).mono fun e w' ⟨a, cp, h1, _, _, _, h2, h3⟩ => ⟨a, cp, h1, h2, btr (below_new W _) h3⟩
theorem enc_B (W : World) (hL : LibOk W) : Calls Tryd.prog 13 #[.agg #[.int .u16 999, .string ⟨#[]⟩, .slice none 0 0, .slice none 0 0, .string ⟨#[120]⟩, .slice (some ⟨W.heap.size + 1, 0, none⟩) 1 1]] ((W.alloc (.cells #[.int .u8 9] 5)).alloc (.cells #[.int .u64 1, .slice (some ⟨W.heap.size, 0, none⟩) 1 1] 43)) fun e w' => ∃ a cp, e = .returned (.tuple #[.slice a 10 cp, .int .i64 0]) ∧ Src w' a kbB ∧ Below W.heap.size W w' :=
  (enc_of kwB none 0 none 0 (some ⟨W.heap.size + 1, 0, none⟩) 1 _ kwB_mb (by decide) ⟨.inl rfl, .inl rfl, .inr ⟨_, 0, rfl, fun k r hk => by
    obtain rfl : k = 0 := by have := (List.getElem?_eq_some_iff.1 hk).1; simp [kwB] at this; omega
    cases hk
    refine ⟨some ⟨W.heap.size, 0, none⟩, 1, ?_, ?_, .inr ⟨W.heap.size, 0, rfl, fun j c hj => ?_⟩, by decide, by decide, fun h => by cases h⟩
    · rw [cell_of_row _ _ _ _ _ _ (new_at W _ _)]; rfl
    · rw [cell_of_row _ _ _ _ _ _ (new_at W _ _)]; rfl
    · obtain rfl : j = 0 := by have := (List.getElem?_eq_some_iff.1 hj).1; simp at this; omega
      cases hj; rw [cell_of_row _ _ _ _ _ _ (old_at W _ _)]; rfl⟩⟩ (lib_later hL (bel2 W _ _)) kb_enc rfl).mono fun e w' ⟨a, cp, h1, _, _, _, h2, h3⟩ => ⟨a, cp, h1, h2, btr (bel2 W _ _) h3⟩
theorem enc_C (g : Nat) (W : World) (hg : W.heap[g]? = some (.cells #[.int .i64 (-1)] 2 (0, 0))) (hL : LibOk W) : Calls Tryd.prog 13 #[.agg #[.int .u16 18, .string ⟨#[]⟩, .slice (some ⟨g, 0, none⟩) 1 1, .slice none 0 0, .string ⟨#[]⟩, .slice none 0 0]] W fun e w' => ∃ a cp, e = .returned (.tuple #[.slice a 14 cp, .int .i64 0]) ∧ 14 ≤ cp ∧ cp ≤ maxLen ∧ (a = none → cp = 0) ∧ Src w' a kcB ∧ Below W.heap.size W w' :=
  enc_of kwC (some ⟨g, 0, none⟩) 1 none 0 none 0 _ kwC_mb (by decide) ⟨ints_one hg, .inl rfl, .inl rfl⟩ hL kc_enc rfl
theorem dec_C (a : Option Addr) (cp : Nat) (W : World) (h1 : 14 ≤ cp) (h2 : cp ≤ maxLen) (h3 : a = none → cp = 0) (hs : Src W a kcB) (hL : LibOk W) : Calls Tryd.prog 16 #[.slice a 14 cp] W fun e w' => ∃ nb' no' nc ta tc ra rc, e = .returned (.tuple #[.agg #[.int .u16 18, .string ⟨#[]⟩, .slice (some ⟨nb', no', none⟩) 1 nc, .slice ta 0 tc, .string ⟨#[]⟩, .slice ra 0 rc], .int .i64 0]) ∧ w'.cell? ⟨nb', no', none⟩ = some (.int .i64 (-1)) ∧ Below W.heap.size W w' := by
  refine (dec_of a cp kcB W (n := 14) rfl h1 h2 hs h3 hL kc_dec).mono fun e w' ⟨na, nc, ta, tc, ra, rc, q1, q2, q3⟩ => ?_
  rcases q2.nums with h | ⟨b, off, rfl, hc⟩
  · cases h
  · exact ⟨b, off, nc, ta, tc, ra, rc, q1, hc 0 _ rfl, q3⟩
theorem no_dec (a : Option Addr) (c : Nat) (l : List UInt8) (w : World) {n : Nat} (hn : l.length = n) (hc : n ≤ c) (hm : c ≤ maxLen) (hs : Src w a l) (hna : a = none → c = 0) (hL : LibOk w) {x : Nat} (hd : Wire.decN R false l = (no, x)) :
    Calls Tryd.prog 16 #[.slice a n c] w fun e w' => ∃ na nc ta tc ra rc, e = .returned (.tuple #[.agg #[.int .u16 0, .string ⟨#[]⟩, .slice na 0 nc, .slice ta 0 tc, .string ⟨#[]⟩, .slice ra 0 rc], .int .i64 (x : Int)]) ∧ Below w.heap.size w w' :=
  (dec_of a c l w hn hc hm hs hna hL hd).mono fun e w' ⟨na, nc, ta, tc, ra, rc, q1, _, q3⟩ => ⟨na, nc, ta, tc, ra, rc, q1, q3⟩
theorem src_of {W : World} {g : Nat} {cs : Array Value} {t : TypeId} (l : List UInt8) (h : W.heap[g]? = some (.cells cs t (0, 0))) (hc : cs.toList = l.map bv) : Src W (some ⟨g, 0, none⟩) l := .inr ⟨g, 0, rfl, fun k c hk => by
  rw [cell_of_row _ _ _ _ _ _ h, Nat.zero_add, ← Array.getElem?_toList, hc, List.getElem?_map, hk]; rfl⟩
theorem dec_1 (W : World) (hL : LibOk W) : Calls Tryd.prog 16 #[.slice (some ⟨W.heap.size, 0, none⟩) 3 3] (W.alloc (.cells #[.int .u8 0, .int .u8 18, .int .u8 0] 5)) fun e w' => ∃ na nc ta tc ra rc, e = .returned (.tuple #[.agg #[.int .u16 0, .string ⟨#[]⟩, .slice na 0 nc, .slice ta 0 tc, .string ⟨#[]⟩, .slice ra 0 rc], .int .i64 80]) ∧ Below W.heap.size W w' :=
  (no_dec _ 3 d1B _ (n := 3) rfl (by decide) (by decide) (src_of d1B (heap_alloc_at W _) rfl) (fun h => by cases h) (lib_later hL (below_new W _)) d1_dec).mono fun e w' ⟨na, nc, ta, tc, ra, rc, q1, q3⟩ => ⟨na, nc, ta, tc, ra, rc, q1, btr (below_new W _) q3⟩
theorem dec_2 (W : World) (hL : LibOk W) : Calls Tryd.prog 16 #[.slice none 0 0] W fun e w' => ∃ na nc ta tc ra rc, e = .returned (.tuple #[.agg #[.int .u16 0, .string ⟨#[]⟩, .slice na 0 nc, .slice ta 0 tc, .string ⟨#[]⟩, .slice ra 0 rc], .int .i64 80]) ∧ Below W.heap.size W w' :=
  no_dec none 0 [] W (n := 0) rfl (by decide) (by decide) (.inl rfl) (fun _ => rfl) hL d2_dec
theorem dec_3 (W : World) (hL : LibOk W) : Calls Tryd.prog 16 #[.slice (some ⟨W.heap.size, 0, none⟩) 32769 32769] (W.alloc (.cells (madeCells #[.int .u8 0] (32769 * 1)) 5)) fun e w' => ∃ na nc ta tc ra rc, e = .returned (.tuple #[.agg #[.int .u16 0, .string ⟨#[]⟩, .slice na 0 nc, .slice ta 0 tc, .string ⟨#[]⟩, .slice ra 0 rc], .int .i64 3]) ∧ Below W.heap.size W w' :=
  (no_dec _ 32769 (zb 32769) _ (n := 32769) (zb_len _) (by omega) (by unfold maxLen; omega) (src_made 32769 (heap_alloc_at W _)) (fun h => by cases h) (lib_later hL (below_new W _)) d3_dec).mono fun e w' ⟨na, nc, ta, tc, ra, rc, q1, q3⟩ => ⟨na, nc, ta, tc, ra, rc, q1, btr (below_new W _) q3⟩
theorem dec_4 (W : World) (hL : LibOk W) : Calls Tryd.prog 16 #[.slice (some ⟨W.heap.size, 0, none⟩) 8 8] (W.alloc (.cells #[.int .u8 3, .int .u8 231, .int .u8 0, .int .u8 0, .int .u8 0, .int .u8 0, .int .u8 2, .int .u8 0] 5)) fun e w' => ∃ na nc ta tc ra rc, e = .returned (.tuple #[.agg #[.int .u16 0, .string ⟨#[]⟩, .slice na 0 nc, .slice ta 0 tc, .string ⟨#[]⟩, .slice ra 0 rc], .int .i64 80]) ∧ Below W.heap.size W w' :=
  (no_dec _ 8 d4B _ (n := 8) rfl (by decide) (by decide) (src_of d4B (heap_alloc_at W _) rfl) (fun h => by cases h) (lib_later hL (below_new W _)) d4_dec).mono fun e w' ⟨na, nc, ta, tc, ra, rc, q1, q3⟩ => ⟨na, nc, ta, tc, ra, rc, q1, btr (below_new W _) q3⟩
/-! the eight -/
def Bd (W : World) (e : Ending) (w' : World) : Prop := e = .returned (.bool true) ∧ Below W.heap.size W w'
theorem bd_1 (W : World) (hL : LibOk W) : Calls Tryd.prog 18 #[.agg #[.int .u16 18, .string ⟨#[]⟩, .slice none 0 0, .slice none 0 0, .string ⟨#[]⟩, .slice none 0 0]] W (Bd W) := bad_any w1 none 0 none 0 none 0 W w1_mb (by decide) ⟨.inl rfl, .inl rfl, .inl rfl⟩ hL w1_enc
theorem bd_2 (W : World) (hL : LibOk W) : Calls Tryd.prog 18 #[.agg #[.int .u16 1000, .string ⟨#[]⟩, .slice none 0 0, .slice none 0 0, .string ⟨#[]⟩, .slice none 0 0]] W (Bd W) := bad_any w2m none 0 none 0 none 0 W w2_mb (by decide) ⟨.inl rfl, .inl rfl, .inl rfl⟩ hL w2_enc
theorem rec_empty {W : World} {g o : Nat} {r : Rec} (h1 : W.cell? ⟨g, o, none⟩ = some (.int .u64 (r.t : Int))) (h2 : W.cell? ⟨g, o + 1, none⟩ = some (.slice none 0 0)) (h3 : r.body = []) : RecAt W g o r := ⟨none, 0, h1, by rw [h3]; exact h2, .inl h3, by rw [h3]; decide, by decide, fun _ => rfl⟩
theorem bd_3 (W : World) (hL : LibOk W) : Calls Tryd.prog 18 #[.agg #[.int .u16 18, .string ⟨#[]⟩, .slice (some ⟨W.heap.size, 0, none⟩) 1 1, .slice none 0 0, .string ⟨#[]⟩, .slice (some ⟨W.heap.size + 1, 0, none⟩) 1 1]] ((W.alloc (.cells #[.int .i64 1] 2)).alloc (.cells #[.int .u64 2, .slice none 0 0] 43)) (Bd W) :=
  (bad_any w3m (some ⟨W.heap.size, 0, none⟩) 1 none 0 (some ⟨W.heap.size + 1, 0, none⟩) 1 _ w3_mb (by decide) ⟨ints_one (old_at W _ _), .inl rfl, .inr ⟨_, 0, rfl, fun k r hk => by
    obtain rfl : k = 0 := by have := (List.getElem?_eq_some_iff.1 hk).1; simp [w3m] at this; omega
    cases hk
    exact rec_empty (by rw [cell_of_row _ _ _ _ _ _ (new_at W _ _)]; rfl) (by rw [cell_of_row _ _ _ _ _ _ (new_at W _ _)]; rfl) rfl⟩⟩ (lib_later hL (bel2 W _ _)) w3_enc).mono fun e w' ⟨h1, h2⟩ => ⟨h1, btr (bel2 W _ _) h2⟩
theorem bd_4 (W : World) (hL : LibOk W) : Calls Tryd.prog 18 #[.agg #[.int .u16 18, .string ⟨#[]⟩, .slice (some ⟨W.heap.size, 0, none⟩) 1 1, .slice none 0 0, .string ⟨#[]⟩, .slice (some ⟨W.heap.size + 1, 0, none⟩) 2 2]] ((W.alloc (.cells #[.int .i64 1] 2)).alloc (.cells #[.int .u64 3, .slice none 0 0, .int .u64 1, .slice none 0 0] 43)) (Bd W) :=
  (bad_any w4m (some ⟨W.heap.size, 0, none⟩) 1 none 0 (some ⟨W.heap.size + 1, 0, none⟩) 2 _ w4_mb (by decide) ⟨ints_one (old_at W _ _), .inl rfl, .inr ⟨_, 0, rfl, fun k r hk => by
    obtain rfl | rfl : k = 0 ∨ k = 1 := by have := (List.getElem?_eq_some_iff.1 hk).1; simp [w4m] at this; omega
    · cases hk
      exact rec_empty (by rw [cell_of_row _ _ _ _ _ _ (new_at W _ _)]; rfl) (by rw [cell_of_row _ _ _ _ _ _ (new_at W _ _)]; rfl) rfl
    · cases hk
      exact rec_empty (by rw [cell_of_row _ _ _ _ _ _ (new_at W _ _)]; rfl) (by rw [cell_of_row _ _ _ _ _ _ (new_at W _ _)]; rfl) rfl⟩⟩ (lib_later hL (bel2 W _ _)) w4_enc).mono fun e w' ⟨h1, h2⟩ => ⟨h1, btr (bel2 W _ _) h2⟩
theorem bd_5 (W : World) (hL : LibOk W) : Calls Tryd.prog 18 #[.agg #[.int .u16 35, .string ⟨#[]⟩, .slice none 0 0, .slice (some ⟨W.heap.size, 0, none⟩) 1 1, .string ⟨#[]⟩, .slice none 0 0]] (W.alloc (.cells #[.string ⟨#[110]⟩] 49)) (Bd W) :=
  (bad_any w5m none 0 (some ⟨W.heap.size, 0, none⟩) 1 none 0 _ w5_mb (by decide) ⟨.inl rfl, .inr ⟨_, 0, rfl, fun k r hk => by
    obtain rfl : k = 0 := by have := (List.getElem?_eq_some_iff.1 hk).1; simp [w5m] at this; omega
    cases hk; rw [cell_of_row _ _ _ _ _ _ (heap_alloc_at W _)]; rfl⟩, .inl rfl⟩ (lib_later hL (below_new W _)) w5_enc).mono fun e w' ⟨h1, h2⟩ => ⟨h1, btr (below_new W _) h2⟩
theorem bd_6 (W : World) (hL : LibOk W) : Calls Tryd.prog 18 #[.agg #[.int .u16 999, .string ⟨#[]⟩, .slice (some ⟨W.heap.size, 0, none⟩) 33 33, .slice none 0 0, .string ⟨#[]⟩, .slice none 0 0]] (W.alloc (.cells (madeCells #[.int .i64 0] (33 * 1)) 2)) (Bd W) :=
  (bad_any w6m (some ⟨W.heap.size, 0, none⟩) 33 none 0 none 0 _ w6_mb (by decide) ⟨ints_made 33 (heap_alloc_at W _), .inl rfl, .inl rfl⟩ (lib_later hL (below_new W _)) w6_enc).mono fun e w' ⟨h1, h2⟩ => ⟨h1, btr (below_new W _) h2⟩
theorem bd_7 (W : World) (hL : LibOk W) : Calls Tryd.prog 18 #[.agg #[.int .u16 999, .string ⟨#[]⟩, .slice none 0 0, .slice none 0 0, .string (zs 4097), .slice none 0 0]] W (Bd W) := bad_any w7m none 0 none 0 none 0 W w7_mb (by decide) ⟨.inl rfl, .inl rfl, .inl rfl⟩ hL w7_enc
theorem bd_8 (W : World) (hL : LibOk W) : Calls Tryd.prog 18 #[.agg #[.int .u16 999, .string (zs 101), .slice none 0 0, .slice none 0 0, .string ⟨#[]⟩, .slice none 0 0]] W (Bd W) := bad_any w8m none 0 none 0 none 0 W w8_mb (by decide) ⟨.inl rfl, .inl rfl, .inl rfl⟩ hL w8_enc
end Go.Proofs.YtakfhoodjcfpcaaDoor.T
namespace Go.Proofs.YtakfhoodjcfpcaaDoor.T
set_option linter.unusedVariables false
set_option maxRecDepth 100000
open Go.RowKit Tlv Wire
/-! a region whose orders are many: an invariant that every operation keeps -/
section
variable {P : Program} {ops : Array Oper} {Q : Exit → Act → World → Prop}
theorem wpOp_of {i : Nat} {o : Oper} {a : Act} {w : World} {K : Act → World → Prop} (hi : ops[i]? = some o) (hg : o.guard = none) (h : o.wp P a w K Q) : wpOp P ops Q i K a w := by
  unfold wpOp
  simp only [hi]
  have hw : Region.wanted o (yielded ops a.tmps) = true := by unfold Region.wanted; rw [hg]
  rw [if_pos hw]
  exact .inl h
theorem getD_bool {l : Array Bool} {i : Nat} : l.getD i true = false ↔ l[i]? = some false := by
  rw [Array.getD_eq_getD_getElem?]
  cases h : l[i]? with
  | none => simp
  | some b => cases b <;> simp
theorem getD_two {l : Array Bool} {i : Nat} (h : i < l.size) : l.getD i true = l.getD i false := by
  rw [Array.getD_eq_getD_getElem?, Array.getD_eq_getD_getElem?, Array.getElem?_eq_getElem h]
  rfl
theorem cnt_set : ∀ (L : List Bool) (i : Nat), L[i]? = some false → (L.set i true).countP (fun b => !b) + 1 = L.countP (fun b => !b)
  | [], i, h => by simp at h
  | b :: L, 0, h => by simp at h; subst h; simp
  | b :: L, i + 1, h => by
    have := cnt_set L i (by simpa using h)
    rw [List.set_cons_succ, List.countP_cons, List.countP_cons]
    omega
theorem cnt_pos {L : List Bool} {i : Nat} (h : L[i]? = some false) : 0 < L.countP (fun b => !b) := by
  have := cnt_set L i h
  omega
theorem wpAny_inv (J : Array Bool → Act → World → Prop) (hac : ∀ (i : Nat) (o : Oper), ops[i]? = some o → ∀ e ∈ o.after, e.on < i) (hsz : ∀ l a w, J l a w → l.size = ops.size)
    (hend : ∀ l a w, J l a w → (∀ i, i < ops.size → l.getD i false = true) → Q .normal a w)
    (hstep : ∀ l a w, J l a w → ∀ (i : Nat) (o : Oper), ops[i]? = some o → l.getD i false = false → (∀ e ∈ o.after, Region.binds .any e = true → l.getD e.on false = true) → wpOp P ops Q i (J (l.setIfInBounds i true)) a w) :
    ∀ (fuel : Nat) (l : Array Bool) (a : Act) (w : World), l.toList.countP (fun b => !b) ≤ fuel → J l a w → wpAny P .any ops Q fuel l a w := by
  have hall : ∀ l a w, J l a w → Region.ready .any ops l = [] → Q .normal a w := fun l a w hJ hr => hend l a w hJ (by
    have hs := hsz l a w hJ
    intro i
    induction i using Nat.strongRecOn with
    | ind i ih =>
      intro hi
      cases hb : l.getD i false with
      | true => rfl
      | false =>
        exfalso
        have hm : i ∈ Region.ready .any ops l := mem_ready.2 ⟨by rw [getD_two (by omega)]; exact hb, ops[i], Array.getElem?_eq_getElem hi, fun e he _ => by
          have := hac i _ (Array.getElem?_eq_getElem hi) e he
          exact ih e.on this (by omega)⟩
        rw [hr] at hm
        cases hm)
  intro fuel
  induction fuel with
  | zero =>
    intro l a w hc hJ
    have hr : Region.ready .any ops l = [] := by
      refine List.eq_nil_iff_forall_not_mem.2 fun i hi => ?_
      obtain ⟨h0, o, ho, _⟩ := mem_ready.1 hi
      have := cnt_pos (L := l.toList) (i := i) (by rw [Array.getElem?_toList]; exact getD_bool.1 h0)
      omega
    exact ⟨hr, hall l a w hJ hr⟩
  | succ fuel ih =>
    intro l a w hc hJ
    refine ⟨hall l a w hJ, fun i hi => ?_⟩
    obtain ⟨h0, o, ho, he⟩ := mem_ready.1 hi
    have hi2 : i < ops.size := (Array.getElem?_eq_some_iff.1 ho).1
    have h1 : l.getD i false = false := by rw [← getD_two (by rw [hsz l a w hJ]; exact hi2)]; exact h0
    refine wpOp_mono (fun a' w' hJ' => ih _ a' w' ?_ hJ') (hstep l a w hJ i o ho h1 he)
    have := cnt_set l.toList i (by rw [Array.getElem?_toList]; exact getD_bool.1 h0)
    rw [Array.toList_setIfInBounds]
    omega
end
theorem ev_tmp {a : Act} {k : Nat} {x : Value} (h : a.tmps[k]? = some x) : a.eval (.tmp k) = x := by
  show a.tmps.getD k undef = x
  rw [Array.getD_eq_getD_getElem?, h]; rfl
theorem put_ne {a : Act} {d k : Nat} {v : Value} (h : d ≠ k) : (a.put (some d) v).tmps[k]? = a.tmps[k]? := by
  show (a.tmps.setIfInBounds d v)[k]? = _
  rw [Array.getElem?_setIfInBounds, if_neg h]
theorem put_eq {a : Act} {d : Nat} {v : Value} (h : d < a.tmps.size) : (a.put (some d) v).tmps[d]? = some v := by
  show (a.tmps.setIfInBounds d v)[d]? = _
  rw [Array.getElem?_setIfInBounds, if_pos rfl, if_pos h]
theorem got_ne {l : Array Bool} {i j : Nat} (h : i ≠ j) : (l.setIfInBounds i true).getD j false = l.getD j false := by
  rw [Array.getD_eq_getD_getElem?, Array.getD_eq_getD_getElem?, Array.getElem?_setIfInBounds, if_neg h]
structure Op1 (ops : Array Oper) (i : Nat) (op : Op) (dst : Option Tmp) (aft : List Nat) : Prop where
  ex : ∃ o, ops[i]? = some o ∧ o.op = op ∧ o.dst = dst ∧ o.guard = none ∧ (aft.all fun j => o.after.any fun e => e.on == j && Region.binds .any e) = true
theorem Op1.aft {ops : Array Oper} {i : Nat} {op : Op} {dst : Option Tmp} {aft : List Nat} (h : Op1 ops i op dst aft) {o : Oper} (ho : ops[i]? = some o) {l : Array Bool} (he : ∀ e ∈ o.after, Region.binds .any e = true → l.getD e.on false = true) : o.op = op ∧ o.dst = dst ∧ o.guard = none ∧ ∀ j ∈ aft, l.getD j false = true := by
  obtain ⟨o', h1, h2, h3, h4, h5⟩ := h.ex
  rw [ho] at h1
  cases h1
  refine ⟨h2, h3, h4, fun j hj => ?_⟩
  have := List.all_eq_true.1 h5 j hj
  obtain ⟨e, e1, e2⟩ := Array.any_eq_true'.1 this
  simp only [Bool.and_eq_true, beq_iff_eq] at e2
  rw [← e2.1]
  exact he e e1 e2.2
end Go.Proofs.YtakfhoodjcfpcaaDoor.T
namespace Go.Proofs.YtakfhoodjcfpcaaDoor.T
set_option linter.unusedVariables false
set_option maxRecDepth 100000
open Go.RowKit Tlv Wire
/-! wire: the long message of WireKnown is made, whatever the order -/
def sl (g n : Nat) : Value := .slice (some ⟨g, 0, none⟩) n n
def Mb (w : World) (g n : Nat) : Prop := w.heap[g]? = some (.cells (madeCells #[.int .u8 0] (n * 1)) 5 (0, 0))
def Mn (w : World) (g n : Nat) : Prop := w.heap[g]? = some (.cells (madeCells #[.int .i64 0] (n * 1)) 2 (0, 0))
def Me (w : World) (g : Nat) (v : Value) : Prop := w.heap[g]? = some (.cells #[.int .u64 1, v] 43 (0, 0))
theorem Mb.later {w w' : World} {g n : Nat} (h : Mb w g n) (hb : Below w.heap.size w w') : Mb w' g n := (hb.block _ (lt_of_heap h)).trans h
theorem Mn.later {w w' : World} {g n : Nat} (h : Mn w g n) (hb : Below w.heap.size w w') : Mn w' g n := (hb.block _ (lt_of_heap h)).trans h
theorem Me.later {w w' : World} {g : Nat} {v : Value} (h : Me w g v) (hb : Below w.heap.size w w') : Me w' g v := (hb.block _ (lt_of_heap h)).trans h
def msgA (n e : Nat) : Array Value := #[.int .u16 999, .string (zs 100), sl n 32, .slice none 0 0, .string (zs 4096), sl e 1]
structure Mk (a0 : Act) (w0 : World) (l : Array Bool) (a : Act) (w : World) : Prop where
  sz : l.size = 11
  ds : a.defers = a0.defers
  ts : a.tmps.size = a0.tmps.size
  ot : ∀ k, k ≠ 28 → k < 206 ∨ 214 < k → a.tmps[k]? = a0.tmps[k]?
  bl : Below w0.heap.size w0 w
  p0 : l.getD 0 false = true → ∃ g, a.tmps[206]? = some (sl g 100) ∧ Mb w g 100
  p1 : l.getD 1 false = true → a.tmps[207]? = some (.string (zs 100))
  p2 : l.getD 2 false = true → ∃ g, a.tmps[208]? = some (sl g 4096) ∧ Mb w g 4096
  p3 : l.getD 3 false = true → a.tmps[209]? = some (.string (zs 4096))
  p4 : l.getD 4 false = true → ∃ g, a.tmps[210]? = some (sl g 32) ∧ Mn w g 32
  p5 : l.getD 5 false = true → ∃ g, a.tmps[211]? = some (sl g 28304) ∧ Mb w g 28304
  p6 : l.getD 6 false = true → ∃ g, a.tmps[212]? = some (.agg #[.int .u64 1, sl g 28304]) ∧ Mb w g 28304
  p7 : l.getD 7 false = true → ∃ e g, a.tmps[213]? = some (sl e 1) ∧ w0.heap.size ≤ e ∧ Me w e (sl g 28304) ∧ Mb w g 28304
  p8 : l.getD 8 false = true → ∃ n e g, a.tmps[214]? = some (.agg (msgA n e)) ∧ w0.heap.size ≤ e ∧ Mn w n 32 ∧ Me w e (sl g 28304) ∧ Mb w g 28304
  p9 : l.getD 9 false = true → ∃ f cs, a.tmps[28]? = some (.pointer (some ⟨f, 0, none⟩)) ∧ w0.heap.size ≤ f ∧ cs.size = 6 ∧ MC w f cs
  p10 : l.getD 10 false = true → ∃ f n e g, a.tmps[28]? = some (.pointer (some ⟨f, 0, none⟩)) ∧ w0.heap.size ≤ f ∧ w0.heap.size ≤ e ∧ MC w f (msgA n e) ∧ Mn w n 32 ∧ Me w e (sl g 28304) ∧ Mb w g 28304
theorem Mk.s0 {a0 : Act} {w0 : World} {l : Array Bool} {a : Act} {w w' : World} (h : Mk a0 w0 l a w) (hsz : 214 < a0.tmps.size) (hu : l.getD 0 false = false) (hb : Below w.heap.size w w') (v : Value) (hn : (a.put (some 206) v).tmps[206]? = some v → ∃ g, (a.put (some 206) v).tmps[206]? = some (sl g 100) ∧ Mb w' g 100) : Mk a0 w0 (l.setIfInBounds 0 true) (a.put (some 206) v) w' where
  sz := by rw [Array.size_setIfInBounds]; exact h.sz
  ds := h.ds
  ts := by show (a.tmps.setIfInBounds _ _).size = _; rw [Array.size_setIfInBounds]; exact h.ts
  ot := fun k h1 h2 => by rw [put_ne (by omega)]; exact h.ot k h1 h2
  bl := btr h.bl hb
  p0 := fun _ => hn (put_eq (by have := h.ts; omega))
  p1 := fun hx => by rw [got_ne (by omega)] at hx; rw [put_ne (by omega)]; exact h.p1 hx
  p2 := fun hx => by rw [got_ne (by omega)] at hx; obtain ⟨g, h1, h2⟩ := h.p2 hx; exact ⟨g, (put_ne (by omega)).trans h1, h2.later hb⟩
  p3 := fun hx => by rw [got_ne (by omega)] at hx; rw [put_ne (by omega)]; exact h.p3 hx
  p4 := fun hx => by rw [got_ne (by omega)] at hx; obtain ⟨g, h1, h2⟩ := h.p4 hx; exact ⟨g, (put_ne (by omega)).trans h1, h2.later hb⟩
  p5 := fun hx => by rw [got_ne (by omega)] at hx; obtain ⟨g, h1, h2⟩ := h.p5 hx; exact ⟨g, (put_ne (by omega)).trans h1, h2.later hb⟩
  p6 := fun hx => by rw [got_ne (by omega)] at hx; obtain ⟨g, h1, h2⟩ := h.p6 hx; exact ⟨g, (put_ne (by omega)).trans h1, h2.later hb⟩
  p7 := fun hx => by rw [got_ne (by omega)] at hx; obtain ⟨e, g, h1, h2, h3, h4⟩ := h.p7 hx; exact ⟨e, g, (put_ne (by omega)).trans h1, h2, h3.later hb, h4.later hb⟩
  p8 := fun hx => by rw [got_ne (by omega)] at hx; obtain ⟨n, e, g, h1, h2, h3, h4, h5⟩ := h.p8 hx; exact ⟨n, e, g, (put_ne (by omega)).trans h1, h2, h3.later hb, h4.later hb, h5.later hb⟩
  p9 := fun hx => by rw [got_ne (by omega)] at hx; obtain ⟨f, cs, h1, h2, h3, h4⟩ := h.p9 hx; exact ⟨f, cs, (put_ne (by omega)).trans h1, h2, h3, h4.later hb⟩
  p10 := fun hx => by rw [got_ne (by omega)] at hx; obtain ⟨f, n, e, g, h1, h2, h3, h4, h5, h6, h7⟩ := h.p10 hx; exact ⟨f, n, e, g, (put_ne (by omega)).trans h1, h2, h3, h4.later hb, h5.later hb, h6.later hb, h7.later hb⟩
theorem Mk.s1 {a0 : Act} {w0 : World} {l : Array Bool} {a : Act} {w w' : World} (h : Mk a0 w0 l a w) (hsz : 214 < a0.tmps.size) (hu : l.getD 1 false = false) (hb : Below w.heap.size w w') (v : Value) (hn : (a.put (some 207) v).tmps[207]? = some v → (a.put (some 207) v).tmps[207]? = some (.string (zs 100))) : Mk a0 w0 (l.setIfInBounds 1 true) (a.put (some 207) v) w' where
  sz := by rw [Array.size_setIfInBounds]; exact h.sz
  ds := h.ds
  ts := by show (a.tmps.setIfInBounds _ _).size = _; rw [Array.size_setIfInBounds]; exact h.ts
  ot := fun k h1 h2 => by rw [put_ne (by omega)]; exact h.ot k h1 h2
  bl := btr h.bl hb
  p0 := fun hx => by rw [got_ne (by omega)] at hx; obtain ⟨g, h1, h2⟩ := h.p0 hx; exact ⟨g, (put_ne (by omega)).trans h1, h2.later hb⟩
  p1 := fun _ => hn (put_eq (by have := h.ts; omega))
  p2 := fun hx => by rw [got_ne (by omega)] at hx; obtain ⟨g, h1, h2⟩ := h.p2 hx; exact ⟨g, (put_ne (by omega)).trans h1, h2.later hb⟩
  p3 := fun hx => by rw [got_ne (by omega)] at hx; rw [put_ne (by omega)]; exact h.p3 hx
  p4 := fun hx => by rw [got_ne (by omega)] at hx; obtain ⟨g, h1, h2⟩ := h.p4 hx; exact ⟨g, (put_ne (by omega)).trans h1, h2.later hb⟩
  p5 := fun hx => by rw [got_ne (by omega)] at hx; obtain ⟨g, h1, h2⟩ := h.p5 hx; exact ⟨g, (put_ne (by omega)).trans h1, h2.later hb⟩
  p6 := fun hx => by rw [got_ne (by omega)] at hx; obtain ⟨g, h1, h2⟩ := h.p6 hx; exact ⟨g, (put_ne (by omega)).trans h1, h2.later hb⟩
  p7 := fun hx => by rw [got_ne (by omega)] at hx; obtain ⟨e, g, h1, h2, h3, h4⟩ := h.p7 hx; exact ⟨e, g, (put_ne (by omega)).trans h1, h2, h3.later hb, h4.later hb⟩
  p8 := fun hx => by rw [got_ne (by omega)] at hx; obtain ⟨n, e, g, h1, h2, h3, h4, h5⟩ := h.p8 hx; exact ⟨n, e, g, (put_ne (by omega)).trans h1, h2, h3.later hb, h4.later hb, h5.later hb⟩
  p9 := fun hx => by rw [got_ne (by omega)] at hx; obtain ⟨f, cs, h1, h2, h3, h4⟩ := h.p9 hx; exact ⟨f, cs, (put_ne (by omega)).trans h1, h2, h3, h4.later hb⟩
  p10 := fun hx => by rw [got_ne (by omega)] at hx; obtain ⟨f, n, e, g, h1, h2, h3, h4, h5, h6, h7⟩ := h.p10 hx; exact ⟨f, n, e, g, (put_ne (by omega)).trans h1, h2, h3, h4.later hb, h5.later hb, h6.later hb, h7.later hb⟩
theorem Mk.s2 {a0 : Act} {w0 : World} {l : Array Bool} {a : Act} {w w' : World} (h : Mk a0 w0 l a w) (hsz : 214 < a0.tmps.size) (hu : l.getD 2 false = false) (hb : Below w.heap.size w w') (v : Value) (hn : (a.put (some 208) v).tmps[208]? = some v → ∃ g, (a.put (some 208) v).tmps[208]? = some (sl g 4096) ∧ Mb w' g 4096) : Mk a0 w0 (l.setIfInBounds 2 true) (a.put (some 208) v) w' where
  sz := by rw [Array.size_setIfInBounds]; exact h.sz
  ds := h.ds
  ts := by show (a.tmps.setIfInBounds _ _).size = _; rw [Array.size_setIfInBounds]; exact h.ts
  ot := fun k h1 h2 => by rw [put_ne (by omega)]; exact h.ot k h1 h2
  bl := btr h.bl hb
  p0 := fun hx => by rw [got_ne (by omega)] at hx; obtain ⟨g, h1, h2⟩ := h.p0 hx; exact ⟨g, (put_ne (by omega)).trans h1, h2.later hb⟩
  p1 := fun hx => by rw [got_ne (by omega)] at hx; rw [put_ne (by omega)]; exact h.p1 hx
  p2 := fun _ => hn (put_eq (by have := h.ts; omega))
  p3 := fun hx => by rw [got_ne (by omega)] at hx; rw [put_ne (by omega)]; exact h.p3 hx
  p4 := fun hx => by rw [got_ne (by omega)] at hx; obtain ⟨g, h1, h2⟩ := h.p4 hx; exact ⟨g, (put_ne (by omega)).trans h1, h2.later hb⟩
  p5 := fun hx => by rw [got_ne (by omega)] at hx; obtain ⟨g, h1, h2⟩ := h.p5 hx; exact ⟨g, (put_ne (by omega)).trans h1, h2.later hb⟩
  p6 := fun hx => by rw [got_ne (by omega)] at hx; obtain ⟨g, h1, h2⟩ := h.p6 hx; exact ⟨g, (put_ne (by omega)).trans h1, h2.later hb⟩
  p7 := fun hx => by rw [got_ne (by omega)] at hx; obtain ⟨e, g, h1, h2, h3, h4⟩ := h.p7 hx; exact ⟨e, g, (put_ne (by omega)).trans h1, h2, h3.later hb, h4.later hb⟩
  p8 := fun hx => by rw [got_ne (by omega)] at hx; obtain ⟨n, e, g, h1, h2, h3, h4, h5⟩ := h.p8 hx; exact ⟨n, e, g, (put_ne (by omega)).trans h1, h2, h3.later hb, h4.later hb, h5.later hb⟩
  p9 := fun hx => by rw [got_ne (by omega)] at hx; obtain ⟨f, cs, h1, h2, h3, h4⟩ := h.p9 hx; exact ⟨f, cs, (put_ne (by omega)).trans h1, h2, h3, h4.later hb⟩
  p10 := fun hx => by rw [got_ne (by omega)] at hx; obtain ⟨f, n, e, g, h1, h2, h3, h4, h5, h6, h7⟩ := h.p10 hx; exact ⟨f, n, e, g, (put_ne (by omega)).trans h1, h2, h3, h4.later hb, h5.later hb, h6.later hb, h7.later hb⟩
theorem Mk.s3 {a0 : Act} {w0 : World} {l : Array Bool} {a : Act} {w w' : World} (h : Mk a0 w0 l a w) (hsz : 214 < a0.tmps.size) (hu : l.getD 3 false = false) (hb : Below w.heap.size w w') (v : Value) (hn : (a.put (some 209) v).tmps[209]? = some v → (a.put (some 209) v).tmps[209]? = some (.string (zs 4096))) : Mk a0 w0 (l.setIfInBounds 3 true) (a.put (some 209) v) w' where
  sz := by rw [Array.size_setIfInBounds]; exact h.sz
  ds := h.ds
  ts := by show (a.tmps.setIfInBounds _ _).size = _; rw [Array.size_setIfInBounds]; exact h.ts
  ot := fun k h1 h2 => by rw [put_ne (by omega)]; exact h.ot k h1 h2
  bl := btr h.bl hb
  p0 := fun hx => by rw [got_ne (by omega)] at hx; obtain ⟨g, h1, h2⟩ := h.p0 hx; exact ⟨g, (put_ne (by omega)).trans h1, h2.later hb⟩
  p1 := fun hx => by rw [got_ne (by omega)] at hx; rw [put_ne (by omega)]; exact h.p1 hx
  p2 := fun hx => by rw [got_ne (by omega)] at hx; obtain ⟨g, h1, h2⟩ := h.p2 hx; exact ⟨g, (put_ne (by omega)).trans h1, h2.later hb⟩
  p3 := fun _ => hn (put_eq (by have := h.ts; omega))
  p4 := fun hx => by rw [got_ne (by omega)] at hx; obtain ⟨g, h1, h2⟩ := h.p4 hx; exact ⟨g, (put_ne (by omega)).trans h1, h2.later hb⟩
  p5 := fun hx => by rw [got_ne (by omega)] at hx; obtain ⟨g, h1, h2⟩ := h.p5 hx; exact ⟨g, (put_ne (by omega)).trans h1, h2.later hb⟩
  p6 := fun hx => by rw [got_ne (by omega)] at hx; obtain ⟨g, h1, h2⟩ := h.p6 hx; exact ⟨g, (put_ne (by omega)).trans h1, h2.later hb⟩
  p7 := fun hx => by rw [got_ne (by omega)] at hx; obtain ⟨e, g, h1, h2, h3, h4⟩ := h.p7 hx; exact ⟨e, g, (put_ne (by omega)).trans h1, h2, h3.later hb, h4.later hb⟩
  p8 := fun hx => by rw [got_ne (by omega)] at hx; obtain ⟨n, e, g, h1, h2, h3, h4, h5⟩ := h.p8 hx; exact ⟨n, e, g, (put_ne (by omega)).trans h1, h2, h3.later hb, h4.later hb, h5.later hb⟩
  p9 := fun hx => by rw [got_ne (by omega)] at hx; obtain ⟨f, cs, h1, h2, h3, h4⟩ := h.p9 hx; exact ⟨f, cs, (put_ne (by omega)).trans h1, h2, h3, h4.later hb⟩
  p10 := fun hx => by rw [got_ne (by omega)] at hx; obtain ⟨f, n, e, g, h1, h2, h3, h4, h5, h6, h7⟩ := h.p10 hx; exact ⟨f, n, e, g, (put_ne (by omega)).trans h1, h2, h3, h4.later hb, h5.later hb, h6.later hb, h7.later hb⟩
theorem Mk.s4 {a0 : Act} {w0 : World} {l : Array Bool} {a : Act} {w w' : World} (h : Mk a0 w0 l a w) (hsz : 214 < a0.tmps.size) (hu : l.getD 4 false = false) (hb : Below w.heap.size w w') (v : Value) (hn : (a.put (some 210) v).tmps[210]? = some v → ∃ g, (a.put (some 210) v).tmps[210]? = some (sl g 32) ∧ Mn w' g 32) : Mk a0 w0 (l.setIfInBounds 4 true) (a.put (some 210) v) w' where
  sz := by rw [Array.size_setIfInBounds]; exact h.sz
  ds := h.ds
  ts := by show (a.tmps.setIfInBounds _ _).size = _; rw [Array.size_setIfInBounds]; exact h.ts
  ot := fun k h1 h2 => by rw [put_ne (by omega)]; exact h.ot k h1 h2
  bl := btr h.bl hb
  p0 := fun hx => by rw [got_ne (by omega)] at hx; obtain ⟨g, h1, h2⟩ := h.p0 hx; exact ⟨g, (put_ne (by omega)).trans h1, h2.later hb⟩
  p1 := fun hx => by rw [got_ne (by omega)] at hx; rw [put_ne (by omega)]; exact h.p1 hx
  p2 := fun hx => by rw [got_ne (by omega)] at hx; obtain ⟨g, h1, h2⟩ := h.p2 hx; exact ⟨g, (put_ne (by omega)).trans h1, h2.later hb⟩
  p3 := fun hx => by rw [got_ne (by omega)] at hx; rw [put_ne (by omega)]; exact h.p3 hx
  p4 := fun _ => hn (put_eq (by have := h.ts; omega))
  p5 := fun hx => by rw [got_ne (by omega)] at hx; obtain ⟨g, h1, h2⟩ := h.p5 hx; exact ⟨g, (put_ne (by omega)).trans h1, h2.later hb⟩
  p6 := fun hx => by rw [got_ne (by omega)] at hx; obtain ⟨g, h1, h2⟩ := h.p6 hx; exact ⟨g, (put_ne (by omega)).trans h1, h2.later hb⟩
  p7 := fun hx => by rw [got_ne (by omega)] at hx; obtain ⟨e, g, h1, h2, h3, h4⟩ := h.p7 hx; exact ⟨e, g, (put_ne (by omega)).trans h1, h2, h3.later hb, h4.later hb⟩
  p8 := fun hx => by rw [got_ne (by omega)] at hx; obtain ⟨n, e, g, h1, h2, h3, h4, h5⟩ := h.p8 hx; exact ⟨n, e, g, (put_ne (by omega)).trans h1, h2, h3.later hb, h4.later hb, h5.later hb⟩
  p9 := fun hx => by rw [got_ne (by omega)] at hx; obtain ⟨f, cs, h1, h2, h3, h4⟩ := h.p9 hx; exact ⟨f, cs, (put_ne (by omega)).trans h1, h2, h3, h4.later hb⟩
  p10 := fun hx => by rw [got_ne (by omega)] at hx; obtain ⟨f, n, e, g, h1, h2, h3, h4, h5, h6, h7⟩ := h.p10 hx; exact ⟨f, n, e, g, (put_ne (by omega)).trans h1, h2, h3, h4.later hb, h5.later hb, h6.later hb, h7.later hb⟩
theorem Mk.s5 {a0 : Act} {w0 : World} {l : Array Bool} {a : Act} {w w' : World} (h : Mk a0 w0 l a w) (hsz : 214 < a0.tmps.size) (hu : l.getD 5 false = false) (hb : Below w.heap.size w w') (v : Value) (hn : (a.put (some 211) v).tmps[211]? = some v → ∃ g, (a.put (some 211) v).tmps[211]? = some (sl g 28304) ∧ Mb w' g 28304) : Mk a0 w0 (l.setIfInBounds 5 true) (a.put (some 211) v) w' where
  sz := by rw [Array.size_setIfInBounds]; exact h.sz
  ds := h.ds
  ts := by show (a.tmps.setIfInBounds _ _).size = _; rw [Array.size_setIfInBounds]; exact h.ts
  ot := fun k h1 h2 => by rw [put_ne (by omega)]; exact h.ot k h1 h2
  bl := btr h.bl hb
  p0 := fun hx => by rw [got_ne (by omega)] at hx; obtain ⟨g, h1, h2⟩ := h.p0 hx; exact ⟨g, (put_ne (by omega)).trans h1, h2.later hb⟩
  p1 := fun hx => by rw [got_ne (by omega)] at hx; rw [put_ne (by omega)]; exact h.p1 hx
  p2 := fun hx => by rw [got_ne (by omega)] at hx; obtain ⟨g, h1, h2⟩ := h.p2 hx; exact ⟨g, (put_ne (by omega)).trans h1, h2.later hb⟩
  p3 := fun hx => by rw [got_ne (by omega)] at hx; rw [put_ne (by omega)]; exact h.p3 hx
  p4 := fun hx => by rw [got_ne (by omega)] at hx; obtain ⟨g, h1, h2⟩ := h.p4 hx; exact ⟨g, (put_ne (by omega)).trans h1, h2.later hb⟩
  p5 := fun _ => hn (put_eq (by have := h.ts; omega))
  p6 := fun hx => by rw [got_ne (by omega)] at hx; obtain ⟨g, h1, h2⟩ := h.p6 hx; exact ⟨g, (put_ne (by omega)).trans h1, h2.later hb⟩
  p7 := fun hx => by rw [got_ne (by omega)] at hx; obtain ⟨e, g, h1, h2, h3, h4⟩ := h.p7 hx; exact ⟨e, g, (put_ne (by omega)).trans h1, h2, h3.later hb, h4.later hb⟩
  p8 := fun hx => by rw [got_ne (by omega)] at hx; obtain ⟨n, e, g, h1, h2, h3, h4, h5⟩ := h.p8 hx; exact ⟨n, e, g, (put_ne (by omega)).trans h1, h2, h3.later hb, h4.later hb, h5.later hb⟩
  p9 := fun hx => by rw [got_ne (by omega)] at hx; obtain ⟨f, cs, h1, h2, h3, h4⟩ := h.p9 hx; exact ⟨f, cs, (put_ne (by omega)).trans h1, h2, h3, h4.later hb⟩
  p10 := fun hx => by rw [got_ne (by omega)] at hx; obtain ⟨f, n, e, g, h1, h2, h3, h4, h5, h6, h7⟩ := h.p10 hx; exact ⟨f, n, e, g, (put_ne (by omega)).trans h1, h2, h3, h4.later hb, h5.later hb, h6.later hb, h7.later hb⟩
theorem Mk.s6 {a0 : Act} {w0 : World} {l : Array Bool} {a : Act} {w w' : World} (h : Mk a0 w0 l a w) (hsz : 214 < a0.tmps.size) (hu : l.getD 6 false = false) (hb : Below w.heap.size w w') (v : Value) (hn : (a.put (some 212) v).tmps[212]? = some v → ∃ g, (a.put (some 212) v).tmps[212]? = some (.agg #[.int .u64 1, sl g 28304]) ∧ Mb w' g 28304) : Mk a0 w0 (l.setIfInBounds 6 true) (a.put (some 212) v) w' where
  sz := by rw [Array.size_setIfInBounds]; exact h.sz
  ds := h.ds
  ts := by show (a.tmps.setIfInBounds _ _).size = _; rw [Array.size_setIfInBounds]; exact h.ts
  ot := fun k h1 h2 => by rw [put_ne (by omega)]; exact h.ot k h1 h2
  bl := btr h.bl hb
  p0 := fun hx => by rw [got_ne (by omega)] at hx; obtain ⟨g, h1, h2⟩ := h.p0 hx; exact ⟨g, (put_ne (by omega)).trans h1, h2.later hb⟩
  p1 := fun hx => by rw [got_ne (by omega)] at hx; rw [put_ne (by omega)]; exact h.p1 hx
  p2 := fun hx => by rw [got_ne (by omega)] at hx; obtain ⟨g, h1, h2⟩ := h.p2 hx; exact ⟨g, (put_ne (by omega)).trans h1, h2.later hb⟩
  p3 := fun hx => by rw [got_ne (by omega)] at hx; rw [put_ne (by omega)]; exact h.p3 hx
  p4 := fun hx => by rw [got_ne (by omega)] at hx; obtain ⟨g, h1, h2⟩ := h.p4 hx; exact ⟨g, (put_ne (by omega)).trans h1, h2.later hb⟩
  p5 := fun hx => by rw [got_ne (by omega)] at hx; obtain ⟨g, h1, h2⟩ := h.p5 hx; exact ⟨g, (put_ne (by omega)).trans h1, h2.later hb⟩
  p6 := fun _ => hn (put_eq (by have := h.ts; omega))
  p7 := fun hx => by rw [got_ne (by omega)] at hx; obtain ⟨e, g, h1, h2, h3, h4⟩ := h.p7 hx; exact ⟨e, g, (put_ne (by omega)).trans h1, h2, h3.later hb, h4.later hb⟩
  p8 := fun hx => by rw [got_ne (by omega)] at hx; obtain ⟨n, e, g, h1, h2, h3, h4, h5⟩ := h.p8 hx; exact ⟨n, e, g, (put_ne (by omega)).trans h1, h2, h3.later hb, h4.later hb, h5.later hb⟩
  p9 := fun hx => by rw [got_ne (by omega)] at hx; obtain ⟨f, cs, h1, h2, h3, h4⟩ := h.p9 hx; exact ⟨f, cs, (put_ne (by omega)).trans h1, h2, h3, h4.later hb⟩
  p10 := fun hx => by rw [got_ne (by omega)] at hx; obtain ⟨f, n, e, g, h1, h2, h3, h4, h5, h6, h7⟩ := h.p10 hx; exact ⟨f, n, e, g, (put_ne (by omega)).trans h1, h2, h3, h4.later hb, h5.later hb, h6.later hb, h7.later hb⟩
theorem Mk.s7 {a0 : Act} {w0 : World} {l : Array Bool} {a : Act} {w w' : World} (h : Mk a0 w0 l a w) (hsz : 214 < a0.tmps.size) (hu : l.getD 7 false = false) (hb : Below w.heap.size w w') (v : Value) (hn : (a.put (some 213) v).tmps[213]? = some v → ∃ e g, (a.put (some 213) v).tmps[213]? = some (sl e 1) ∧ w0.heap.size ≤ e ∧ Me w' e (sl g 28304) ∧ Mb w' g 28304) : Mk a0 w0 (l.setIfInBounds 7 true) (a.put (some 213) v) w' where
  sz := by rw [Array.size_setIfInBounds]; exact h.sz
  ds := h.ds
  ts := by show (a.tmps.setIfInBounds _ _).size = _; rw [Array.size_setIfInBounds]; exact h.ts
  ot := fun k h1 h2 => by rw [put_ne (by omega)]; exact h.ot k h1 h2
  bl := btr h.bl hb
  p0 := fun hx => by rw [got_ne (by omega)] at hx; obtain ⟨g, h1, h2⟩ := h.p0 hx; exact ⟨g, (put_ne (by omega)).trans h1, h2.later hb⟩
  p1 := fun hx => by rw [got_ne (by omega)] at hx; rw [put_ne (by omega)]; exact h.p1 hx
  p2 := fun hx => by rw [got_ne (by omega)] at hx; obtain ⟨g, h1, h2⟩ := h.p2 hx; exact ⟨g, (put_ne (by omega)).trans h1, h2.later hb⟩
  p3 := fun hx => by rw [got_ne (by omega)] at hx; rw [put_ne (by omega)]; exact h.p3 hx
  p4 := fun hx => by rw [got_ne (by omega)] at hx; obtain ⟨g, h1, h2⟩ := h.p4 hx; exact ⟨g, (put_ne (by omega)).trans h1, h2.later hb⟩
  p5 := fun hx => by rw [got_ne (by omega)] at hx; obtain ⟨g, h1, h2⟩ := h.p5 hx; exact ⟨g, (put_ne (by omega)).trans h1, h2.later hb⟩
  p6 := fun hx => by rw [got_ne (by omega)] at hx; obtain ⟨g, h1, h2⟩ := h.p6 hx; exact ⟨g, (put_ne (by omega)).trans h1, h2.later hb⟩
  p7 := fun _ => hn (put_eq (by have := h.ts; omega))
  p8 := fun hx => by rw [got_ne (by omega)] at hx; obtain ⟨n, e, g, h1, h2, h3, h4, h5⟩ := h.p8 hx; exact ⟨n, e, g, (put_ne (by omega)).trans h1, h2, h3.later hb, h4.later hb, h5.later hb⟩
  p9 := fun hx => by rw [got_ne (by omega)] at hx; obtain ⟨f, cs, h1, h2, h3, h4⟩ := h.p9 hx; exact ⟨f, cs, (put_ne (by omega)).trans h1, h2, h3, h4.later hb⟩
  p10 := fun hx => by rw [got_ne (by omega)] at hx; obtain ⟨f, n, e, g, h1, h2, h3, h4, h5, h6, h7⟩ := h.p10 hx; exact ⟨f, n, e, g, (put_ne (by omega)).trans h1, h2, h3, h4.later hb, h5.later hb, h6.later hb, h7.later hb⟩
theorem Mk.s8 {a0 : Act} {w0 : World} {l : Array Bool} {a : Act} {w w' : World} (h : Mk a0 w0 l a w) (hsz : 214 < a0.tmps.size) (hu : l.getD 8 false = false) (hb : Below w.heap.size w w') (v : Value) (hn : (a.put (some 214) v).tmps[214]? = some v → ∃ n e g, (a.put (some 214) v).tmps[214]? = some (.agg (msgA n e)) ∧ w0.heap.size ≤ e ∧ Mn w' n 32 ∧ Me w' e (sl g 28304) ∧ Mb w' g 28304) : Mk a0 w0 (l.setIfInBounds 8 true) (a.put (some 214) v) w' where
  sz := by rw [Array.size_setIfInBounds]; exact h.sz
  ds := h.ds
  ts := by show (a.tmps.setIfInBounds _ _).size = _; rw [Array.size_setIfInBounds]; exact h.ts
  ot := fun k h1 h2 => by rw [put_ne (by omega)]; exact h.ot k h1 h2
  bl := btr h.bl hb
  p0 := fun hx => by rw [got_ne (by omega)] at hx; obtain ⟨g, h1, h2⟩ := h.p0 hx; exact ⟨g, (put_ne (by omega)).trans h1, h2.later hb⟩
  p1 := fun hx => by rw [got_ne (by omega)] at hx; rw [put_ne (by omega)]; exact h.p1 hx
  p2 := fun hx => by rw [got_ne (by omega)] at hx; obtain ⟨g, h1, h2⟩ := h.p2 hx; exact ⟨g, (put_ne (by omega)).trans h1, h2.later hb⟩
  p3 := fun hx => by rw [got_ne (by omega)] at hx; rw [put_ne (by omega)]; exact h.p3 hx
  p4 := fun hx => by rw [got_ne (by omega)] at hx; obtain ⟨g, h1, h2⟩ := h.p4 hx; exact ⟨g, (put_ne (by omega)).trans h1, h2.later hb⟩
  p5 := fun hx => by rw [got_ne (by omega)] at hx; obtain ⟨g, h1, h2⟩ := h.p5 hx; exact ⟨g, (put_ne (by omega)).trans h1, h2.later hb⟩
  p6 := fun hx => by rw [got_ne (by omega)] at hx; obtain ⟨g, h1, h2⟩ := h.p6 hx; exact ⟨g, (put_ne (by omega)).trans h1, h2.later hb⟩
  p7 := fun hx => by rw [got_ne (by omega)] at hx; obtain ⟨e, g, h1, h2, h3, h4⟩ := h.p7 hx; exact ⟨e, g, (put_ne (by omega)).trans h1, h2, h3.later hb, h4.later hb⟩
  p8 := fun _ => hn (put_eq (by have := h.ts; omega))
  p9 := fun hx => by rw [got_ne (by omega)] at hx; obtain ⟨f, cs, h1, h2, h3, h4⟩ := h.p9 hx; exact ⟨f, cs, (put_ne (by omega)).trans h1, h2, h3, h4.later hb⟩
  p10 := fun hx => by rw [got_ne (by omega)] at hx; obtain ⟨f, n, e, g, h1, h2, h3, h4, h5, h6, h7⟩ := h.p10 hx; exact ⟨f, n, e, g, (put_ne (by omega)).trans h1, h2, h3, h4.later hb, h5.later hb, h6.later hb, h7.later hb⟩
theorem Mk.s9 {a0 : Act} {w0 : World} {l : Array Bool} {a : Act} {w w' : World} (h : Mk a0 w0 l a w) (hsz : 214 < a0.tmps.size) (hu : l.getD 9 false = false) (h10 : l.getD 10 false = true → l.getD 9 false = true) (hb : Below w.heap.size w w') (v : Value) (hn : (a.put (some 28) v).tmps[28]? = some v → ∃ f cs, (a.put (some 28) v).tmps[28]? = some (.pointer (some ⟨f, 0, none⟩)) ∧ w0.heap.size ≤ f ∧ cs.size = 6 ∧ MC w' f cs) : Mk a0 w0 (l.setIfInBounds 9 true) (a.put (some 28) v) w' where
  sz := by rw [Array.size_setIfInBounds]; exact h.sz
  ds := h.ds
  ts := by show (a.tmps.setIfInBounds _ _).size = _; rw [Array.size_setIfInBounds]; exact h.ts
  ot := fun k h1 h2 => by rw [put_ne (by omega)]; exact h.ot k h1 h2
  bl := btr h.bl hb
  p0 := fun hx => by rw [got_ne (by omega)] at hx; obtain ⟨g, h1, h2⟩ := h.p0 hx; exact ⟨g, (put_ne (by omega)).trans h1, h2.later hb⟩
  p1 := fun hx => by rw [got_ne (by omega)] at hx; rw [put_ne (by omega)]; exact h.p1 hx
  p2 := fun hx => by rw [got_ne (by omega)] at hx; obtain ⟨g, h1, h2⟩ := h.p2 hx; exact ⟨g, (put_ne (by omega)).trans h1, h2.later hb⟩
  p3 := fun hx => by rw [got_ne (by omega)] at hx; rw [put_ne (by omega)]; exact h.p3 hx
  p4 := fun hx => by rw [got_ne (by omega)] at hx; obtain ⟨g, h1, h2⟩ := h.p4 hx; exact ⟨g, (put_ne (by omega)).trans h1, h2.later hb⟩
  p5 := fun hx => by rw [got_ne (by omega)] at hx; obtain ⟨g, h1, h2⟩ := h.p5 hx; exact ⟨g, (put_ne (by omega)).trans h1, h2.later hb⟩
  p6 := fun hx => by rw [got_ne (by omega)] at hx; obtain ⟨g, h1, h2⟩ := h.p6 hx; exact ⟨g, (put_ne (by omega)).trans h1, h2.later hb⟩
  p7 := fun hx => by rw [got_ne (by omega)] at hx; obtain ⟨e, g, h1, h2, h3, h4⟩ := h.p7 hx; exact ⟨e, g, (put_ne (by omega)).trans h1, h2, h3.later hb, h4.later hb⟩
  p8 := fun hx => by rw [got_ne (by omega)] at hx; obtain ⟨n, e, g, h1, h2, h3, h4, h5⟩ := h.p8 hx; exact ⟨n, e, g, (put_ne (by omega)).trans h1, h2, h3.later hb, h4.later hb, h5.later hb⟩
  p9 := fun _ => hn (put_eq (by have := h.ts; omega))
  p10 := fun hx => by rw [got_ne (by omega)] at hx; exact absurd (h10 hx) (by rw [hu]; decide)
/-- what stands when all is done -/
structure Fin (a0 : Act) (w0 : World) (a : Act) (w : World) : Prop where
  ds : a.defers = a0.defers
  ts : a.tmps.size = a0.tmps.size
  ot : ∀ k, k ≠ 28 → k < 206 ∨ 214 < k → a.tmps[k]? = a0.tmps[k]?
  bl : Below w0.heap.size w0 w
  p : ∃ f n e g, a.tmps[28]? = some (.pointer (some ⟨f, 0, none⟩)) ∧ w0.heap.size ≤ f ∧ w0.heap.size ≤ e ∧ MC w f (msgA n e) ∧ Mn w n 32 ∧ Me w e (sl g 28304) ∧ Mb w g 28304
theorem row_other {w : World} {f g : Nat} {cs c1 c2 : Array Value} {t : TypeId} (hm : MC w f cs) (hg : w.heap[g]? = some (.cells c1 t (0, 0))) (ht : t ≠ 27) : (w.setRow f c2).heap[g]? = some (.cells c1 t (0, 0)) := by
  have hne : g ≠ f := by
    rintro rfl
    unfold MC at hm
    rw [hg] at hm
    cases hm
    exact ht rfl
  have hF : Fr (fun i => i = f) w (w.setRow f c2) := (Fr.refl _ w).setR f c2 (fun _ => rfl)
  exact (hF.block _ (lt_of_heap hg) hne).trans hg
def Jn (a0 : Act) (w0 : World) (l : Array Bool) (a : Act) (w : World) : Prop := (l.getD 10 false = false ∧ Mk a0 w0 l a w) ∨ (l.size = 11 ∧ (∀ i, i < 11 → l.getD i false = true) ∧ Fin a0 w0 a w)
end Go.Proofs.YtakfhoodjcfpcaaDoor.T
namespace Go.Proofs.YtakfhoodjcfpcaaDoor.T
set_option linter.unusedVariables false
set_option maxRecDepth 100000
open Go.RowKit Tlv Wire
/-! wire: the long message of WireKnown is made, whatever the order -/
theorem under25 : Tryd.prog.underlying 25 = some (.slice 43) := by kernel_rfl
theorem info43 : (Tryd.prog.info? 43).map (fun i => (i.zero, i.size, i.bytes)) = some (some (.agg #[.int .u64 0, .slice none 0 0]), 2, 32) := by kernel_rfl
theorem built43 (g : Nat) : Tryd.prog.built 43 [(0, .int .u64 1), (1, sl g 28304)] = some #[.int .u64 1, sl g 28304] := by rfl
theorem built27 (n e : Nat) : Tryd.prog.built 27 [(0, .int .u16 999), (1, .string (zs 100)), (4, .string (zs 4096)), (2, sl n 32), (5, sl e 1)] = some (msgA n e) := by rfl
theorem slice43 (g : Nat) (w : World) : (Instr.buildSlice 25 1 #[(0, .agg #[.int .u64 1, sl g 28304])]).run Tryd.prog w = .ok (sl w.heap.size 1) (w.alloc (.cells #[.int .u64 1, sl g 28304] 43)) := by
  obtain ⟨i, hi, hz, hs, hb⟩ := info_parts info43
  exact run_buildSlice w 25 43 1 _ _ i _ under25 hi hz (by rw [hs]; decide) (by rw [hs]; decide) (by rw [hs]; kernel_rfl)
theorem ev_const (a : Act) (v : Value) : a.eval (.const v) = v := rfl
theorem alloc27 (w : World) : (Instr.alloc 27 true (.tuple #[])).run Tryd.prog w = .ok (.pointer (some ⟨w.heap.size, 0, none⟩)) (w.alloc (.cells #[.int .u16 0, .string ⟨#[]⟩, .slice none 0 0, .slice none 0 0, .string ⟨#[]⟩, .slice none 0 0] 27)) := by rfl
theorem info27s : (Tryd.prog.info? 27).map (·.size) = some 6 := by kernel_rfl
theorem make_msg (ops : Array Oper) (id : Nat) (hn : ops.size = 11) (hac : ∀ (i : Nat) (o : Oper), ops[i]? = some o → ∀ e ∈ o.after, e.on < i)
    (h0 : Op1 ops 0 (.makeSlice 33 (.const (.int .i64 100)) (.const (.int .i64 100))) (some 206) [])
    (h1 : Op1 ops 1 (.convert 33 9 (.tmp 206)) (some 207) [0])
    (h2 : Op1 ops 2 (.makeSlice 33 (.const (.int .i64 4096)) (.const (.int .i64 4096))) (some 208) [])
    (h3 : Op1 ops 3 (.convert 33 9 (.tmp 208)) (some 209) [2])
    (h4 : Op1 ops 4 (.makeSlice 23 (.const (.int .i64 32)) (.const (.int .i64 32))) (some 210) [])
    (h5 : Op1 ops 5 (.makeSlice 33 (.const (.int .i64 28304)) (.const (.int .i64 28304))) (some 211) [])
    (h6 : Op1 ops 6 (.build 43 #[(0, .const (.int .u64 1)), (1, .tmp 211)]) (some 212) [5])
    (h7 : Op1 ops 7 (.buildSlice 25 1 #[(0, .tmp 212)]) (some 213) [6])
    (h8 : Op1 ops 8 (.build 27 #[(0, .const (.int .u16 999)), (1, .tmp 207), (4, .tmp 209), (2, .tmp 210), (5, .tmp 213)]) (some 214) [1, 3, 4, 7])
    (h9 : Op1 ops 9 (.alloc 27) (some 28) [])
    (h10 : Op1 ops 10 (.store 27 (.tmp 28) (.tmp 214)) (none) [0, 1, 2, 3, 4, 5, 6, 7, 8, 9])
    {Q : Exit → Act → World → Prop} (a0 : Act) (w0 : World) (hsz : 214 < a0.tmps.size) (hQ : ∀ a w, Fin a0 w0 a w → Q .normal a w) : (Code.region id ops true).wp Tryd.prog Q a0 w0 := by
  refine wp_region_any (by kernel_rfl) (wpAny_inv (Jn a0 w0) hac ?_ ?_ ?_ ops.size _ a0 _ ?_ ?_)
  · rintro l a w (⟨_, h⟩ | ⟨h, _⟩)
    · rw [h.sz, hn]
    · rw [h, hn]
  · rintro l a w (⟨h, _⟩ | ⟨_, _, h⟩) hall
    · rw [hall 10 (by omega)] at h; cases h
    · exact hQ a w h
  · rintro l a w hJ i o ho hu he
    have hi : i < 11 := by have := (Array.getElem?_eq_some_iff.1 ho).1; omega
    obtain ⟨hf, hM⟩ : l.getD 10 false = false ∧ Mk a0 w0 l a w := by
      rcases hJ with h | ⟨_, hall, _⟩
      · exact h
      · rw [hall i hi] at hu; cases hu
    have hts : 214 < a.tmps.size := by have := hM.ts; omega
    obtain rfl | rfl | rfl | rfl | rfl | rfl | rfl | rfl | rfl | rfl | rfl : i = 0 ∨ i = 1 ∨ i = 2 ∨ i = 3 ∨ i = 4 ∨ i = 5 ∨ i = 6 ∨ i = 7 ∨ i = 8 ∨ i = 9 ∨ i = 10 := by omega
    · obtain ⟨e1, e2, e3, e4⟩ := h0.aft ho he
      have hr : (execOp a.eval o).run Tryd.prog w = .ok (.value (sl w.heap.size 100)) (w.alloc (.cells (madeCells #[.int .u8 0] (100 * 1)) 5)) := by
        unfold execOp
        simp only [e1, Act.eval, Sem.run_bind]
        rw [make_b 100 (by omega) (by omega) w]
        rfl
      refine wpOp_of ho e3 ?_
      unfold Oper.wp
      rw [hr, Oper.upon_value, e2]
      exact .inl ⟨by rw [got_ne (by omega)]; exact hf, hM.s0 hsz hu (below_new w _) _ (fun hp => ⟨_, hp, heap_alloc_at w _⟩)⟩
    · obtain ⟨e1, e2, e3, e4⟩ := h1.aft ho he
      obtain ⟨g, q1, q2⟩ := hM.p0 (e4 0 (by simp))
      have hr : (execOp a.eval o).run Tryd.prog w = .ok (.value (.string (zs 100))) w := by
        unfold execOp
        simp only [e1, ev_tmp q1, Sem.run_bind]
        unfold sl
        rw [conv_made 100 w g q2]
        rfl
      refine wpOp_of ho e3 ?_
      unfold Oper.wp
      rw [hr, Oper.upon_value, e2]
      exact .inl ⟨by rw [got_ne (by omega)]; exact hf, hM.s1 hsz hu (Below.refl _ _) _ (fun hp => hp)⟩
    · obtain ⟨e1, e2, e3, e4⟩ := h2.aft ho he
      have hr : (execOp a.eval o).run Tryd.prog w = .ok (.value (sl w.heap.size 4096)) (w.alloc (.cells (madeCells #[.int .u8 0] (4096 * 1)) 5)) := by
        unfold execOp
        simp only [e1, Act.eval, Sem.run_bind]
        rw [make_b 4096 (by omega) (by omega) w]
        rfl
      refine wpOp_of ho e3 ?_
      unfold Oper.wp
      rw [hr, Oper.upon_value, e2]
      exact .inl ⟨by rw [got_ne (by omega)]; exact hf, hM.s2 hsz hu (below_new w _) _ (fun hp => ⟨_, hp, heap_alloc_at w _⟩)⟩
    · obtain ⟨e1, e2, e3, e4⟩ := h3.aft ho he
      obtain ⟨g, q1, q2⟩ := hM.p2 (e4 2 (by simp))
      have hr : (execOp a.eval o).run Tryd.prog w = .ok (.value (.string (zs 4096))) w := by
        unfold execOp
        simp only [e1, ev_tmp q1, Sem.run_bind]
        unfold sl
        rw [conv_made 4096 w g q2]
        rfl
      refine wpOp_of ho e3 ?_
      unfold Oper.wp
      rw [hr, Oper.upon_value, e2]
      exact .inl ⟨by rw [got_ne (by omega)]; exact hf, hM.s3 hsz hu (Below.refl _ _) _ (fun hp => hp)⟩
    · obtain ⟨e1, e2, e3, e4⟩ := h4.aft ho he
      have hr : (execOp a.eval o).run Tryd.prog w = .ok (.value (sl w.heap.size 32)) (w.alloc (.cells (madeCells #[.int .i64 0] (32 * 1)) 2)) := by
        unfold execOp
        simp only [e1, Act.eval, Sem.run_bind]
        rw [make_n 32 (by omega) (by omega) w]
        rfl
      refine wpOp_of ho e3 ?_
      unfold Oper.wp
      rw [hr, Oper.upon_value, e2]
      exact .inl ⟨by rw [got_ne (by omega)]; exact hf, hM.s4 hsz hu (below_new w _) _ (fun hp => ⟨_, hp, heap_alloc_at w _⟩)⟩
    · obtain ⟨e1, e2, e3, e4⟩ := h5.aft ho he
      have hr : (execOp a.eval o).run Tryd.prog w = .ok (.value (sl w.heap.size 28304)) (w.alloc (.cells (madeCells #[.int .u8 0] (28304 * 1)) 5)) := by
        unfold execOp
        simp only [e1, Act.eval, Sem.run_bind]
        rw [make_b 28304 (by omega) (by omega) w]
        rfl
      refine wpOp_of ho e3 ?_
      unfold Oper.wp
      rw [hr, Oper.upon_value, e2]
      exact .inl ⟨by rw [got_ne (by omega)]; exact hf, hM.s5 hsz hu (below_new w _) _ (fun hp => ⟨_, hp, heap_alloc_at w _⟩)⟩
    · obtain ⟨e1, e2, e3, e4⟩ := h6.aft ho he
      obtain ⟨g, q1, q2⟩ := hM.p5 (e4 5 (by simp))
      have hr : (execOp a.eval o).run Tryd.prog w = .ok (.value (.agg #[.int .u64 1, sl g 28304])) w := by
        unfold execOp
        simp only [e1, Sem.run_bind]
        rw [run_build w 43 _ #[.int .u64 1, sl g 28304] (by simp only [List.map_toArray, List.map_cons, List.map_nil, ev_tmp q1, ev_const]; exact built43 g)]
        rfl
      refine wpOp_of ho e3 ?_
      unfold Oper.wp
      rw [hr, Oper.upon_value, e2]
      exact .inl ⟨by rw [got_ne (by omega)]; exact hf, hM.s6 hsz hu (Below.refl _ _) _ (fun hp => ⟨g, hp, q2⟩)⟩
    · obtain ⟨e1, e2, e3, e4⟩ := h7.aft ho he
      obtain ⟨g, q1, q2⟩ := hM.p6 (e4 6 (by simp))
      have hr : (execOp a.eval o).run Tryd.prog w = .ok (.value (sl w.heap.size 1)) (w.alloc (.cells #[.int .u64 1, sl g 28304] 43)) := by
        unfold execOp
        simp only [e1, Sem.run_bind, List.map_toArray, List.map_cons, List.map_nil, ev_tmp q1]
        rw [slice43 g w]
        rfl
      refine wpOp_of ho e3 ?_
      unfold Oper.wp
      rw [hr, Oper.upon_value, e2]
      exact .inl ⟨by rw [got_ne (by omega)]; exact hf, hM.s7 hsz hu (below_new w _) _ (fun hp => ⟨_, g, hp, hM.bl.size, heap_alloc_at w _, q2.later (below_new w _)⟩)⟩
    · obtain ⟨e1, e2, e3, e4⟩ := h8.aft ho he
      have q1 := hM.p1 (e4 1 (by simp))
      have q3 := hM.p3 (e4 3 (by simp))
      obtain ⟨n, q4, q5⟩ := hM.p4 (e4 4 (by simp))
      obtain ⟨e, g, q6, q7, q8, q9⟩ := hM.p7 (e4 7 (by simp))
      have hr : (execOp a.eval o).run Tryd.prog w = .ok (.value (.agg (msgA n e))) w := by
        unfold execOp
        simp only [e1, Sem.run_bind]
        rw [run_build w 27 _ (msgA n e) (by simp only [List.map_toArray, List.map_cons, List.map_nil, ev_tmp q1, ev_tmp q3, ev_tmp q4, ev_tmp q6, ev_const]; exact built27 n e)]
        rfl
      refine wpOp_of ho e3 ?_
      unfold Oper.wp
      rw [hr, Oper.upon_value, e2]
      exact .inl ⟨by rw [got_ne (by omega)]; exact hf, hM.s8 hsz hu (Below.refl _ _) _ (fun hp => ⟨n, e, g, hp, q7, q5, q8, q9⟩)⟩
    · obtain ⟨e1, e2, e3, e4⟩ := h9.aft ho he
      have hr : (execOp a.eval o).run Tryd.prog w = .ok (.value (.pointer (some ⟨w.heap.size, 0, none⟩))) (w.alloc (.cells #[.int .u16 0, .string ⟨#[]⟩, .slice none 0 0, .slice none 0 0, .string ⟨#[]⟩, .slice none 0 0] 27)) := by
        unfold execOp
        simp only [e1, Sem.run_bind]
        rw [alloc27 w]
        rfl
      refine wpOp_of ho e3 ?_
      unfold Oper.wp
      rw [hr, Oper.upon_value, e2]
      exact .inl ⟨by rw [got_ne (by omega)]; exact hf, hM.s9 hsz hu (fun hx => by rw [hf] at hx; cases hx) (below_new w _) _ (fun hp => ⟨_, _, hp, hM.bl.size, rfl, heap_alloc_at w _⟩)⟩
    · obtain ⟨e1, e2, e3, e4⟩ := h10.aft ho he
      obtain ⟨n, e, g, q1, q2, q3, q4, q5⟩ := hM.p8 (e4 8 (by simp))
      obtain ⟨f, cs, r1, r2, r3, r4⟩ := hM.p9 (e4 9 (by simp))
      refine wpOp_of ho e3 ?_
      refine wp_store_row 27 (.tmp 28) (.tmp 214) e1 f (msgA n e) (ev_tmp r1) (ev_tmp q1) 27 cs r4 info27s r3 (by simp [msgA, sl, Value.oneCell']) ?_
      rw [e2]
      refine .inr ⟨by rw [Array.size_setIfInBounds]; exact hM.sz, fun j hj => ?_, hM.ds, hM.ts, hM.ot, below_setRow hM.bl r2 _, f, n, e, g, r1, r2, q2, setRow_heap w f _ _ 27 _ r4, row_other r4 q3 (by decide), row_other r4 q4 (by decide), row_other r4 q5 (by decide)⟩
      by_cases hj10 : j = 10
      · subst hj10
        rw [Array.getD_eq_getD_getElem?, Array.getElem?_setIfInBounds, if_pos rfl, if_pos (by rw [hM.sz]; omega)]; rfl
      · rw [got_ne (fun h => hj10 h.symm)]
        exact e4 j (by simp; omega)
  · rw [Array.toList_replicate, List.countP_replicate]
    simp
  · have hf : ∀ j, (Array.replicate ops.size false).getD j false = false := fun j => by
      rw [Array.getD_eq_getD_getElem?, Array.getElem?_replicate]
      split <;> rfl
    have hx : ∀ (j : Nat) (p : Prop), (Array.replicate ops.size false).getD j false = true → p := fun j p h => by rw [hf j] at h; cases h
    exact .inl ⟨hf 10, ⟨by rw [Array.size_replicate, hn], rfl, rfl, fun _ _ _ => rfl, (Below.refl w0.heap.size w0).drew, hx 0 _, hx 1 _, hx 2 _, hx 3 _, hx 4 _, hx 5 _, hx 6 _, hx 7 _, hx 8 _, hx 9 _, hx 10 _⟩⟩
end Go.Proofs.YtakfhoodjcfpcaaDoor.T
namespace Go.Proofs.YtakfhoodjcfpcaaDoor.T
set_option linter.unusedVariables false
set_option maxRecDepth 100000
open Go.RowKit Tlv Wire
/-! wire: the long message of WireKnown encoded and decoded -/
theorem ac_of {ops : Array Oper} (h : (ops.toList.zipIdx.all fun x => x.1.after.all fun e => decide (e.on < x.2)) = true) : ∀ (i : Nat) (o : Oper), ops[i]? = some o → ∀ e ∈ o.after, e.on < i := by
  intro i o ho e he
  have h1 := List.all_eq_true.1 h (o, i) (by
    rw [List.mem_zipIdx_iff_getElem?, Array.getElem?_toList]; exact ho)
  have h2 := Array.all_eq_true_iff_forall_mem.1 h1 e he
  simpa using h2
theorem act_ext {a b : Act} (h1 : a.tmps = b.tmps) (h2 : a.defers = b.defers) : a = b := by
  cases a; cases b; cases h1; cases h2; rfl
def putL (l : List (Nat × Value)) (t : Array Value) : Array Value := l.foldl (fun t p => t.setIfInBounds p.1 p.2) t
theorem putL_size : ∀ (l : List (Nat × Value)) (t : Array Value), (putL l t).size = t.size
  | [], t => rfl
  | p :: l, t => (putL_size l (t.setIfInBounds p.1 p.2)).trans (Array.size_setIfInBounds ..)
theorem putL_out : ∀ (l : List (Nat × Value)) (t : Array Value) (k : Nat), (∀ p ∈ l, p.1 ≠ k) → (putL l t)[k]? = t[k]?
  | [], t, k, _ => rfl
  | p :: l, t, k, h => by
    show (putL l (t.setIfInBounds p.1 p.2))[k]? = _
    rw [putL_out l _ k (fun q hq => h q (List.mem_cons_of_mem _ hq)), Array.getElem?_setIfInBounds, if_neg (h p List.mem_cons_self)]
theorem putL_in : ∀ (l : List (Nat × Value)) (t : Array Value) (k : Nat) (v : Value), (∀ p ∈ l, p.1 = k → p.2 = v) → (∃ p ∈ l, p.1 = k) → k < t.size → (putL l t)[k]? = some v
  | [], t, k, v, _, h, _ => by obtain ⟨p, hp, _⟩ := h; cases hp
  | p :: l, t, k, v, h1, h2, h3 => by
    show (putL l (t.setIfInBounds p.1 p.2))[k]? = _
    by_cases hl : ∃ q ∈ l, q.1 = k
    · exact putL_in l _ k v (fun q hq => h1 q (List.mem_cons_of_mem _ hq)) hl (by rw [Array.size_setIfInBounds]; exact h3)
    · have hpk : p.1 = k := by
        obtain ⟨q, hq, e⟩ := h2
        rcases List.mem_cons.1 hq with rfl | hq
        · exact e
        · exact absurd ⟨q, hq, e⟩ hl
      rw [putL_out l _ k (fun q hq e => hl ⟨q, hq, e⟩), Array.getElem?_setIfInBounds, if_pos hpk, if_pos (by omega), h1 p List.mem_cons_self hpk]
/-- a frame that differs at some slots alone -/
theorem puts_of (t0 t : Array Value) (ks : List Nat) (hs : t.size = t0.size) (hk : ∀ k ∈ ks, k < t0.size) (ho : ∀ k, k ∉ ks → t[k]? = t0[k]?) : ∃ vs : List Value, vs.length = ks.length ∧ (∀ (i k : Nat) (v : Value), ks[i]? = some k → vs[i]? = some v → t[k]? = some v) ∧ t = putL (ks.zip vs) t0 := by
  have hv : ∀ k ∈ ks, t[k]? = some (t.getD k undef) := fun k hkk => by
    rw [Array.getD_eq_getD_getElem?, Array.getElem?_eq_getElem (by have := hk k hkk; omega)]; rfl
  refine ⟨ks.map fun k => t.getD k undef, by simp, fun i k v h1 h2 => ?_, ?_⟩
  · rw [List.getElem?_map, h1] at h2
    cases h2
    exact hv k (List.mem_of_getElem? h1)
  · have hz : ∀ p ∈ ks.zip (ks.map fun k => t.getD k undef), p.1 ∈ ks ∧ p.2 = t.getD p.1 undef := by
      intro p hp
      obtain ⟨i, hi⟩ := List.mem_iff_getElem?.1 hp
      rw [List.getElem?_zip_eq_some, List.getElem?_map] at hi
      obtain ⟨h1, h2⟩ := hi
      rw [h1, Option.map_some] at h2
      exact ⟨List.mem_of_getElem? h1, (Option.some.inj h2).symm⟩
    refine Array.ext_getElem? fun k => ?_
    by_cases hkk : k ∈ ks
    · rw [hv k hkk]
      symm
      refine putL_in _ _ k _ (fun p hp e => by rw [(hz p hp).2, e]) ?_ (hk k hkk)
      obtain ⟨i, hi⟩ := List.mem_iff_getElem?.1 hkk
      exact ⟨(k, t.getD k undef), List.mem_iff_getElem?.2 ⟨i, List.getElem?_zip_eq_some.2 ⟨hi, by rw [List.getElem?_map, hi]; rfl⟩⟩, rfl⟩
    · rw [ho k hkk]
      symm
      exact putL_out _ _ k (fun p hp e => hkk (e ▸ (hz p hp).1))
theorem ten {L : List Value} (h : L.length = 10) : ∃ a b c d e f g i j k, L = [a, b, c, d, e, f, g, i, j, k] := by
  match L, h with
  | [a, b, c, d, e, f, g, i, j, k], _ => exact ⟨a, b, c, d, e, f, g, i, j, k, rfl⟩
theorem fin_act {a0 a : Act} {w0 w : World} (h : Fin a0 w0 a w) (hsz : 214 < a0.tmps.size) : ∃ (x0 x1 x2 x3 x4 x5 x6 x7 x8 : Value) (f n e g : Nat), a = ⟨putL [(28, .pointer (some ⟨f, 0, none⟩)), (206, x0), (207, x1), (208, x2), (209, x3), (210, x4), (211, x5), (212, x6), (213, x7), (214, x8)] a0.tmps, a0.defers⟩ ∧
    w0.heap.size ≤ f ∧ w0.heap.size ≤ e ∧ MC w f (msgA n e) ∧ Mn w n 32 ∧ Me w e (sl g 28304) ∧ Mb w g 28304 ∧ Below w0.heap.size w0 w := by
  obtain ⟨f, n, e, g, p1, p2, p3, p4, p5, p6, p7⟩ := h.p
  obtain ⟨vs, l1, l2, l3⟩ := puts_of a0.tmps a.tmps [28, 206, 207, 208, 209, 210, 211, 212, 213, 214] h.ts (fun k hk => by simp only [List.mem_cons, List.not_mem_nil, or_false] at hk; omega) (fun k hk => by simp only [List.mem_cons, List.not_mem_nil, or_false, not_or] at hk; exact h.ot k (by omega) (by omega))
  obtain ⟨y, x0, x1, x2, x3, x4, x5, x6, x7, x8, rfl⟩ := ten l1
  have hy := l2 0 28 y rfl rfl
  have hy : Value.pointer (some ⟨f, 0, none⟩) = y := Option.some.inj (p1.symm.trans hy)
  subst hy
  simp only [List.zip_cons_cons, List.zip_nil_right] at l3
  refine ⟨x0, x1, x2, x3, x4, x5, x6, x7, x8, f, n, e, g, ?_, p2, p3, p4, p5, p6, p7, h.bl⟩
  have ha : a = ⟨a.tmps, a.defers⟩ := rfl
  exact ha.trans (by rw [l3, h.ds])
theorem ma_L {W : World} {n e g : Nat} (r : Nat) (h1 : Mn W n 32) (h2 : Me W e (sl g r)) (h3 : Mb W g r) (hr : r ≤ 30000) : MA W (mL r) (some ⟨n, 0, none⟩) none (some ⟨e, 0, none⟩) := by
  refine ⟨ints_made 32 h1, .inl rfl, .inr ⟨e, 0, rfl, fun k x hk => ?_⟩⟩
  obtain rfl : k = 0 := by have := (List.getElem?_eq_some_iff.1 hk).1; simp [mL] at this; omega
  cases hk
  refine ⟨some ⟨g, 0, none⟩, r, ?_, ?_, src_made r h3, by show (zb r).length ≤ r; rw [zb_len]; omega, by unfold maxLen; omega, fun h => by cases h⟩
  · rw [cell_of_row _ _ _ _ _ _ h2]; rfl
  · rw [cell_of_row _ _ _ _ _ _ h2]
    show some (sl g r) = some (.slice _ (zb r).length r)
    rw [zb_len]; rfl
theorem enc_L1 (n e g : Nat) (W : World) (h1 : Mn W n 32) (h2 : Me W e (sl g 28304)) (h3 : Mb W g 28304) (hL : LibOk W) : Calls Tryd.prog 13 #[.agg #[.int .u16 999, .string (zs 100), .slice (some ⟨n, 0, none⟩) 32 32, .slice none 0 0, .string (zs 4096), .slice (some ⟨e, 0, none⟩) 1 1]] W fun E w' => ∃ a cp, E = .returned (.tuple #[.slice a 32768 cp, .int .i64 0]) ∧ Below W.heap.size W w' ∧
    (∀ W', LibOk W' → w' = W' → Calls Tryd.prog 16 #[.slice a 32768 cp] W' fun E2 w2 => ∃ na nc ta tc ra rc, E2 = .returned (.tuple #[.agg #[.int .u16 999, .string (zs 100), .slice na 32 nc, .slice ta 0 tc, .string (zs 4096), .slice ra 1 rc], .int .i64 0]) ∧ Below W'.heap.size W' w2) := by
  obtain ⟨l, q1, q2, q3⟩ := enc_L
  refine (enc_of (mL 28304) (some ⟨n, 0, none⟩) 32 none 0 (some ⟨e, 0, none⟩) 1 W (mL_mb 28304 (by omega)) (by show 999 < 65536; omega) (ma_L 28304 h1 h2 h3 (by omega)) hL q1 q2).mono fun E w' ⟨a, cp, r1, r2, r3, r4, r5, r6⟩ => ⟨a, cp, r1, r6, ?_⟩
  rintro W' hL' rfl
  exact (dec_of a cp l w' q2 r2 r3 r5 r4 hL' q3).mono fun E2 w2 ⟨na, nc, ta, tc, ra, rc, s1, _, s3⟩ => ⟨na, nc, ta, tc, ra, rc, s1, s3⟩
theorem enc_L2 (n e g : Nat) (W : World) (h1 : Mn W n 32) (h2 : Me W e (sl g 28305)) (h3 : Mb W g 28305) (hL : LibOk W) : Calls Tryd.prog 13 #[.agg #[.int .u16 999, .string (zs 100), .slice (some ⟨n, 0, none⟩) 32 32, .slice none 0 0, .string (zs 4096), .slice (some ⟨e, 0, none⟩) 1 1]] W fun E w' => ∃ a cp, E = .returned (.tuple #[.slice a 0 cp, .int .i64 3]) ∧ Below W.heap.size W w' :=
  (enc_of (mL 28305) (some ⟨n, 0, none⟩) 32 none 0 (some ⟨e, 0, none⟩) 1 W (mL_mb 28305 (by omega)) (by show 999 < 65536; omega) (ma_L 28305 h1 h2 h3 (by omega)) hL enc_X rfl).mono fun E w' ⟨a, cp, r1, r2, r3, r4, r5, r6⟩ => ⟨a, cp, r1, r6⟩
theorem after24 {w w26 : World} {f n e g g26 : Nat} {C : Array Value} (M : MC w26 f (msgA n e)) (N : Mn w26 n 32) (E : Me w26 e (sl g 28304)) (H : MC w26 g26 C) (B : Below w.heap.size w w26) (he : w.heap.size ≤ e) :
    ∀ W2, W2 = ((w26.setCell ⟨e, 1, none⟩ (.slice (some ⟨w26.heap.size, 0, none⟩) 28305 28305)).alloc (.cells (madeCells #[.int .u8 0] 28305) 5)).drew → ∃ g2, Hid (Below w.heap.size w W2) ∧ Hid (MC W2 f (msgA n e)) ∧ Hid (Mn W2 n 32) ∧ Hid (Me W2 e (sl g2 28305)) ∧ Hid (Mb W2 g2 28305) ∧ Hid (MC W2 g26 C) := by
  rintro W2 rfl
  have hF : Fr (fun i => i = e) w26 (w26.setCell ⟨e, 1, none⟩ (.slice (some ⟨w26.heap.size, 0, none⟩) 28305 28305)) := (Fr.refl _ w26).set e 1 _ rfl
  have ne : ∀ {k : Nat} {c : Array Value} {t : TypeId}, w26.heap[k]? = some (.cells c t (0, 0)) → t ≠ 43 → k ≠ e := by
    intro k c t hk ht hke
    subst hke
    unfold Me at E
    rw [hk] at E
    cases E
    exact ht rfl
  have keep : ∀ {k : Nat} {c : Array Value} {t : TypeId}, w26.heap[k]? = some (.cells c t (0, 0)) → t ≠ 43 → (w26.setCell ⟨e, 1, none⟩ (.slice (some ⟨w26.heap.size, 0, none⟩) 28305 28305)).heap[k]? = some (.cells c t (0, 0)) := fun hk ht => (hF.block _ (lt_of_heap hk) (ne hk ht)).trans hk
  have m1 : MC (w26.setCell ⟨e, 1, none⟩ (.slice (some ⟨w26.heap.size, 0, none⟩) 28305 28305)) f (msgA n e) := keep M (by decide)
  have n1 : Mn (w26.setCell ⟨e, 1, none⟩ (.slice (some ⟨w26.heap.size, 0, none⟩) 28305 28305)) n 32 := keep N (by decide)
  have h1 : MC (w26.setCell ⟨e, 1, none⟩ (.slice (some ⟨w26.heap.size, 0, none⟩) 28305 28305)) g26 C := keep H (by decide)
  have e1 : Me (w26.setCell ⟨e, 1, none⟩ (.slice (some ⟨w26.heap.size, 0, none⟩) 28305 28305)) e (sl w26.heap.size 28305) := by
    unfold Me
    rw [heap_setCell_same _ _ _ _ _ _ E]
    rfl
  have b1 : Below w.heap.size w (w26.setCell ⟨e, 1, none⟩ (.slice (some ⟨w26.heap.size, 0, none⟩) 28305 28305)) := Below.setCell B he _
  have sz : (w26.setCell ⟨e, 1, none⟩ (.slice (some ⟨w26.heap.size, 0, none⟩) 28305 28305)).heap.size = w26.heap.size := by simp
  have hb := (below_new (w26.setCell ⟨e, 1, none⟩ (.slice (some ⟨w26.heap.size, 0, none⟩) 28305 28305)) (.cells (madeCells #[.int .u8 0] 28305) 5)).drew
  refine ⟨w26.heap.size, btr b1 hb, m1.later hb, n1.later hb, e1.later hb, ?_, h1.later hb⟩
  have := heap_alloc_at (w26.setCell ⟨e, 1, none⟩ (.slice (some ⟨w26.heap.size, 0, none⟩) 28305 28305)) (.cells (madeCells #[.int .u8 0] 28305) 5)
  rw [sz] at this
  exact this
end Go.Proofs.YtakfhoodjcfpcaaDoor.T
