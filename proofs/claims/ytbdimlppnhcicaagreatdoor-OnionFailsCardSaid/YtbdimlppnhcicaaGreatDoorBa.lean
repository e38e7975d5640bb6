import Derived.Test.YtbdimlppnhcicaaGreatDoorRefH
import Derived.Test.YtbdimlppnhcicaaGreatDoorShelf
import Derived.Lib.ItoaLen
import Derived.Shelf.Strings.BuilderF
/- term: the makers' leaves: Name, Text, whole, made. -/
namespace Go.Proofs.YtbdimlppnhcicaaGreatDoor
set_option linter.unusedVariables false
open Go.RowKit
def Tab (w : World) : Prop := Lib.TabIs Tryz.prog w "internal/strconv.uint64pow10" .u64 Lib.pow10Tab
def nameS (n : Int) : ByteArray := ⟨#[110]⟩ ++ ⟨(Lib.itoa n).toArray⟩ ++ ⟨#[59]⟩
theorem grow_below (w : World) (k : Nat) (os : Array Obj) : Below w.heap.size w (Go.Sort.grow (w.drewN k) os) := by
  have h := (drewN_same w k).1
  refine ⟨h.os, h.tape, h.output, ?_, fun i hi => ?_⟩
  · have := h.size
    simp only [Go.Sort.grow, Array.size_append]; omega
  · rw [← h.block i hi]
    have := h.size
    simp only [Go.Sort.grow]
    rw [Array.getElem?_append_left (by omega)]
set_option maxRecDepth 100000 in
set_option maxHeartbeats 2000000 in
theorem whole_any (t : ByteArray) (w : World) (hm : t.size ≤ maxLen) (hL : LibOk w) : Calls Tryz.prog 162 #[.string t] w fun e w' => (e = .returned (.tuple (if rightB t.data.toList then #[.string t, .int .i64 0] else #[.string ⟨#[]⟩, .int .i64 3]))) ∧ Below w.heap.size w w' := by
  have HR := Lib.hid (right_any t w hm hL)
  cases hr : rightB t.data.toList <;>
  · rw [hr] at HR
    clear hr hL
    go_enter Tryz.func162, Tryz.ntmps162
    go_wp2_with (go_at_call 66; (with_reducible refine Calls.mono HR.out ?_); rintro e w1 ⟨rfl, hb⟩; have B1 := Lib.hid hb; clear hb)
    go_ret2
    exact ⟨rfl, B1.out⟩
set_option maxRecDepth 100000 in
set_option maxHeartbeats 2000000 in
theorem made_any (t : ByteArray) (w : World) (hm : t.size ≤ maxLen) : Calls Tryz.prog 129 #[.string t] w fun e w' => (e = .returned (.tuple (if rightB t.data.toList then #[.string t, .int .i64 0] else #[.string ⟨#[]⟩, .int .i64 3]))) ∧ Below w.heap.size w w' := by
  have HR := Lib.hid (rright_any t w hm)
  cases hr : rightB t.data.toList <;>
  · rw [hr] at HR
    clear hr
    go_enter Tryz.func129, Tryz.ntmps129
    go_wp2_with (go_at_call 70; (with_reducible refine Calls.mono HR.out ?_); rintro e w1 ⟨rfl, hb⟩; have B1 := Lib.hid hb; clear hb)
    go_ret2
    exact ⟨rfl, B1.out⟩
set_option maxRecDepth 100000 in
set_option maxHeartbeats 2000000 in
theorem name_neg (n : Int) (w : World) (h : n < 0) : Calls Tryz.prog 49 #[.int .i64 n] w fun e w' => (e = .returned (.tuple #[.string ⟨#[]⟩, .int .i64 2])) ∧ Below w.heap.size w w' := by
  go_enter Tryz.func49, Tryz.ntmps49
  go_wp2
  go_ret2
  exact ⟨rfl, Below.refl _ _⟩
theorem mk_append (a b : List UInt8) : (⟨(a ++ b).toArray⟩ : ByteArray) = ⟨a.toArray⟩ ++ ⟨b.toArray⟩ := by
  apply ByteArray.ext; simp
theorem size1 (c : UInt8) : (⟨#[c]⟩ : ByteArray).size = 1 := rfl
theorem itoa_size (n : Int) (h0 : -9223372036854775808 ≤ n) (h1 : n ≤ 9223372036854775807) : (⟨(Lib.itoa n).toArray⟩ : ByteArray).size ≤ 21 := Lib.itoa_length_le n h0 h1
theorem cat_any (a b : ByteArray) (h : a.size + b.size ≤ 9223372036854775807) (w : World) : (Op.stringOp .add a b).run Tryz.prog w = .ok (.string (a ++ b)) w := run_string_add_sum w a b h
def textS (t : ByteArray) : ByteArray := ⟨#[116]⟩ ++ ⟨(Lib.itoa (t.size : Int)).toArray⟩ ++ ⟨#[58]⟩ ++ t
set_option maxRecDepth 100000 in
set_option maxHeartbeats 2000000 in
theorem name_pos (n : Int) (w : World) (h : ¬ n < 0) (h1 : n ≤ 9223372036854775807) (hT : Tab w) : Calls Tryz.prog 49 #[.int .i64 n] w fun e w' => (e = .returned (.tuple #[.string (nameS n), .int .i64 0])) ∧ Below w.heap.size w w' := by
  have HR := Lib.hid (Tryz.strconv_FormatInt_10 n (by omega) h1 w hT)
  have hz := itoa_size n (by omega) h1
  unfold nameS
  generalize (⟨(Lib.itoa n).toArray⟩ : ByteArray) = u at HR hz ⊢
  have c1 := cat_any ⟨#[110]⟩ u (by rw [size1]; omega)
  have c2 := cat_any (⟨#[110]⟩ ++ u) ⟨#[59]⟩ (by rw [ByteArray.size_append, size1, size1]; omega)
  clear hz
  go_enter Tryz.func49, Tryz.ntmps49
  go_wp2_with (go_at_call 114; (with_reducible refine Calls.mono HR.out ?_); rintro e w1 ⟨rfl, hb⟩; have B1 : Hid (Below w.heap.size w w1) := (by obtain ⟨k, os, rfl⟩ := hb; exact grow_below w k os); clear hb)
  go_ret2
  exact ⟨rfl, B1.out⟩
set_option maxRecDepth 100000 in
set_option maxHeartbeats 2000000 in
theorem btext_long (t : ByteArray) (w : World) (hm : t.size ≤ maxLen) (h : 4096 < t.size) : Calls Tryz.prog 126 #[.string t] w fun e w' => (e = .returned (.tuple #[.string ⟨#[]⟩, .int .i64 3])) ∧ Below w.heap.size w w' := by
  have hi : (4096 : Int) < (t.size : Int) := by omega
  go_enter Tryz.func126, Tryz.ntmps126
  go_wp2
  go_ret2
  exact ⟨rfl, Below.refl _ _⟩
set_option maxRecDepth 100000 in
set_option maxHeartbeats 2000000 in
theorem btext_short (t : ByteArray) (w : World) (h : t.size ≤ 4096) (hT : Tab w) : Calls Tryz.prog 126 #[.string t] w fun e w' => (e = .returned (.tuple #[.string (textS t), .int .i64 0])) ∧ Below w.heap.size w w' := by
  have hi : ¬ (4096 : Int) < (t.size : Int) := by omega
  have HR := Lib.hid (Tryz.strconv_Itoa (t.size : Int) (by omega) (by omega) w hT)
  have hz := itoa_size (t.size : Int) (by omega) (by omega)
  unfold textS
  generalize (⟨(Lib.itoa (t.size : Int)).toArray⟩ : ByteArray) = u at HR hz ⊢
  have c1 := cat_any ⟨#[116]⟩ u (by rw [size1]; omega)
  have c2 := cat_any (⟨#[116]⟩ ++ u) ⟨#[58]⟩ (by rw [ByteArray.size_append, size1, size1]; omega)
  have c3 := cat_any (⟨#[116]⟩ ++ u ++ ⟨#[58]⟩) t (by rw [ByteArray.size_append, ByteArray.size_append, size1, size1]; omega)
  clear hz
  go_enter Tryz.func126, Tryz.ntmps126
  go_wp2_with (go_at_call 117; (with_reducible refine Calls.mono HR.out ?_); rintro e w1 ⟨rfl, hb⟩; have B1 : Hid (Below w.heap.size w w1) := (by obtain ⟨k, os, rfl⟩ := hb; exact grow_below w k os); clear hb)
  go_ret2
  exact ⟨rfl, B1.out⟩
def digS (n : Nat) : ByteArray := ⟨#[UInt8.ofNat (48 + n % 10)]⟩
theorem digit_str (n : Nat) (w : World) : (convert 98 9 (.slice (some ⟨w.heap.size, 0, none⟩) 1 1)).run Tryz.prog (w.alloc (.cells #[.int .u8 (48 + (n : Int) % 10)] 5)) = .ok (.string (digS n)) (w.alloc (.cells #[.int .u8 (48 + (n : Int) % 10)] 5)) := by
  refine run_convert_bytes_back (w.alloc (.cells #[.int .u8 (48 + (n : Int) % 10)] 5)) 98 9 5 ⟨w.heap.size, 0, none⟩ 1 [UInt8.ofNat (48 + n % 10)] Tryz.underlying98 Tryz.underlying5 Tryz.underlying9 (fun j hj => ?_)
  obtain rfl : j = 0 := by simpa using hj
  rw [show (⟨w.heap.size, 0, none⟩ : Addr).add 0 = ⟨w.heap.size, 0, none⟩ from rfl]
  have hb := heap_alloc_at w (.cells #[.int .u8 (48 + (n : Int) % 10)] 5)
  rw [cell_of_row _ _ _ _ _ _ hb]
  have h10 : 48 + n % 10 < 256 := by omega
  simp only [List.getElem_cons_zero, UInt8.toNat_ofNat']
  rw [Nat.mod_eq_of_lt (by omega)]
  simp
set_option maxRecDepth 100000 in
set_option maxHeartbeats 2000000 in
theorem rdigits_any (n : Nat) : ∀ (w : World), n ≤ 18446744073709551615 → Calls Tryz.prog 128 #[.int .u64 (n : Int)] w fun e w' => (e = .returned (.string ⟨(Lib.decDigits n).toArray⟩)) ∧ Below w.heap.size w w' := by
  induction n using Nat.strongRecOn with
  | ind n ih =>
    intro w hn
    have hd := digit_str n
    by_cases h : n < 10
    · have hi : ¬ (9 : Int) < (n : Int) := by omega
      have HE : Hid (⟨(Lib.decDigits n).toArray⟩ = digS n) := by show _ = _; rw [Lib.decDigits_one h, digS, Nat.mod_eq_of_lt h]
      clear ih h
      go_enter Tryz.func128, Tryz.ntmps128
      go_wp2
      go_ret
      exact ⟨by rw [HE.out]; rfl, (Below.refl _ _).alloc (Nat.le_refl _) _⟩
    · have hi : (9 : Int) < (n : Int) := by omega
      have HR : Hid (∀ w : World, Calls Tryz.prog 128 #[.int .u64 ((n : Int) / 10)] w fun e w' => (e = .returned (.string ⟨(Lib.decDigits (n / 10)).toArray⟩)) ∧ Below w.heap.size w w') := fun w => ih (n / 10) (by omega) w (by omega)
      have HE : Hid (⟨(Lib.decDigits n).toArray⟩ = (⟨(Lib.decDigits (n / 10)).toArray⟩ : ByteArray) ++ digS n) := by
        show _ = _
        rw [Lib.decDigits, dif_neg h, mk_append, digS]
      have hz : (⟨(Lib.decDigits (n / 10)).toArray⟩ : ByteArray).size ≤ 21 := by
        have := itoa_size ((n / 10 : Nat) : Int) (by omega) (by omega)
        rw [Lib.itoa_nonneg] at this; exact this
      generalize (⟨(Lib.decDigits (n / 10)).toArray⟩ : ByteArray) = u at HR HE hz
      have c1 := cat_any u (digS n) (by rw [digS, size1]; omega)
      clear ih h hz
      go_enter Tryz.func128, Tryz.ntmps128
      go_wp2_with (go_at_call 128; (with_reducible refine Calls.mono (HR.out _) ?_); rintro e w1 ⟨rfl, hb⟩; have B1 : Hid (Below w.heap.size w w1) := ((Below.refl _ _).alloc (Nat.le_refl _) _).trans (hb.mono (by simp)); clear hb)
      go_ret
      exact ⟨by rw [HE.out]; rfl, B1.out⟩
end Go.Proofs.YtbdimlppnhcicaaGreatDoor
/- term: the document's Name and Text; all of a name, all of a text. -/
namespace Go.Proofs.YtbdimlppnhcicaaGreatDoor
set_option linter.unusedVariables false
open Go.RowKit
theorem itoa_nat (n : Nat) : (⟨(Lib.itoa (n : Int)).toArray⟩ : ByteArray) = ⟨(Lib.decDigits n).toArray⟩ := by rw [Lib.itoa_nonneg]
theorem dec_size (n : Nat) (h : n ≤ 9223372036854775807) : (⟨(Lib.decDigits n).toArray⟩ : ByteArray).size ≤ 21 := by
  rw [← itoa_nat]; exact itoa_size _ (by omega) (by omega)
def nameV (n : Int) : Value := .tuple (if n < 0 then #[.string ⟨#[]⟩, .int .i64 2] else #[.string (nameS n), .int .i64 0])
def textV (t : ByteArray) : Value := .tuple (if 4096 < t.size then #[.string ⟨#[]⟩, .int .i64 3] else #[.string (textS t), .int .i64 0])
theorem name_any (n : Int) (w : World) (h1 : n ≤ 9223372036854775807) (hT : Tab w) : Calls Tryz.prog 49 #[.int .i64 n] w fun e w' => e = .returned (nameV n) ∧ Below w.heap.size w w' := by
  unfold nameV
  by_cases h : n < 0
  · rw [if_pos h]; exact name_neg n w h
  · rw [if_neg h]; exact name_pos n w h h1 hT
theorem text_any (t : ByteArray) (w : World) (hm : t.size ≤ maxLen) (hT : Tab w) : Calls Tryz.prog 126 #[.string t] w fun e w' => e = .returned (textV t) ∧ Below w.heap.size w w' := by
  unfold textV
  by_cases h : 4096 < t.size
  · rw [if_pos h]; exact btext_long t w hm h
  · rw [if_neg h]; exact btext_short t w (by omega) hT
set_option maxRecDepth 100000 in
set_option maxHeartbeats 2000000 in
theorem rbtext_long (t : ByteArray) (w : World) (hm : t.size ≤ maxLen) (h : 4096 < t.size) : Calls Tryz.prog 71 #[.string t] w fun e w' => (e = .returned (.tuple #[.string ⟨#[]⟩, .int .i64 3])) ∧ Below w.heap.size w w' := by
  have hi : (4096 : Int) < (t.size : Int) := by omega
  go_enter Tryz.func71, Tryz.ntmps71
  go_wp2
  go_ret2
  exact ⟨rfl, Below.refl _ _⟩
set_option maxRecDepth 100000 in
set_option maxHeartbeats 2000000 in
theorem rbtext_short (t : ByteArray) (w : World) (h : t.size ≤ 4096) : Calls Tryz.prog 71 #[.string t] w fun e w' => (e = .returned (.tuple #[.string (textS t), .int .i64 0])) ∧ Below w.heap.size w w' := by
  have hi : ¬ (4096 : Int) < (t.size : Int) := by omega
  have HR := Lib.hid (rdigits_any t.size w (by omega))
  have hz := dec_size t.size (by omega)
  unfold textS
  rw [itoa_nat]
  generalize (⟨(Lib.decDigits t.size).toArray⟩ : ByteArray) = u at HR hz ⊢
  have c1 := cat_any ⟨#[116]⟩ u (by rw [size1]; omega)
  have c2 := cat_any (⟨#[116]⟩ ++ u) ⟨#[58]⟩ (by rw [ByteArray.size_append, size1, size1]; omega)
  have c3 := cat_any (⟨#[116]⟩ ++ u ++ ⟨#[58]⟩) t (by rw [ByteArray.size_append, ByteArray.size_append, size1, size1]; omega)
  clear hz
  go_enter Tryz.func71, Tryz.ntmps71
  go_wp2_with (go_at_call 128; (with_reducible refine Calls.mono HR.out ?_); rintro e w1 ⟨rfl, hb⟩; have B1 : Hid (Below w.heap.size w w1) := Lib.hid hb; clear hb)
  go_ret2
  exact ⟨rfl, B1.out⟩
theorem rtext_any (t : ByteArray) (w : World) (hm : t.size ≤ maxLen) : Calls Tryz.prog 71 #[.string t] w fun e w' => e = .returned (textV t) ∧ Below w.heap.size w w' := by
  unfold textV
  by_cases h : 4096 < t.size
  · rw [if_pos h]; exact rbtext_long t w hm h
  · rw [if_neg h]; exact rbtext_short t w (by omega)
end Go.Proofs.YtbdimlppnhcicaaGreatDoor
/- term: strings.Builder's copyCheck and WriteString at this program (after the shelf's own proofs). -/
namespace Go.Proofs.YtbdimlppnhcicaaGreatDoor
set_option linter.unusedVariables false
open Go.RowKit
theorem Tryz.sizeBuilder : (Tryz.prog.info? 241).map (·.size) = some 2 := by kernel_rfl
theorem Tryz.liesBuilder : liesAt Tryz.prog Tryz.prog.depth 241 (2 / Tryz.prog.cellsOf 241) 0 241 1 = true := by kernel_rfl
set_option maxHeartbeats 1000000 in
set_option maxRecDepth 100000 in
theorem copyCheck_used (b : Nat) (w : World) (h0 : w.cell? ⟨b, 0, none⟩ = some (.pointer (some ⟨b, 0, none⟩))) :
    Calls Tryz.prog 187 #[.pointer (some ⟨b, 0, none⟩)] w fun e w' => e = .returned (.tuple #[]) ∧ w' = w := by
  obtain ⟨j, hj, _⟩ := Option.map_eq_some_iff.1 Tryz.sizeBuilder
  go_enter Tryz.func187, Tryz.ntmps187
  go_wp2
  rw [Lib.run_neq_ptr_same w _ Tryz.underlying239 hj]
  go_wp2
  go_end0
  exact ⟨rfl, rfl⟩
set_option maxHeartbeats 1000000 in
set_option maxRecDepth 100000 in
theorem copyCheck_fresh (b : Nat) (w : World) (h0 : w.cell? ⟨b, 0, none⟩ = some (.pointer none)) (hsh : w.shape? b = some (241, 2)) (hfz : w.frozen? ⟨b, 0, none⟩ = false) :
    Calls Tryz.prog 187 #[.pointer (some ⟨b, 0, none⟩)] w fun e w' => e = .returned (.tuple #[]) ∧ w' = w.setCell ⟨b, 0, none⟩ (.pointer (some ⟨b, 0, none⟩)) := by
  obtain ⟨j, hj, hjs⟩ := Option.map_eq_some_iff.1 Tryz.sizeBuilder
  go_enter Tryz.func187, Tryz.ntmps187
  go_wp2
  rw [Lib.run_to_unsafe w ⟨b, 0, none⟩ Tryz.underlying239 Tryz.underlying287 hj (by rw [hjs]; decide) hsh (Nat.zero_lt_succ 1)]
  simp only [Result.andThen]
  rw [Oper.upon_value]
  go_wp2
  rw [run_callFunc_extern Tryz.func200 (by kernel_rfl) (by kernel_rfl) (by kernel_rfl) (e := Extern.AbiNoEscape.same) (by kernel_rfl)]
  rw [Lib.run_noEscape]
  simp only [Result.andThen]
  rw [Oper.upon_value]
  go_wp2
  rw [Lib.run_from_unsafe w ⟨b, 0, none⟩ Tryz.underlying287 Tryz.underlying239 hj hsh Tryz.liesBuilder]
  simp only [Result.andThen]
  rw [Oper.upon_value]
  go_wp2
  go_end0
  exact ⟨rfl, rfl⟩
theorem copyCheck_any (B b : Nat) (bs : List Value) (w : World) (h : Lib.IsBuilderF 241 5 B b bs w) :
    Calls Tryz.prog 187 #[.pointer (some ⟨b, 0, none⟩)] w fun e w' => e = .returned (.tuple #[]) ∧ (Lib.BuilderAtF 241 5 B b (.pointer (some ⟨b, 0, none⟩)) bs w' ∧ Below B w w') := by
  rcases h with h | h
  · refine (copyCheck_fresh b w h.cell0 h.shape h.frozen0).mono ?_
    rintro e w' ⟨rfl, rfl⟩
    exact ⟨rfl, h.used _, (Below.refl B w).setCell (p := ⟨b, 0, none⟩) h.1 _⟩
  · refine (copyCheck_used b w h.cell0).mono ?_
    rintro e w' ⟨rfl, rfl⟩
    exact ⟨rfl, h, Below.refl B _⟩
theorem Tryz.infoByte5 : (Tryz.prog.info? 5).map (fun i => (i.zero, i.size, i.bytes)) = some (some (.int .u8 0), 1, 1) := by kernel_rfl
set_option maxHeartbeats 2000000 in
set_option maxRecDepth 100000 in
theorem WriteString_any (B b : Nat) (bs : List Value) (s : ByteArray) (w : World) (h : Lib.IsBuilderF 241 5 B b bs w) (hlen : bs.length + s.size ≤ 140737488355328) (hBw : B ≤ w.heap.size) :
    Calls Tryz.prog 161 #[.pointer (some ⟨b, 0, none⟩), .string s] w fun e w' => e = .returned (.tuple #[.int .i64 s.size, .nilIface]) ∧ (Lib.BuilderAtF 241 5 B b (.pointer (some ⟨b, 0, none⟩)) (bs ++ Lib.strCells s) w' ∧ Below B w w') := by
  obtain ⟨i0, hi, hz0, hz1, hz2⟩ := info_parts Tryz.infoByte5
  go_enter Tryz.func161, Tryz.ntmps161
  go_wp2_with (go_at_call 187; refine (copyCheck_any B b bs _ h).mono ?_)
  rintro e w1 ⟨rfl, h1, hb1⟩
  obtain ⟨hB, v, hbk, hown, hne⟩ := h1
  have c0 : w1.cell? ⟨b, 0, none⟩ = some (.pointer (some ⟨b, 0, none⟩)) := by rw [Lib.cell_of_heap hbk]; rfl
  have c1 : w1.cell? ⟨b, 1, none⟩ = some v := by rw [Lib.cell_of_heap hbk]; rfl
  go_wp2_with (at_builtin; refine Lib.wpList_append_own_stringF _ rfl _ _ 98 9 rfl B 5 i0 Tryz.underlying98 Tryz.underlying9 hi hz0 hz1 hz2 _ _ _ rfl hown s rfl ?c3 ?c4 ?c5 ?_)
  case c3 => unfold maxLen; omega
  case c4 => omega
  case c5 => have := hb1.size; omega
  intro v' w2 hown' hgrow _
  have hlt : b < w1.heap.size := by
    rcases Nat.lt_or_ge b w1.heap.size with h' | h'
    · exact h'
    · simp [Array.getElem?_eq_none h'] at hbk
  have hb2 : w2.heap[b]? = some (.cells #[.pointer (some ⟨b, 0, none⟩), v] 241 (0, 0)) := by
    rw [hgrow.block b hlt (fun e => hne e.symm)]
    exact hbk
  have d0 : w2.cell? ⟨b, 0, none⟩ = some (.pointer (some ⟨b, 0, none⟩)) := by rw [Lib.cell_of_heap hb2]; rfl
  have d1 : w2.cell? ⟨b, 1, none⟩ = some v := by rw [Lib.cell_of_heap hb2]; rfl
  have f1 : w2.frozen? ⟨b, 1, none⟩ = false := Lib.frozen_of_heap hb2 1
  obtain ⟨ao, n', cap, rfl⟩ : ∃ ao n' cap, v' = .slice ao n' cap := by
    rcases hown'.2 with ⟨hv, _⟩ | ⟨g, cap, cur, fz, hv, _⟩
    · exact ⟨_, _, _, hv⟩
    · exact ⟨_, _, _, hv⟩
  go_wp2
  go_ret2
  refine ⟨rfl, ?_, ?_⟩
  · exact Lib.BuilderAtF.put (T := 241) (e := 5) hB hb2 (bs' := bs ++ Lib.strCells s) (by simpa [Lib.strCells_length] using hown') (by decide)
  · exact (hb1.grown hgrow (by have := hb1.size; omega) (fun k hk => (hown.lt k hk).1)).setCell (p := ⟨b, 1, none⟩) hB _
end Go.Proofs.YtbdimlppnhcicaaGreatDoor
/- term: build: a head, then all the parts, each right, and the whole right. -/
namespace Go.Proofs.YtbdimlppnhcicaaGreatDoor
set_option linter.unusedVariables false
open Go.RowKit
/-- strings that lie in a row -/
def StrsAt (o : Option Addr) (vs : List ByteArray) (w : World) : Prop := vs = [] ∨ ∃ b off, o = some ⟨b, off, none⟩ ∧ ∀ (k : Nat) (s : ByteArray), vs[k]? = some s → w.cell? ⟨b, off + k, none⟩ = some (.string s)
theorem StrsAt.below {o : Option Addr} {vs : List ByteArray} {w w' : World} (h : StrsAt o vs w) (hb : Below w.heap.size w w') : StrsAt o vs w' :=
  h.imp id fun ⟨b, off, e, hc⟩ => ⟨b, off, e, fun k s hk => (hb.cell (p := ⟨b, off + k, none⟩) (World.block_lt_of_cell? w _ (hc k s hk))).trans (hc k s hk)⟩
theorem builder_later {B b : Nat} {p : Value} {bs : List Value} {w w' : World} (h : Lib.BuilderAtF 241 5 B b p bs w) (hb : Below w.heap.size w w') : Lib.BuilderAtF 241 5 B b p bs w' := by
  have hlt := h.lt
  obtain ⟨hB, v, hbk, hown, hne⟩ := h
  exact ⟨hB, v, (hb.block b hlt).trans hbk, hown.kept (row := none) ⟨hb.os, hb.tape, hb.output, hb.size, fun k hk _ => hb.block k hk⟩ (by cases hv : v.ownBlock <;> simp), hne⟩
def rt (v : ByteArray) : Bool := rightB v.data.toList
def buildL (head : ByteArray) (vs : List ByteArray) : List UInt8 := head.data.toList ++ vs.flatMap (fun v => v.data.toList)
def wholeV (t : ByteArray) : Value := .tuple (if rt t then #[.string t, .int .i64 0] else #[.string ⟨#[]⟩, .int .i64 3])
def buildV (head : ByteArray) (vs : List ByteArray) : Value := if vs.all rt then wholeV ⟨(buildL head vs).toArray⟩ else .tuple #[.string ⟨#[]⟩, .int .i64 10]
theorem wholeV_any (t : ByteArray) (w : World) (hm : t.size ≤ maxLen) (hL : LibOk w) : Calls Tryz.prog 162 #[.string t] w fun e w' => e = .returned (wholeV t) ∧ Below w.heap.size w w' := whole_any t w hm hL
theorem right_size {v : ByteArray} (h : rt v = true) : v.size ≤ 16384 := by
  rw [← list_size]
  unfold rt rightB readP at h
  split at h
  · assumption
  · cases h
theorem buildL_size (head : ByteArray) (vs : List ByteArray) (h : ∀ v ∈ vs, v.size ≤ 16384) : (buildL head vs).length ≤ head.size + vs.length * 16384 := by
  induction vs with
  | nil => simp [buildL]
  | cons v vs ih =>
    have h1 := ih (fun v' hv => h v' (by simp [hv]))
    have h2 := h v (by simp)
    rw [← list_size] at h2
    simp only [buildL, List.flatMap_cons, List.length_append, List.length_cons] at h1 ⊢
    omega
theorem buildL_take (head : ByteArray) (vs : List ByteArray) (j : Nat) (s : ByteArray) (hs : vs[j]? = some s) : buildL head (vs.take (j + 1)) = buildL head (vs.take j) ++ s.data.toList := by
  have hi := (List.getElem?_eq_some_iff.1 hs).1
  rw [List.take_succ_eq_append_getElem hi, show vs[j] = s by rw [List.getElem?_eq_getElem hi] at hs; exact Option.some.inj hs]
  simp [buildL, List.append_assoc]
set_option maxRecDepth 100000 in
set_option maxHeartbeats 4000000 in
theorem build_any (head : ByteArray) (o : Option Addr) (vs : List ByteArray) (n c : Nat) (w : World) (hn : vs.length = n) (hn2 : n ≤ 1000) (hh : head.size ≤ 100000) (hv : ∀ v ∈ vs, v.size ≤ maxLen) (hS : StrsAt o vs w) (hL : LibOk w) :
    Calls Tryz.prog 115 #[.string head, .slice o n c] w fun e w' => e = .returned (buildV head vs) ∧ Below w.heap.size w w' := by
  have HN := Lib.hid hn
  have HS := Lib.hid hS
  have HL := Lib.hid hL
  have HV := Lib.hid hv
  have hI : Hid (Lib.IsBuilderF 241 5 w.heap.size w.heap.size (Lib.byteCells []) (w.alloc (.cells #[.pointer none, .slice none 0 0] 241))) := Lib.IsBuilderF.of (Lib.fresh_isBuilder 241 5 w)
  clear hn hS hL hv
  go_enter Tryz.func115, Tryz.ntmps115
  go_upto_region 2 with fail
  have B0 := Lib.hid (below_new' w (.cells #[.pointer none, .slice none 0 0] 241))
  generalize w.alloc (.cells #[.pointer none, .slice none 0 0] 241) = w0 at hI B0 ⊢
  obtain ⟨bb, hbb⟩ : ∃ bb, w.heap.size = bb := ⟨_, rfl⟩
  have HBB := Lib.hid hbb
  rw [hbb] at hI ⊢
  have hb0 : bb ≤ w0.heap.size := by have := B0.out.size; omega
  clear hbb
  have HW := Lib.hid (WriteString_any bb bb _ head w0 hI.out (by rw [Lib.byteCells_length]; simp; omega) hb0)
  go_wp2_with (go_at_call 161; (with_reducible refine Calls.mono HW.out ?_); rintro e w1 ⟨rfl, hbu, hb⟩; have U1 := Lib.hid hbu; have B1 : Hid (Below bb w0 w1) := hb; clear hbu hb)
  go_loopw [13] (fun iv wr => ∃ (j : Nat), j ≤ n ∧ iv = .int .i64 (j : Int) ∧ Hid (Lib.BuilderAtF 241 5 bb bb (.pointer (some ⟨bb, 0, none⟩)) (Lib.byteCells (buildL head (vs.take j))) wr) ∧ Hid (Below bb w0 wr) ∧ Hid (∀ v ∈ vs.take j, rt v = true)) (fun iv _ => n - (intOf iv).toNat)
  case atStart =>
    refine ⟨0, by omega, rfl, ?_, B1.out, fun v hv => by simp at hv⟩
    have h := U1.out
    have e : Lib.byteCells (buildL head (vs.take 0)) = Lib.byteCells [] ++ Lib.strCells head := by rw [Lib.strCells_eq]; simp [buildL, Lib.byteCells]
    rw [e]; exact h
  case round =>
    obtain ⟨j, hj, rfl, hU, hB, hR⟩ := hrel
    have BW : Hid (Below w.heap.size w wr) := B0.out.trans (hB.out.mono (by have := HBB.out; omega))
    have hbw : bb ≤ wr.heap.size := Nat.le_trans hb0 hB.out.size
    have HLr := Lib.hid (HL.out.below BW.out)
    by_cases hlt : j < n
    · obtain ⟨s, hs⟩ : ∃ s, vs[j]? = some s := ⟨_, List.getElem?_eq_getElem (by have := HN.out; omega)⟩
      have hvs := HV.out s (List.mem_of_getElem? hs)
      obtain ⟨g, off, rfl, hc⟩ : ∃ g off, o = some ⟨g, off, none⟩ ∧ wr.cell? ⟨g, off + j, none⟩ = some (.string s) := by
        rcases HS.out.below BW.out with h | ⟨g, off, e, h⟩
        · rw [h] at hs; simp at hs
        · exact ⟨g, off, e, h j s hs⟩
      have hji : (j : Int) < (n : Int) := by omega
      have HRs := Lib.hid (right_any s wr hvs HLr.out)
      obtain ⟨b, hb⟩ : ∃ b, rightB s.data.toList = b := ⟨_, rfl⟩
      rw [hb] at HRs
      have HSJ := Lib.hid hs
      clear hs
      cases b with
      | false =>
        have HF : Hid (buildV head vs = .tuple #[.string ⟨#[]⟩, .int .i64 10]) := by
          show _ = _
          unfold buildV
          rw [if_neg]
          rw [List.all_eq_true]
          intro h
          have := h s (List.mem_of_getElem? HSJ.out)
          unfold rt at this
          rw [hb] at this; cases this
        clear hb
        go_wp2_with (go_at_call 66; (with_reducible refine Calls.mono HRs.out ?_); rintro e w2 ⟨rfl, hb⟩; have B2 : Hid (Below w.heap.size w w2) := BW.out.trans (hb.mono BW.out.size); clear hb)
        go_ret2
        exact ⟨by rw [HF.out]; rfl, B2.out⟩
      | true =>
        have HB := Lib.hid hb
        have hss := right_size (v := s) hb
        clear hb
        have hsz : (buildL head (vs.take j)).length ≤ 100000 + 1000 * 16384 := by
          have h1 := buildL_size head (vs.take j) (fun v hv => right_size (hR.out v hv))
          rw [List.length_take] at h1
          have h2 : min j vs.length ≤ 1000 := by have := HN.out; omega
          have h3 : min j vs.length * 16384 ≤ 1000 * 16384 := Nat.mul_le_mul_right _ h2
          omega
        have HWr : Hid (∀ W, Below wr.heap.size wr W → Calls Tryz.prog 161 #[.pointer (some ⟨bb, 0, none⟩), .string s] W fun e w' => e = .returned (.tuple #[.int .i64 s.size, .nilIface]) ∧ (Lib.BuilderAtF 241 5 bb bb (.pointer (some ⟨bb, 0, none⟩)) (Lib.byteCells (buildL head (vs.take j)) ++ Lib.strCells s) w' ∧ Below bb W w')) := fun W hW => WriteString_any bb bb _ s W (.inr (builder_later hU.out hW)) (by rw [Lib.byteCells_length]; omega) (by have := hW.size; omega)
        clear hsz hss
        go_wp2_with (first
          | (go_at_call 66; (with_reducible refine Calls.mono HRs.out ?_); rintro e w2 ⟨rfl, hb⟩; have B2 : Hid (Below bb w0 w2) := hB.out.trans (hb.mono hbw); have HW2 := Lib.hid (HWr.out w2 hb); clear hb)
          | (go_at_call 161; (with_reducible refine Calls.mono HW2.out ?_); rintro e w3 ⟨rfl, hbu, hb⟩; have U3 := Lib.hid hbu; have B3 : Hid (Below bb w0 w3) := B2.out.trans hb; clear hbu hb))
        go_roundw
        case rel =>
          refine ⟨j + 1, by omega, by congr 1, ?_, B3.out, ?_⟩
          · rw [buildL_take head vs j s HSJ.out]
            have h := U3.out
            rw [Lib.strCells_eq] at h
            rw [show Lib.byteCells (buildL head (vs.take j) ++ s.data.toList) = Lib.byteCells (buildL head (vs.take j)) ++ Lib.byteCells s.data.toList by simp [Lib.byteCells]]
            exact h
          · have hi := (List.getElem?_eq_some_iff.1 HSJ.out).1
            show ∀ v ∈ vs.take (j + 1), rt v = true
            rw [List.take_succ_eq_append_getElem hi, show vs[j] = s by have hs := HSJ.out; rw [List.getElem?_eq_getElem hi] at hs; exact Option.some.inj hs]
            intro v hv
            rcases List.mem_append.1 hv with h | h
            · exact hR.out v h
            · rw [List.mem_singleton.1 h]; exact HB.out
        case measure => simp [intOf]; omega
    · obtain rfl : j = n := by omega
      have htk : vs.take j = vs := List.take_of_length_le (by have := HN.out; omega)
      rw [htk] at hU hR
      clear htk
      have hsz := buildL_size head vs (fun v hv => right_size (hR.out v hv))
      have HF : Hid (buildV head vs = wholeV ⟨(buildL head vs).toArray⟩) := by
        show _ = _
        unfold buildV
        rw [if_pos (List.all_eq_true.2 (fun v hv => hR.out v hv))]
      have HST := Lib.hid (Tryz.Builder_String_any_f bb bb (buildL head vs) wr (.inr hU.out) hbw)
      have hz : (⟨(buildL head vs).toArray⟩ : ByteArray).size ≤ maxLen := by
        show (buildL head vs).toArray.size ≤ maxLen
        rw [List.size_toArray]
        have h2 : vs.length * 16384 ≤ 1000 * 16384 := Nat.mul_le_mul_right _ (by have := HN.out; omega)
        unfold maxLen; omega
      generalize (⟨(buildL head vs).toArray⟩ : ByteArray) = t at HST HF hz
      have HWH : Hid (∀ W, LibOk W → Calls Tryz.prog 162 #[.string t] W fun e w' => e = .returned (wholeV t) ∧ Below W.heap.size W w') := fun W hW => wholeV_any t W hz hW
      unfold wholeV at HWH HF
      clear hsz
      cases hr : rt t <;>
      · rw [hr] at HWH HF
        clear hr
        go_wp2_with (first
          | (go_at_call 163; (with_reducible refine Calls.mono HST.out ?_); rintro e w2 ⟨rfl, _, hb⟩; have B2 : Hid (Below w.heap.size w w2) := BW.out.trans (hb.mono (by have := HBB.out; omega)); have HL2 := Lib.hid (HL.out.below B2.out); clear hb)
          | (go_at_call 162; (with_reducible refine Calls.mono (HWH.out _ HL2.out) ?_); rintro e w3 ⟨rfl, hb⟩; have B3 : Hid (Below w.heap.size w w3) := B2.out.trans (hb.mono B2.out.size); clear hb))
        go_ret2
        exact ⟨by rw [HF.out]; rfl, B3.out⟩
end Go.Proofs.YtbdimlppnhcicaaGreatDoor
/- term: Sign, Box, Tuple. -/
namespace Go.Proofs.YtbdimlppnhcicaaGreatDoor
set_option linter.unusedVariables false
open Go.RowKit
theorem strs_two (a b : ByteArray) (w : World) : StrsAt (some ⟨w.heap.size, 0, none⟩) [a, b] (w.alloc (.cells #[.string a, .string b] 23)) := by
  refine .inr ⟨w.heap.size, 0, rfl, fun k s hk => ?_⟩
  have hb := heap_alloc_at w (.cells #[.string a, .string b] 23)
  rw [cell_of_row _ _ _ _ _ _ hb, Nat.zero_add]
  match k, hk with
  | 0, hk => cases hk; rfl
  | 1, hk => cases hk; rfl
theorem buildV_tuple (head : ByteArray) (vs : List ByteArray) : ∃ s n, buildV head vs = .tuple #[.string s, .int .i64 n] := by
  unfold buildV wholeV
  split
  · split <;> exact ⟨_, _, rfl⟩
  · exact ⟨_, _, rfl⟩
set_option maxRecDepth 100000 in
set_option maxHeartbeats 2000000 in
theorem box_any (a b : ByteArray) (w : World) (ha : a.size ≤ maxLen) (hb : b.size ≤ maxLen) (hL : LibOk w) : Calls Tryz.prog 73 #[.string a, .string b] w fun e w' => e = .returned (buildV ⟨#[66]⟩ [a, b]) ∧ Below w.heap.size w w' := by
  have HB := Lib.hid (build_any ⟨#[66]⟩ (some ⟨w.heap.size, 0, none⟩) [a, b] 2 2 (w.alloc (.cells #[.string a, .string b] 23)) rfl (by omega) (by rw [size1]; omega) (by intro v hv; simp at hv; rcases hv with rfl | rfl <;> assumption) (strs_two a b w) (hL.below ((Below.refl _ _).alloc (Nat.le_refl _) _)))
  obtain ⟨s, n, hs⟩ := buildV_tuple ⟨#[66]⟩ [a, b]
  rw [hs] at HB ⊢
  clear hs hL ha hb
  go_enter Tryz.func73, Tryz.ntmps73
  go_wp2_with (go_at_call 115; (with_reducible refine Calls.mono HB.out ?_); rintro e w2 ⟨rfl, hb⟩; have B2 : Hid (Below w.heap.size w w2) := ((Below.refl _ _).alloc (Nat.le_refl _) _).trans (hb.mono (by simp)); clear hb)
  go_ret2
  exact ⟨rfl, B2.out⟩
/-- what Tuple makes -/
def headS (n : Nat) : ByteArray := ⟨#[84]⟩ ++ ⟨(Lib.itoa (n : Int)).toArray⟩ ++ ⟨#[58]⟩
def tupleV (vs : List ByteArray) : Value := if 32 < vs.length then .tuple #[.string ⟨#[]⟩, .int .i64 3] else buildV (headS vs.length) vs
theorem headS_size (n : Nat) (h : n ≤ 1000) : (headS n).size ≤ 23 := by
  have := itoa_size (n : Int) (by omega) (by omega)
  unfold headS
  rw [ByteArray.size_append, ByteArray.size_append, size1, size1]; omega
set_option maxRecDepth 100000 in
set_option maxHeartbeats 2000000 in
theorem tuple_big (o : Option Addr) (n c : Nat) (w : World) (h : 32 < n) : Calls Tryz.prog 68 #[.slice o n c] w fun e w' => e = .returned (.tuple #[.string ⟨#[]⟩, .int .i64 3]) ∧ Below w.heap.size w w' := by
  have hi : (32 : Int) < (n : Int) := by omega
  go_enter Tryz.func68, Tryz.ntmps68
  go_wp2
  go_ret2
  exact ⟨rfl, Below.refl _ _⟩
set_option maxRecDepth 100000 in
set_option maxHeartbeats 2000000 in
theorem tuple_small (o : Option Addr) (vs : List ByteArray) (n c : Nat) (w : World) (hn : vs.length = n) (h : n ≤ 32) (hv : ∀ v ∈ vs, v.size ≤ maxLen) (hS : StrsAt o vs w) (hL : LibOk w) (hT : Tab w) : Calls Tryz.prog 68 #[.slice o n c] w fun e w' => e = .returned (buildV (headS n) vs) ∧ Below w.heap.size w w' := by
  have hi : ¬ (32 : Int) < (n : Int) := by omega
  have hh := headS_size n (by omega)
  have HR := Lib.hid (Tryz.strconv_Itoa (n : Int) (by omega) (by omega) w hT)
  have HB : Hid (∀ W, Below w.heap.size w W → Calls Tryz.prog 115 #[.string (headS n), .slice o n c] W fun e w' => e = .returned (buildV (headS n) vs) ∧ Below W.heap.size W w') := fun W hW => build_any (headS n) o vs n c W hn (by omega) (by omega) hv (hS.below hW) (hL.below hW)
  obtain ⟨s, k, hs⟩ := buildV_tuple (headS n) vs
  rw [hs] at HB ⊢
  have hz := itoa_size (n : Int) (by omega) (by omega)
  unfold headS at HB
  generalize (⟨(Lib.itoa (n : Int)).toArray⟩ : ByteArray) = u at HR hz HB
  have c1 := cat_any ⟨#[84]⟩ u (by rw [size1]; omega)
  have c2 := cat_any (⟨#[84]⟩ ++ u) ⟨#[58]⟩ (by rw [ByteArray.size_append, size1, size1]; omega)
  clear hz hs hL hS hv hn hh hT
  go_enter Tryz.func68, Tryz.ntmps68
  go_wp2_with (first
    | (go_at_call 117; (with_reducible refine Calls.mono HR.out ?_); rintro e w1 ⟨rfl, hb⟩; have B1 : Hid (Below w.heap.size w w1) := (by obtain ⟨k, os, rfl⟩ := hb; exact grow_below w k os); clear hb; have HB1 := Lib.hid (HB.out w1 B1.out))
    | (go_at_call 115; (with_reducible refine Calls.mono HB1.out ?_); rintro e w2 ⟨rfl, hb⟩; have B2 : Hid (Below w.heap.size w w2) := B1.out.trans (hb.mono B1.out.size); clear hb))
  go_ret2
  exact ⟨rfl, B2.out⟩
theorem tuple_any (o : Option Addr) (vs : List ByteArray) (n c : Nat) (w : World) (hn : vs.length = n) (hv : ∀ v ∈ vs, v.size ≤ maxLen) (hS : StrsAt o vs w) (hL : LibOk w) (hT : Tab w) : Calls Tryz.prog 68 #[.slice o n c] w fun e w' => e = .returned (tupleV vs) ∧ Below w.heap.size w w' := by
  unfold tupleV
  rw [hn]
  by_cases h : 32 < n
  · rw [if_pos h]; exact tuple_big o n c w h
  · rw [if_neg h]; exact tuple_small o vs n c w hn (by omega) hv hS hL hT
end Go.Proofs.YtbdimlppnhcicaaGreatDoor
/- term: Child, Join; the document's Tuple. -/
namespace Go.Proofs.YtbdimlppnhcicaaGreatDoor
set_option linter.unusedVariables false
open Go.RowKit
set_option maxRecDepth 100000 in
set_option maxHeartbeats 2000000 in
theorem child_any (a b : ByteArray) (w : World) (ha : a.size ≤ maxLen) (hb : b.size ≤ maxLen) (hL : LibOk w) : Calls Tryz.prog 123 #[.string a, .string b] w fun e w' => e = .returned (buildV ⟨#[68]⟩ [a, b]) ∧ Below w.heap.size w w' := by
  have HB := Lib.hid (build_any ⟨#[68]⟩ (some ⟨w.heap.size, 0, none⟩) [a, b] 2 2 (w.alloc (.cells #[.string a, .string b] 23)) rfl (by omega) (by rw [size1]; omega) (by intro v hv; simp at hv; rcases hv with rfl | rfl <;> assumption) (strs_two a b w) (hL.below ((Below.refl _ _).alloc (Nat.le_refl _) _)))
  obtain ⟨s, n, hs⟩ := buildV_tuple ⟨#[68]⟩ [a, b]
  rw [hs] at HB ⊢
  clear hs hL ha hb
  go_enter Tryz.func123, Tryz.ntmps123
  go_wp2_with (go_at_call 115; (with_reducible refine Calls.mono HB.out ?_); rintro e w2 ⟨rfl, hb⟩; have B2 : Hid (Below w.heap.size w w2) := ((Below.refl _ _).alloc (Nat.le_refl _) _).trans (hb.mono (by simp)); clear hb)
  go_ret2
  exact ⟨rfl, B2.out⟩
set_option maxRecDepth 100000 in
set_option maxHeartbeats 2000000 in
theorem rtuple_big (o : Option Addr) (n c : Nat) (w : World) (h : 32 < n) : Calls Tryz.prog 72 #[.slice o n c] w fun e w' => e = .returned (.tuple #[.string ⟨#[]⟩, .int .i64 3]) ∧ Below w.heap.size w w' := by
  have hi : (32 : Int) < (n : Int) := by omega
  go_enter Tryz.func72, Tryz.ntmps72
  go_wp2
  go_ret2
  exact ⟨rfl, Below.refl _ _⟩
theorem madeV_any (t : ByteArray) (w : World) (hm : t.size ≤ maxLen) : Calls Tryz.prog 129 #[.string t] w fun e w' => e = .returned (wholeV t) ∧ Below w.heap.size w w' := made_any t w hm
theorem buildL_nil (t : ByteArray) : (⟨(buildL t []).toArray⟩ : ByteArray) = t := by
  apply ByteArray.ext; simp [buildL]
theorem cat_buildL (head : ByteArray) (vs : List ByteArray) (j : Nat) (s : ByteArray) (hs : vs[j]? = some s) : (⟨(buildL head (vs.take j)).toArray⟩ : ByteArray) ++ s = ⟨(buildL head (vs.take (j + 1))).toArray⟩ := by
  rw [buildL_take head vs j s hs, mk_append]
set_option maxRecDepth 100000 in
set_option maxHeartbeats 4000000 in
theorem rtuple_small (o : Option Addr) (vs : List ByteArray) (n c : Nat) (w : World) (hn : vs.length = n) (h : n ≤ 32) (hv : ∀ v ∈ vs, v.size ≤ maxLen) (hS : StrsAt o vs w) : Calls Tryz.prog 72 #[.slice o n c] w fun e w' => e = .returned (buildV (headS n) vs) ∧ Below w.heap.size w w' := by
  have hi : ¬ (32 : Int) < (n : Int) := by omega
  have HH := Lib.hid (headS_size n (by omega))
  have HR := Lib.hid (rdigits_any n w (by omega))
  have hz := dec_size n (by omega)
  have HE : Hid (headS n = ⟨#[84]⟩ ++ ⟨(Lib.decDigits n).toArray⟩ ++ ⟨#[58]⟩) := by
    show _ = _
    unfold headS; rw [itoa_nat]
  generalize (⟨(Lib.decDigits n).toArray⟩ : ByteArray) = u at HR hz HE
  have c1 := cat_any ⟨#[84]⟩ u (by rw [size1]; omega)
  have c2 := cat_any (⟨#[84]⟩ ++ u) ⟨#[58]⟩ (by rw [ByteArray.size_append, size1, size1]; omega)
  rw [← HE.out] at c2
  have HN := Lib.hid hn
  have HS := Lib.hid hS
  have HV := Lib.hid hv
  clear hz hn hS hv
  go_enter Tryz.func72, Tryz.ntmps72
  go_wp2_with (go_at_call 128; (with_reducible refine Calls.mono HR.out ?_); rintro e w1 ⟨rfl, hb⟩; have B1 : Hid (Below w.heap.size w w1) := Lib.hid hb; clear hb)
  go_loopw [4, 5] (fun ov iv wr => ∃ (j : Nat), j ≤ n ∧ iv = .int .i64 (j : Int) ∧ ov = .string ⟨(buildL (headS n) (vs.take j)).toArray⟩ ∧ Hid (Below w.heap.size w wr) ∧ Hid (∀ v ∈ vs.take j, rt v = true)) (fun _ iv _ => n - (intOf iv).toNat)
  case atStart => exact ⟨0, by omega, rfl, by rw [List.take_zero, buildL_nil], B1.out, fun v hv => by simp at hv⟩
  case round =>
    obtain ⟨j, hj, rfl, rfl, hB, hR⟩ := hrel
    by_cases hlt : j < n
    · obtain ⟨s, hs⟩ : ∃ s, vs[j]? = some s := ⟨_, List.getElem?_eq_getElem (by have := HN.out; omega)⟩
      have hvs := HV.out s (List.mem_of_getElem? hs)
      obtain ⟨g, off, rfl, hc⟩ : ∃ g off, o = some ⟨g, off, none⟩ ∧ wr.cell? ⟨g, off + j, none⟩ = some (.string s) := by
        rcases HS.out.below hB.out with h | ⟨g, off, e, h⟩
        · rw [h] at hs; simp at hs
        · exact ⟨g, off, e, h j s hs⟩
      have hji : (j : Int) < (n : Int) := by omega
      have HRs := Lib.hid (rright_any s wr hvs)
      obtain ⟨b, hb⟩ : ∃ b, rightB s.data.toList = b := ⟨_, rfl⟩
      rw [hb] at HRs
      have HSJ := Lib.hid hs
      have hcl := World.block_lt_of_cell? wr _ hc
      clear hs
      cases b with
      | false =>
        have HF : Hid (buildV (headS n) vs = .tuple #[.string ⟨#[]⟩, .int .i64 10]) := by
          show _ = _
          unfold buildV
          rw [if_neg]
          rw [List.all_eq_true]
          intro h
          have := h s (List.mem_of_getElem? HSJ.out)
          unfold rt at this
          rw [hb] at this; cases this
        clear hb
        generalize (⟨(buildL (headS n) (vs.take j)).toArray⟩ : ByteArray) = acc
        go_wp2_with (go_at_call 70; (with_reducible refine Calls.mono HRs.out ?_); rintro e w2 ⟨rfl, hb⟩; have B2 : Hid (Below w.heap.size w w2) := hB.out.trans (hb.mono hB.out.size); clear hb)
        go_ret2
        exact ⟨by rw [HF.out]; rfl, B2.out⟩
      | true =>
        have HB := Lib.hid hb
        have hss := right_size (v := s) hb
        clear hb
        have hsz : (⟨(buildL (headS n) (vs.take j)).toArray⟩ : ByteArray).size ≤ 100000 + 1000 * 16384 := by
          have h1 := buildL_size (headS n) (vs.take j) (fun v hv => right_size (hR.out v hv))
          rw [List.length_take] at h1
          have h2 : min j vs.length ≤ 1000 := by have := HN.out; omega
          have h3 : min j vs.length * 16384 ≤ 1000 * 16384 := Nat.mul_le_mul_right _ h2
          have := HH.out
          show (buildL (headS n) (vs.take j)).toArray.size ≤ _
          rw [List.size_toArray]; omega
        have HC := Lib.hid (cat_buildL (headS n) vs j s HSJ.out)
        generalize (⟨(buildL (headS n) (vs.take j)).toArray⟩ : ByteArray) = acc at hsz HC
        have c3 := cat_any acc s (by omega)
        clear hsz hss
        go_wp2_with (go_at_call 70; (with_reducible refine Calls.mono HRs.out ?_); rintro e w2 ⟨rfl, hb⟩; have hc2 := (hb.cell (p := ⟨g, off + j, none⟩) hcl).trans hc; have B2 : Hid (Below w.heap.size w w2) := hB.out.trans (hb.mono hB.out.size); clear hb)
        go_roundw
        case rel =>
          refine ⟨j + 1, by omega, by congr 1, by rw [HC.out], B2.out, ?_⟩
          have hi := (List.getElem?_eq_some_iff.1 HSJ.out).1
          show ∀ v ∈ vs.take (j + 1), rt v = true
          rw [List.take_succ_eq_append_getElem hi, show vs[j] = s by have hs := HSJ.out; rw [List.getElem?_eq_getElem hi] at hs; exact Option.some.inj hs]
          intro v hv
          rcases List.mem_append.1 hv with h | h
          · exact hR.out v h
          · rw [List.mem_singleton.1 h]; exact HB.out
        case measure => simp [intOf]; omega
    · obtain rfl : j = n := by omega
      have htk : vs.take j = vs := List.take_of_length_le (by have := HN.out; omega)
      rw [htk] at hR ⊢
      clear htk
      have hsz := buildL_size (headS j) vs (fun v hv => right_size (hR.out v hv))
      have HF : Hid (buildV (headS j) vs = wholeV ⟨(buildL (headS j) vs).toArray⟩) := by
        show _ = _
        unfold buildV
        rw [if_pos (List.all_eq_true.2 (fun v hv => hR.out v hv))]
      have hz : (⟨(buildL (headS j) vs).toArray⟩ : ByteArray).size ≤ maxLen := by
        show (buildL (headS j) vs).toArray.size ≤ maxLen
        rw [List.size_toArray]
        have h2 : vs.length * 16384 ≤ 1000 * 16384 := Nat.mul_le_mul_right _ (by have := HN.out; omega)
        have := HH.out
        unfold maxLen; omega
      generalize (⟨(buildL (headS j) vs).toArray⟩ : ByteArray) = t at HF hz ⊢
      have HWH := Lib.hid (madeV_any t wr hz)
      unfold wholeV at HWH HF
      clear hsz
      cases hr : rt t <;>
      · rw [hr] at HWH HF
        clear hr
        go_wp2_with (go_at_call 129; (with_reducible refine Calls.mono HWH.out ?_); rintro e w3 ⟨rfl, hb⟩; have B3 : Hid (Below w.heap.size w w3) := hB.out.trans (hb.mono hB.out.size); clear hb)
        go_ret2
        exact ⟨by rw [HF.out]; rfl, B3.out⟩
theorem rtuple_any (o : Option Addr) (vs : List ByteArray) (n c : Nat) (w : World) (hn : vs.length = n) (hv : ∀ v ∈ vs, v.size ≤ maxLen) (hS : StrsAt o vs w) : Calls Tryz.prog 72 #[.slice o n c] w fun e w' => e = .returned (tupleV vs) ∧ Below w.heap.size w w' := by
  unfold tupleV
  rw [hn]
  by_cases h : 32 < n
  · rw [if_pos h]; exact rtuple_big o n c w h
  · rw [if_neg h]; exact rtuple_small o vs n c w hn (by omega) hv hS
end Go.Proofs.YtbdimlppnhcicaaGreatDoor
