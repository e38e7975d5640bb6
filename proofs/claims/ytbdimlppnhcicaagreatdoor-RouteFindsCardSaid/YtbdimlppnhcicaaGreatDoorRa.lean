/- term, the document's: number, parts, none, public. -/
import Derived.Lib.ParseIntB
import Derived.Lib.Bytealg
import Derived.Shelf.Strings.Builder1
import Derived.Shelf.Small.Bits
import Derived.Shelf.Small.Strs
import Derived.Shelf.Small.Wraps
import Derived.Shelf.Strings.BuilderF
import Derived.Shelf.Strings.BuilderK
import Derived.Shelf.Strconv.Itoa0
import Derived.Shelf.Strconv.Itoa1
import Derived.Shelf.LaysM
import Derived.Shelf.Strconv.Itoa2
import Derived.Shelf.Strconv.Itoa3
import Derived.Shelf.Strconv.Itoa4
import Derived.Shelf.Strconv.ParseIntEmpty
import Derived.Shelf.Strconv.Clone
import Derived.Shelf.Strconv.SyntaxError
import Derived.Shelf.LaysC
import Derived.Shelf.Strconv.ToError
import Derived.Shelf.Strconv.Lower
import Derived.Shelf.Strconv.ParseUint10
import Derived.Shelf.Strconv.ParseUint10Empty
import Derived.Shelf.Strconv.ParseUint10Any
import Derived.Shelf.Strconv.ParseInt10
import Derived.Shelf.Strconv.RangeError
import Derived.Shelf.Strconv.ToErrorRange
import Derived.Shelf.Strconv.ParseUintEmpty
import Derived.Shelf.Strconv.ParseUint10b64
import Derived.Shelf.Strconv.ParseUint10b32
import Derived.Shelf.Strconv.ParseUint10b16
import Derived.Shelf.Strconv.ParseUint10b8
import Derived.Shelf.Strconv.ParseUint10At
import Derived.Shelf.Strconv.ParseInt10At64
import Derived.Shelf.Strconv.ParseInt10At32
import Derived.Shelf.Strconv.ParseInt10At16
import Derived.Shelf.Strconv.ParseInt10At8
import Derived.Shelf.Strconv.ParseInt10All
import Derived.Shelf.Strconv.ParseIntPublic10
import Derived.Shelf.Strconv.ErrVarParseInt
import Derived.Shelf.Strings.Search1
import Derived.Shelf.Bits.Mul64
import Derived.Shelf.Strings.BuilderCap
import Derived.Ground.Names2Prog
import Derived.Shelf.Slices.Clone
import Derived.Shelf.Slices.SearchI
import Derived.Ground.SlgnProg
import Derived.Shelf.SlicesE.Clone
import Derived.WalkKit
import Derived.WalkSpells
import Derived.WalkLawsBesides
import Derived.Handy
import Derived.Lib.Hide
import Derived.Deep.QuietTactic
import Derived.BigQuiet
import Derived.Deep.RegionHeld3
import Derived.Lib.Strings
import Derived.Lib.IndexBytes
import Derived.BigRegion
import Derived.Deep.RegionLaw
import Derived.Deep.AppendLies
import Derived.Deep.LoopGhost
import Derived.Deep.Onto
import Derived.Deep.WholeRow
import Derived.Deep.CutRange
import Derived.Laws.CopyOwn
import Derived.Test.YtbdimlppnhcicaaGreatDoorRows
import Derived.Test.YtbdimlppnhcicaaGreatDoorProg
import Derived.Test.YtbdimlppnhcicaaGreatDoorNum
import Derived.Test.YtbdimlppnhcicaaGreatDoorNu
import Derived.Test.YtbdimlppnhcicaaGreatDoorTa
import Derived.Test.YtbdimlppnhcicaaGreatDoorTl
namespace Go.Proofs.YtbdimlppnhcicaaGreatDoor
set_option linter.unusedVariables false
open Go.RowKit
/-- where the rest begins -/
def numV (z : Nat) : Option (Nat × List UInt8) → Value
  | none => .tuple #[.int .u64 0, .int .i64 (-1)]
  | some (n, r) => .tuple #[.int .u64 n, .int .i64 ((z - r.length : Nat) : Int)]
theorem drop_cons (s : ByteArray) (i : Nat) (h : i < s.size) : s.data.toList.drop i = s[i] :: s.data.toList.drop (i + 1) := by
  rw [List.drop_eq_getElem_cons (by rw [list_size]; exact h)]; rfl
theorem drop_nil (s : ByteArray) (i : Nat) (h : s.size ≤ i) : s.data.toList.drop i = [] := List.drop_of_length_le (by rw [list_size]; exact h)
theorem drop_len (s : ByteArray) (i : Nat) : (s.data.toList.drop i).length = s.size - i := by rw [List.length_drop, list_size]
/-- the number so far -/
def numAt (e : UInt8) (first : Bool) (n : Nat) (l : List UInt8) : Option (Nat × List UInt8) := if first then num e l else numTail e n l
theorem numAt_end {e : UInt8} {n : Nat} {r : List UInt8} : numAt e false n (e :: r) = some (n, r) := by simp [numAt, numTail]
theorem numAt_bad {e c : UInt8} {b : Bool} {n : Nat} {r : List UInt8} (h : ¬ (48 ≤ c.toNat ∧ c.toNat ≤ 57)) (h1 : b = true ∨ c ≠ e) : numAt e b n (c :: r) = none := by
  cases b with
  | true => simp only [numAt, if_true, num, if_neg h]
  | false =>
    have hc : c ≠ e := h1.resolve_left (by decide)
    have h2 : ¬ (48 ≤ c.toNat ∧ c.toNat ≤ 57 ∧ n ≠ 0 ∧ n * 10 + (c.toNat - 48) ≤ 9223372036854775807) := fun x => h ⟨x.1, x.2.1⟩
    simp only [numAt, Bool.false_eq_true, if_false, numTail, if_neg hc, if_neg h2]
theorem numAt_stop {e c : UInt8} {n : Nat} {r : List UInt8} (hc : c ≠ e) (h : n = 0 ∨ 9223372036854775807 < n * 10 + (c.toNat - 48)) : numAt e false n (c :: r) = none := by
  have h2 : ¬ (48 ≤ c.toNat ∧ c.toNat ≤ 57 ∧ n ≠ 0 ∧ n * 10 + (c.toNat - 48) ≤ 9223372036854775807) := fun x => by
    rcases h with h | h
    · exact x.2.2.1 h
    · exact Nat.lt_irrefl _ (Nat.lt_of_lt_of_le h x.2.2.2)
  simp only [numAt, Bool.false_eq_true, if_false, numTail, if_neg hc, if_neg h2]
theorem numAt_next {e c : UInt8} {b : Bool} {n : Nat} {r : List UInt8} (hc : c ≠ e) (h : 48 ≤ c.toNat ∧ c.toNat ≤ 57) (h1 : b = true → n = 0) (h2 : b = false → n ≠ 0) (h3 : n * 10 + (c.toNat - 48) ≤ 9223372036854775807) : numAt e b n (c :: r) = numAt e false (n * 10 + (c.toNat - 48)) r := by
  cases b with
  | true =>
    rw [h1 rfl, Nat.zero_mul, Nat.zero_add]
    simp only [numAt, if_true, num, if_pos h, Bool.false_eq_true, if_false]
  | false =>
    have h4 : 48 ≤ c.toNat ∧ c.toNat ≤ 57 ∧ n ≠ 0 ∧ n * 10 + (c.toNat - 48) ≤ 9223372036854775807 := ⟨h.1, h.2, h2 rfl, h3⟩
    simp only [numAt, Bool.false_eq_true, if_false, numTail, if_neg hc, if_pos h4]
theorem numAt_nil {e : UInt8} {b : Bool} {n : Nat} : numAt e b n [] = none := by cases b <;> rfl
set_option maxRecDepth 100000 in
set_option maxHeartbeats 4000000 in
theorem rnumber_any (s : ByteArray) (at_ : Nat) (ec : Int) (E : UInt8) (hE : (E.toNat : Int) = ec) (hn : ¬ (48 ≤ E.toNat ∧ E.toNat ≤ 57)) (w : World) (hs : s.size ≤ 9223372036854775806) (ha : at_ ≤ s.size) :
    Calls Tryz.prog 169 #[.string s, .int .i64 at_, .int .u8 ec] w fun e w' => w = w' ∧ e = .returned (numV s.size (num E (s.data.toList.drop at_))) := by
  obtain ⟨P, hP⟩ : ∃ P, num E (s.data.toList.drop at_) = P := ⟨_, rfl⟩
  have HP := Lib.hid hP
  rw [hP]
  have HE := Lib.hid hE
  have HS := Lib.hid hs
  have hE0 : 0 ≤ ec := by omega
  have hE1 : ec ≤ 255 := by have := E.toNat_lt; omega
  obtain ⟨z, hz⟩ : ∃ z : Int, (s.size : Int) = z := ⟨_, rfl⟩
  have hzb : z ≤ 9223372036854775806 := by omega
  clear hP hE hs
  go_enter Tryz.func169, Tryz.ntmps169
  go_wp2_with fail
  go_loop [8, 9] (fun nv iv => ∃ (i n : Nat) (y : Int), at_ ≤ i ∧ i ≤ s.size ∧ iv = .int .i64 i ∧ nv = .int .u64 y ∧ 0 ≤ y ∧ y ≤ 9223372036854775807 ∧ Hid (y = (n : Int)) ∧ (i = at_ → y = 0) ∧ Hid (P = numAt E (i == at_) n (s.data.toList.drop i))) (fun _ iv => s.size - (intOf iv).toNat)
  case atStart => exact ⟨at_, 0, 0, Nat.le_refl _, ha, rfl, rfl, by omega, by omega, rfl, fun _ => rfl, by rw [← HP.out]; simp [numAt, Hid]⟩
  case round =>
    obtain ⟨i, n, y, hi0, hi1, rfl, rfl, hy0, hy1, hy, hy2, hI⟩ := hrel
    by_cases hlt : i < s.size
    · obtain ⟨c, hc⟩ : ∃ c, s[i] = c := ⟨_, rfl⟩
      obtain ⟨x, hx⟩ : ∃ x : Int, (c.toNat : Int) = x := ⟨_, rfl⟩
      have hx0 : 0 ≤ x := by omega
      have hx1 : x ≤ 255 := by have := c.toNat_lt; omega
      have hdr := drop_cons s i hlt
      rw [hc] at hdr
      rw [hdr] at hI
      have HX := Lib.hid hx
      have hlz : (i : Int) < z := by omega
      have hli : (i : Int) < (s.size : Int) := by omega
      have hne : (48 ≤ c.toNat ∧ c.toNat ≤ 57) → c ≠ E := fun h e => hn (by rw [← e]; exact h)
      have HNE := Lib.hid hne
      have HCE : Hid ((x == ec) = (c == E)) := by
        show _ = _
        rw [← hx, ← HE.out, Bool.eq_iff_iff, beq_iff_eq, beq_iff_eq]
        exact ⟨fun h => UInt8.toNat_inj.mp (by omega), fun h => by rw [h]⟩
      clear hdr hne
      by_cases h1 : at_ < i ∧ c = E
      · obtain ⟨hai, rfl⟩ := h1
        have hce : (x == ec) = true := by rw [HCE.out]; simp
        have hii : (at_ : Int) < (i : Int) := by omega
        have hbf : (i == at_) = false := beq_eq_false_iff_ne.mpr (by omega)
        have hfin : P = some (n, s.data.toList.drop (i + 1)) := by rw [hI.out, hbf, numAt_end]
        have HFIN : Hid (numV s.size P = .tuple #[.int .u64 y, .int .i64 ((i : Int) + 1)]) := by
          show _ = _
          rw [hfin]
          simp only [numV, drop_len]
          rw [hy.out, show s.size - (s.size - (i + 1)) = i + 1 by omega]; rfl
        clear hI hfin hbf
        go_wp2
        go_ret2
        exact ⟨rfl, by rw [HFIN.out]; rfl⟩
      · by_cases hdig : 48 ≤ c.toNat ∧ c.toNat ≤ 57
        · have hcE := HNE.out hdig
          have hce : (x == ec) = false := by rw [HCE.out]; exact beq_eq_false_iff_ne.mpr hcE
          have hd0 : 48 ≤ x := by omega
          have hd1 : x ≤ 57 := by omega
          by_cases hai : at_ < i
          · have hii : (at_ : Int) < (i : Int) := by omega
            have hbf : (i == at_) = false := beq_eq_false_iff_ne.mpr (by omega)
            rw [hbf] at hI
            by_cases hy00 : y = 0
            · have HFIN : Hid (numV s.size P = .tuple #[.int .u64 0, .int .i64 (-1)]) := by show _ = _; rw [hI.out, numAt_stop hcE (.inl (by have := hy.out; omega))]; rfl
              subst hy00
              clear hI hbf hy h1 hdig hy2
              go_wp2
              go_ret2
              exact ⟨rfl, by rw [HFIN.out]; rfl⟩
            · have hy0n : (y == 0) = false := beq_eq_false_iff_ne.mpr hy00
              by_cases hov : 9223372036854775807 < y * 10 + (x - 48)
              · have hov' : (9223372036854775807 - (x - 48)) / 10 < y := by omega
                have HFIN : Hid (numV s.size P = .tuple #[.int .u64 0, .int .i64 (-1)]) := by show _ = _; rw [hI.out, numAt_stop hcE (.inr (by have := hy.out; omega))]; rfl
                clear hI hbf hy h1 hdig hy2 hov
                go_wp2
                go_ret2
                exact ⟨rfl, by rw [HFIN.out]; rfl⟩
              · have hov' : ¬ (9223372036854775807 - (x - 48)) / 10 < y := by omega
                have hsum : y * 10 + (x - 48) ≤ 9223372036854775807 := by omega
                have hsum0 : 0 ≤ y * 10 + (x - 48) := by omega
                have hsum1 : y * 10 ≤ 9223372036854775807 := by omega
                have HN : Hid (P = numAt E false (n * 10 + (c.toNat - 48)) (s.data.toList.drop (i + 1))) := by
                  show _ = _
                  rw [hI.out, numAt_next hcE hdig (fun h => by cases h) (fun _ => by have := hy.out; omega) (by have := hy.out; omega)]
                have HY : Hid (y * 10 + (x - 48) = ((n * 10 + (c.toNat - 48) : Nat) : Int)) := by show _ = _; have := hy.out; omega
                clear hI hbf hy h1 hdig hy2 hov hy00
                go_wp2
                go_round
                case rel => exact ⟨i + 1, _, _, by omega, by omega, by go_num, rfl, hsum0, hsum, HY.out, fun h => by omega, by rw [show (i + 1 == at_) = false from beq_eq_false_iff_ne.mpr (by omega)]; exact HN.out⟩
                case measure => simp [intOf]; omega
          · obtain rfl : i = at_ := by omega
            have hy00 := hy2 rfl
            subst hy00
            have hii : ¬ (i : Int) < (i : Int) := by omega
            have hbt : (i == i) = true := by simp
            rw [hbt] at hI
            have HN : Hid (P = numAt E false (c.toNat - 48) (s.data.toList.drop (i + 1))) := by
              show _ = _
              have h0 : n = 0 := by have := hy.out; omega
              rw [hI.out, numAt_next hcE hdig (fun _ => h0) (fun h => by cases h) (by omega), h0, Nat.zero_mul, Nat.zero_add]
            have HY : Hid (x - 48 = ((c.toNat - 48 : Nat) : Int)) := by show _ = _; have := HX.out; omega
            have hov' : ¬ (9223372036854775807 - (x - 48)) / 10 < 0 := by omega
            have hsum0 : 0 ≤ x - 48 := by omega
            have hsum : x - 48 ≤ 9223372036854775807 := by omega
            clear hI hbt hy h1 hdig hy2
            go_wp2
            go_round
            case rel => exact ⟨i + 1, _, _, by omega, by omega, by go_num, rfl, hsum0, hsum, HY.out, fun h => by omega, by rw [show (i + 1 == i) = false from beq_eq_false_iff_ne.mpr (by omega)]; exact HN.out⟩
            case measure => simp [intOf]; omega
        · have HFIN : Hid (numV s.size P = .tuple #[.int .u64 0, .int .i64 (-1)]) := by
            show _ = _
            rw [hI.out, numAt_bad hdig (by
              by_cases hi : i = at_
              · left; rw [hi]; simp
              · right; exact fun e => h1 ⟨by omega, e⟩)]
            rfl
          have hstop : x < 48 ∨ 57 < x := by omega
          have hcond : ¬ ((x == ec) = true ∧ (at_ : Int) < (i : Int)) := fun h => h1 ⟨by omega, by have := h.1; rw [HCE.out] at this; exact eq_of_beq this⟩
          clear hI hy h1 hdig hy2
          rcases hstop with hs1 | hs1
          · by_cases hce : (x == ec) = true
            · have hii : ¬ (at_ : Int) < (i : Int) := fun h => hcond ⟨hce, h⟩
              clear hcond
              go_wp2
              go_ret2
              exact ⟨rfl, by rw [HFIN.out]; rfl⟩
            · have hce' : (x == ec) = false := by simpa using hce
              clear hcond hce
              go_wp2
              go_ret2
              exact ⟨rfl, by rw [HFIN.out]; rfl⟩
          · have hs2 : ¬ x < 48 := by omega
            by_cases hce : (x == ec) = true
            · have hii : ¬ (at_ : Int) < (i : Int) := fun h => hcond ⟨hce, h⟩
              clear hcond
              go_wp2
              go_ret2
              exact ⟨rfl, by rw [HFIN.out]; rfl⟩
            · have hce' : (x == ec) = false := by simpa using hce
              clear hcond hce
              go_wp2
              go_ret2
              exact ⟨rfl, by rw [HFIN.out]; rfl⟩
    · obtain rfl : s.size = i := by omega
      have HFIN : Hid (numV s.size P = .tuple #[.int .u64 0, .int .i64 (-1)]) := by show _ = _; rw [hI.out, drop_nil s _ (Nat.le_refl _), numAt_nil]; rfl
      have hzz : ¬ (z : Int) < z := by omega
      clear hI hy hy2
      go_wp2
      go_ret2
      exact ⟨rfl, by rw [HFIN.out]; rfl⟩
end Go.Proofs.YtbdimlppnhcicaaGreatDoor
/- term, the document's: parts, none, public, fits. -/
namespace Go.Proofs.YtbdimlppnhcicaaGreatDoor
set_option linter.unusedVariables false
open Go.RowKit
def partsI (c : UInt8) : Int := match arity c with | some k => k | none => -1
theorem parts_80 (w : World) : Calls Tryz.prog 170 #[.int .u8 80] w (fun e w' => w = w' ∧ e = .returned (.int .i64 1)) := by
  go_enter Tryz.func170, Tryz.ntmps170
  go_wp2
  go_ret
  exact ⟨rfl, rfl⟩
theorem parts_72 (w : World) : Calls Tryz.prog 170 #[.int .u8 72] w (fun e w' => w = w' ∧ e = .returned (.int .i64 1)) := by
  go_enter Tryz.func170, Tryz.ntmps170
  go_wp2
  go_ret
  exact ⟨rfl, rfl⟩
theorem parts_83 (w : World) : Calls Tryz.prog 170 #[.int .u8 83] w (fun e w' => w = w' ∧ e = .returned (.int .i64 2)) := by
  go_enter Tryz.func170, Tryz.ntmps170
  go_wp2
  go_ret
  exact ⟨rfl, rfl⟩
theorem parts_66 (w : World) : Calls Tryz.prog 170 #[.int .u8 66] w (fun e w' => w = w' ∧ e = .returned (.int .i64 2)) := by
  go_enter Tryz.func170, Tryz.ntmps170
  go_wp2
  go_ret
  exact ⟨rfl, rfl⟩
theorem parts_88 (w : World) : Calls Tryz.prog 170 #[.int .u8 88] w (fun e w' => w = w' ∧ e = .returned (.int .i64 2)) := by
  go_enter Tryz.func170, Tryz.ntmps170
  go_wp2
  go_ret
  exact ⟨rfl, rfl⟩
theorem parts_68 (w : World) : Calls Tryz.prog 170 #[.int .u8 68] w (fun e w' => w = w' ∧ e = .returned (.int .i64 2)) := by
  go_enter Tryz.func170, Tryz.ntmps170
  go_wp2
  go_ret
  exact ⟨rfl, rfl⟩
theorem parts_86 (w : World) : Calls Tryz.prog 170 #[.int .u8 86] w (fun e w' => w = w' ∧ e = .returned (.int .i64 2)) := by
  go_enter Tryz.func170, Tryz.ntmps170
  go_wp2
  go_ret
  exact ⟨rfl, rfl⟩
theorem parts_87 (w : World) : Calls Tryz.prog 170 #[.int .u8 87] w (fun e w' => w = w' ∧ e = .returned (.int .i64 2)) := by
  go_enter Tryz.func170, Tryz.ntmps170
  go_wp2
  go_ret
  exact ⟨rfl, rfl⟩
theorem parts_75 (w : World) : Calls Tryz.prog 170 #[.int .u8 75] w (fun e w' => w = w' ∧ e = .returned (.int .i64 2)) := by
  go_enter Tryz.func170, Tryz.ntmps170
  go_wp2
  go_ret
  exact ⟨rfl, rfl⟩
theorem parts_76 (w : World) : Calls Tryz.prog 170 #[.int .u8 76] w (fun e w' => w = w' ∧ e = .returned (.int .i64 2)) := by
  go_enter Tryz.func170, Tryz.ntmps170
  go_wp2
  go_ret
  exact ⟨rfl, rfl⟩
theorem parts_no (w : World) (c : Int) (h0 : 0 ≤ c) (h1 : c ≤ 255) (n80 : c ≠ 80) (n72 : c ≠ 72) (n83 : c ≠ 83) (n66 : c ≠ 66) (n88 : c ≠ 88) (n68 : c ≠ 68) (n86 : c ≠ 86) (n87 : c ≠ 87) (n75 : c ≠ 75) (n76 : c ≠ 76) : Calls Tryz.prog 170 #[.int .u8 c] w (fun e w' => w = w' ∧ e = .returned (.int .i64 (-1))) := by
  go_enter Tryz.func170, Tryz.ntmps170
  go_wp2
  go_ret
  exact ⟨rfl, rfl⟩
theorem parts_any (w : World) (c : UInt8) : Calls Tryz.prog 170 #[.int .u8 c.toNat] w (fun e w' => w = w' ∧ e = .returned (.int .i64 (partsI c))) := by
  by_cases n80 : c = 80
  · subst n80; exact parts_80 w
  by_cases n72 : c = 72
  · subst n72; exact parts_72 w
  by_cases n83 : c = 83
  · subst n83; exact parts_83 w
  by_cases n66 : c = 66
  · subst n66; exact parts_66 w
  by_cases n88 : c = 88
  · subst n88; exact parts_88 w
  by_cases n68 : c = 68
  · subst n68; exact parts_68 w
  by_cases n86 : c = 86
  · subst n86; exact parts_86 w
  by_cases n87 : c = 87
  · subst n87; exact parts_87 w
  by_cases n75 : c = 75
  · subst n75; exact parts_75 w
  by_cases n76 : c = 76
  · subst n76; exact parts_76 w
  have ha : arity c = none := by
    unfold arity
    rw [if_neg (by rintro (h | h) <;> contradiction), if_neg (by rintro (h | h | h | h | h | h | h | h) <;> contradiction)]
  have e : partsI c = -1 := by unfold partsI; rw [ha]
  rw [e]
  have hc : (c.toNat : Int) ≤ 255 := by have := c.toNat_lt; omega
  have ne : ∀ k : UInt8, c ≠ k → (c.toNat : Int) ≠ (k.toNat : Int) := fun k h h' => h (UInt8.toNat_inj.mp (by omega))
  exact parts_no w c.toNat (by omega) hc (ne 80 n80) (ne 72 n72) (ne 83 n83) (ne 66 n66) (ne 88 n88) (ne 68 n68) (ne 86 n86) (ne 87 n87) (ne 75 n75) (ne 76 n76)
theorem none_any (w : World) : Calls Tryz.prog 168 #[] w (fun e w' => Below w.heap.size w w' ∧ e = .returned (.agg #[.int .i64 (-1), .int .i64 0, .int .u64 0, .int .i64 0, .slice none 0 0])) := by
  go_enter Tryz.func168, Tryz.ntmps168
  go_wp2
  refine bodyPost_ret (v := .agg #[.int .i64 (-1), .int .i64 0, .int .u64 0, .int .i64 0, .slice none 0 0]) (by simp [results, Tryz.results168, go_sem]) rfl ⟨?_, rfl⟩
  exact (Below.refl _ _).alloc (Nat.le_refl _) _
theorem rpublic_any (w : World) (c : UInt8) : Calls Tryz.prog 191 #[.int .u8 c.toNat] w (fun e w' => w = w' ∧ e = .returned (.bool (c == 80 || c == 87 || c == 76))) := by
  rw [← beq_u8 c 80, ← beq_u8 c 87, ← beq_u8 c 76]
  obtain ⟨x, hx⟩ : ∃ x : Int, (c.toNat : Int) = x := ⟨_, rfl⟩
  rw [hx]
  have e80 : (((80 : UInt8).toNat : Nat) : Int) = 80 := rfl
  have e87 : (((87 : UInt8).toNat : Nat) : Int) = 87 := rfl
  have e76 : (((76 : UInt8).toNat : Nat) : Int) = 76 := rfl
  rw [e80, e87, e76]
  clear e80 e87 e76 hx
  by_cases h1 : (x == 80) = true
  · rw [h1]
    go_enter Tryz.func191, Tryz.ntmps191
    go_wp2
    go_ret
    exact ⟨rfl, rfl⟩
  · have h1' : (x == 80) = false := by simpa using h1
    by_cases h2 : (x == 87) = true
    · rw [h1', h2]
      clear h1
      go_enter Tryz.func191, Tryz.ntmps191
      go_wp2
      go_ret
      exact ⟨rfl, rfl⟩
    · have h2' : (x == 87) = false := by simpa using h2
      rw [h1', h2']
      clear h1 h2
      go_enter Tryz.func191, Tryz.ntmps191
      go_wp2
      go_ret
      exact ⟨rfl, rfl⟩
end Go.Proofs.YtbdimlppnhcicaaGreatDoor
/- term, the document's: fits. -/
namespace Go.Proofs.YtbdimlppnhcicaaGreatDoor
set_option linter.unusedVariables false
open Go.RowKit
theorem below_box (w : World) (o : Obj) : Below w.heap.size w (w.alloc o) := (Below.refl _ _).alloc (Nat.le_refl _) o
set_option maxRecDepth 100000 in
set_option maxHeartbeats 1000000 in
theorem rfits_80 (e0 d0 n0 f0 : Int) (g km kc p at_ : Nat) (s : ByteArray) (w : World) (hg : g < w.heap.size) (hkm : 0 < km) (k0 : w.cell? ⟨g, 0, none⟩ = some (.int .i64 (p : Int))) (hat : at_ < s.size) (hp : p < s.size) (hc : s[at_] = 80) (c : UInt8) (hcp : s[p] = c) :
    Calls Tryz.prog 171 #[.string s, .int .i64 at_, .agg #[.int .i64 e0, .int .i64 d0, .int .u64 n0, .int .i64 f0, .slice (some ⟨g, 0, none⟩) km kc]] w (fun e w' => Below w.heap.size w w' ∧ e = .returned (.bool (!(c == 86) && !(c == 75)))) := by
  rw [← beq_u8 c 86, ← beq_u8 c 75]
  have e86 : (((86 : UInt8).toNat : Nat) : Int) = 86 := rfl
  have e75 : (((75 : UInt8).toNat : Nat) : Int) = 75 := rfl
  rw [e86, e75]
  obtain ⟨x, hx⟩ : ∃ x : Int, (c.toNat : Int) = x := ⟨_, rfl⟩
  rw [hx]
  have hati : (at_ : Int) < (s.size : Int) := by omega
  have hpi : (p : Int) < (s.size : Int) := by omega
  have hc80 : ((s[at_].toNat : Nat) : Int) = 80 := by rw [hc]; rfl
  clear e86 e75
  by_cases h1 : (x == 86) = true
  · have h1n : (x != 86) = false := by rw [bne, h1]; rfl
    rw [h1]
    clear h1
    go_enter Tryz.func171, Tryz.ntmps171
    go_wp2
    go_ret
    exact ⟨below_box _ _, rfl⟩
  · have h1' : (x == 86) = false := by simpa using h1
    have h1n : (x != 86) = true := by rw [bne, h1']; rfl
    rw [h1']
    clear h1 h1'
    by_cases h2 : (x == 75) = true
    · have h2n : (x != 75) = false := by rw [bne, h2]; rfl
      rw [h2]
      clear h2
      go_enter Tryz.func171, Tryz.ntmps171
      go_wp2
      go_ret
      exact ⟨below_box _ _, rfl⟩
    · have h2' : (x == 75) = false := by simpa using h2
      have h2n : (x != 75) = true := by rw [bne, h2']; rfl
      rw [h2']
      clear h2 h2'
      go_enter Tryz.func171, Tryz.ntmps171
      go_wp2
      go_ret
      exact ⟨below_box _ _, rfl⟩
set_option maxRecDepth 100000 in
set_option maxHeartbeats 1000000 in
theorem rfits_no (cut : Array Value) (hcut : ∃ e d n f k, cut = #[.int .i64 e, .int .i64 d, .int .u64 n, .int .i64 f, k]) (at_ : Nat) (s : ByteArray) (w : World) (hat : at_ < s.size) (c : UInt8) (hc : s[at_] = c) (h80 : c ≠ 80) (h88 : c ≠ 88) (h87 : c ≠ 87) (h76 : c ≠ 76) :
    Calls Tryz.prog 171 #[.string s, .int .i64 at_, .agg cut] w (fun e w' => Below w.heap.size w w' ∧ e = .returned (.bool true)) := by
  obtain ⟨e, d, n, f, k, rfl⟩ := hcut
  have ne : ∀ k : UInt8, c ≠ k → (c.toNat : Int) ≠ (k.toNat : Int) := fun k h h' => h (UInt8.toNat_inj.mp (by omega))
  have n80 : (c.toNat : Int) ≠ 80 := ne 80 h80
  have n88 : (c.toNat : Int) ≠ 88 := ne 88 h88
  have n87 : (c.toNat : Int) ≠ 87 := ne 87 h87
  have n76 : (c.toNat : Int) ≠ 76 := ne 76 h76
  have hati : (at_ : Int) < (s.size : Int) := by omega
  obtain ⟨x, hx⟩ : ∃ x : Int, (c.toNat : Int) = x := ⟨_, rfl⟩
  rw [hx] at n80 n88 n87 n76
  have b80 : (x == 80) = false := beq_eq_false_iff_ne.mpr n80
  have b88 : (x == 88) = false := beq_eq_false_iff_ne.mpr n88
  have b87 : (x == 87) = false := beq_eq_false_iff_ne.mpr n87
  have b76 : (x == 76) = false := beq_eq_false_iff_ne.mpr n76
  clear ne h80 h88 h87 h76 n80 n88 n87 n76
  go_enter Tryz.func171, Tryz.ntmps171
  go_wp2
  go_ret
  exact ⟨below_box _ _, rfl⟩
set_option maxRecDepth 100000 in
set_option maxHeartbeats 1000000 in
theorem rfits_76 (e0 d0 n0 f0 : Int) (g km kc p at_ : Nat) (s : ByteArray) (w : World) (hg : g < w.heap.size) (hkm : 0 < km) (k0 : w.cell? ⟨g, 0, none⟩ = some (.int .i64 (p : Int))) (hat : at_ < s.size) (hp : p < s.size) (hc : s[at_] = 76) (c : UInt8) (hcp : s[p] = c) :
    Calls Tryz.prog 171 #[.string s, .int .i64 at_, .agg #[.int .i64 e0, .int .i64 d0, .int .u64 n0, .int .i64 f0, .slice (some ⟨g, 0, none⟩) km kc]] w (fun e w' => Below w.heap.size w w' ∧ e = .returned (.bool (c == 80 || c == 87 || c == 76))) := by
  have HP := fun W => Lib.hid (rpublic_any W c)
  obtain ⟨o, ho⟩ : ∃ o, (c == 80 || c == 87 || c == 76) = o := ⟨_, rfl⟩
  rw [ho] at HP ⊢
  have hati : (at_ : Int) < (s.size : Int) := by omega
  have hpi : (p : Int) < (s.size : Int) := by omega
  have hc80 : ((s[at_].toNat : Nat) : Int) = 76 := by rw [hc]; rfl
  clear ho
  go_enter Tryz.func171, Tryz.ntmps171
  go_wp2_with (go_at_call 191; (with_reducible refine Calls.mono (HP _).out ?_); rintro e w1 ⟨rfl, rfl⟩)
  go_ret
  exact ⟨below_box _ _, rfl⟩
set_option maxRecDepth 100000 in
set_option maxHeartbeats 1000000 in
theorem rfits_87 (e0 d0 n0 f0 : Int) (g km kc p p1 at_ : Nat) (s : ByteArray) (w : World) (hg : g < w.heap.size) (hkm : 1 < km) (k0 : w.cell? ⟨g, 0, none⟩ = some (.int .i64 (p : Int))) (k1 : w.cell? ⟨g, 1, none⟩ = some (.int .i64 (p1 : Int))) (hat : at_ < s.size) (hp : p < s.size) (hp1 : p1 < s.size) (hc : s[at_] = 87) (c : UInt8) (hcp : s[p] = c) (c' : UInt8) (hcp' : s[p1] = c') :
    Calls Tryz.prog 171 #[.string s, .int .i64 at_, .agg #[.int .i64 e0, .int .i64 d0, .int .u64 n0, .int .i64 f0, .slice (some ⟨g, 0, none⟩) km kc]] w (fun e w' => Below w.heap.size w w' ∧ e = .returned (.bool ((c == 80 || c == 87 || c == 76) && (c' == 80 || c' == 87 || c' == 76)))) := by
  have HP := fun W => Lib.hid (rpublic_any W c)
  have HQ := fun W => Lib.hid (rpublic_any W c')
  obtain ⟨o, ho⟩ : ∃ o, (c == 80 || c == 87 || c == 76) = o := ⟨_, rfl⟩
  obtain ⟨o', ho'⟩ : ∃ o, (c' == 80 || c' == 87 || c' == 76) = o := ⟨_, rfl⟩
  rw [ho] at HP ⊢
  rw [ho'] at HQ ⊢
  have hati : (at_ : Int) < (s.size : Int) := by omega
  have hpi : (p : Int) < (s.size : Int) := by omega
  have hpi1 : (p1 : Int) < (s.size : Int) := by omega
  have hc80 : ((s[at_].toNat : Nat) : Int) = 87 := by rw [hc]; rfl
  clear ho ho'
  cases o with
  | false =>
    go_enter Tryz.func171, Tryz.ntmps171
    go_wp2_with (go_at_call 191; (with_reducible refine Calls.mono (HP _).out ?_); rintro e w1 ⟨rfl, rfl⟩)
    go_ret
    exact ⟨below_box _ _, rfl⟩
  | true =>
    have tok : True := trivial
    go_enter Tryz.func171, Tryz.ntmps171
    go_wp2_with (first | (go_at_call 191; have t1 := tok; (with_reducible refine Calls.mono (HP _).out ?_); rintro e w1 ⟨rfl, rfl⟩; clear tok t1) | (go_at_call 191; (with_reducible refine Calls.mono (HQ _).out ?_); rintro e w1 ⟨rfl, rfl⟩))
    go_ret
    exact ⟨below_box _ _, rfl⟩
theorem extract_list (s : ByteArray) (i j : Nat) : (s.extract i j).toList = (s.data.toList.drop i).take (j - i) := by
  rw [ByteArray.toList_eq, ByteArray.data_extract, Array.toList_extract]
set_option maxRecDepth 100000 in
set_option maxHeartbeats 1000000 in
theorem rfits_88 (e0 d0 n0 f0 : Int) (g km kc p p1 p2 at_ : Nat) (s : ByteArray) (w : World) (hg : g < w.heap.size) (hkm : 2 < km) (k0 : w.cell? ⟨g, 0, none⟩ = some (.int .i64 (p : Int))) (k1 : w.cell? ⟨g, 1, none⟩ = some (.int .i64 (p1 : Int))) (k2 : w.cell? ⟨g, 2, none⟩ = some (.int .i64 (p2 : Int))) (hat : at_ < s.size) (hp : p ≤ p1) (hp1 : p1 ≤ p2) (hp2 : p2 ≤ s.size) (hc : s[at_] = 88) :
    Calls Tryz.prog 171 #[.string s, .int .i64 at_, .agg #[.int .i64 e0, .int .i64 d0, .int .u64 n0, .int .i64 f0, .slice (some ⟨g, 0, none⟩) km kc]] w (fun e w' => Below w.heap.size w w' ∧ e = .returned (.bool (!(bytesLt ((s.data.toList.drop p1).take (p2 - p1)) ((s.data.toList.drop p).take (p1 - p)))))) := by
  rw [← extract_list, ← extract_list, ← leq_not_lt]
  have hati : (at_ : Int) < (s.size : Int) := by omega
  have hc80 : ((s[at_].toNat : Nat) : Int) = 88 := by rw [hc]; rfl
  have h1 : (p : Int) ≤ (p1 : Int) := by omega
  have h2 : (p1 : Int) ≤ (p2 : Int) := by omega
  have h3 : (p2 : Int) ≤ (s.size : Int) := by omega
  go_enter Tryz.func171, Tryz.ntmps171
  go_wp2
  go_quiet (fail)
  all_goals go_wp2
  all_goals go_ret
  exact ⟨below_drewN (below_box _ _) _, rfl⟩
end Go.Proofs.YtbdimlppnhcicaaGreatDoor
/- term, the document's: where parts begin; fits of any parts. -/
namespace Go.Proofs.YtbdimlppnhcicaaGreatDoor
set_option linter.unusedVariables false
open Go.RowKit
/-- where these parts begin and end, from p on -/
def offs (p : Nat) : List (List UInt8) → List Nat
  | [] => [p]
  | k :: ks => p :: offs (p + k.length) ks
def I (o : Nat) : Value := .int .i64 (o : Int)
theorem offs_snoc : ∀ (ks : List (List UInt8)) (p : Nat) (k : List UInt8), offs p (ks ++ [k]) = offs p ks ++ [p + ks.flatten.length + k.length]
  | [], p, k => by simp [offs]
  | x :: ks, p, k => by
    rw [List.cons_append, offs, offs, offs_snoc ks (p + x.length) k, List.cons_append, List.flatten_cons, List.length_append]
    congr 3; omega
theorem offs_at : ∀ (ks : List (List UInt8)) (p i : Nat), i ≤ ks.length → (offs p ks)[i]? = some (p + (ks.take i).flatten.length)
  | [], p, i, h => by
    obtain rfl : i = 0 := by simpa using h
    rfl
  | k :: ks, p, 0, _ => rfl
  | k :: ks, p, i + 1, h => by
    rw [offs, List.getElem?_cons_succ, offs_at ks (p + k.length) i (by simpa using h), List.take_succ_cons, List.flatten_cons, List.length_append]
    congr 1; omega
/-- the i-th part lies between the i-th place and the next -/
theorem part_at (l r : List UInt8) (st : Nat) (ks : List (List UInt8)) (h : l.drop st = ks.flatten ++ r) (i : Nat) (k : List UInt8) (hk : ks[i]? = some k) : l.drop (st + (ks.take i).flatten.length) = k ++ ((ks.drop (i + 1)).flatten ++ r) := by
  have hi := (List.getElem?_eq_some_iff.1 hk).1
  have e : ks.flatten = (ks.take i).flatten ++ (k ++ (ks.drop (i + 1)).flatten) := by
    conv => lhs; rw [← List.take_append_drop i ks, List.flatten_append, List.drop_eq_getElem_cons hi, List.flatten_cons]
    rw [show ks[i] = k by rw [List.getElem?_eq_getElem hi] at hk; exact Option.some.inj hk]
  rw [← List.drop_drop, h, e, List.append_assoc, List.drop_left, List.append_assoc]
theorem byte_at (s : ByteArray) (p : Nat) (c : UInt8) (l : List UInt8) (h : s.data.toList.drop p = c :: l) : ∃ hp : p < s.size, s[p] = c := by
  have hp : p < s.size := by
    rcases Nat.lt_or_ge p s.size with h' | h'
    · exact h'
    · rw [drop_nil s p h'] at h; cases h
  refine ⟨hp, ?_⟩
  rw [drop_cons s p hp] at h
  exact (List.cons.inj h).1
theorem own_offs {w : World} {base n : Nat} {a : Option Addr} {m c : Nat} {os : List Nat} (h : w.ownsRow base 3 1 (.slice a m c) n (os.map I)) (hn : 0 < n) : ∃ g, a = some ⟨g, 0, none⟩ ∧ g < w.heap.size ∧ m = n ∧ ∀ (i o : Nat), os[i]? = some o → w.cell? ⟨g, i, none⟩ = some (.int .i64 (o : Int)) := by
  obtain ⟨g, cap, hv, hg, hc⟩ := own_cells h hn
  cases hv
  exact ⟨g, rfl, hg, rfl, fun i o ho => hc i _ (by rw [List.getElem?_map, ho]; rfl)⟩
theorem rfits_any (e0 d0 n0 f0 : Int) (base : Nat) (ko : Option Addr) (km kc at_ st : Nat) (s : ByteArray) (w : World) (c : UInt8) (ks : List (List UInt8)) (r : List UInt8) (hat : at_ < s.size) (hc : s[at_] = c) (hst : s.data.toList.drop st = ks.flatten ++ r)
    (hown : w.ownsRow base 3 1 (.slice ko km kc) (ks.length + 1) ((offs st ks).map I)) (hlen : ∀ k, arity c = some k → ks.length = k) (hne : ∀ x ∈ ks, x ≠ []) :
    Calls Tryz.prog 171 #[.string s, .int .i64 at_, .agg #[.int .i64 e0, .int .i64 d0, .int .u64 n0, .int .i64 f0, .slice ko km kc]] w (fun e w' => Below w.heap.size w w' ∧ e = .returned (.bool (fitsB c ks))) := by
  obtain ⟨g, rfl, hg, rfl, hcell⟩ := own_offs hown (by omega)
  have one : ∀ v, v ∈ ks → ∃ c l, v = c :: l := fun v hv => by
    cases v with
    | nil => exact absurd rfl (hne _ hv)
    | cons c l => exact ⟨c, l, rfl⟩
  by_cases h80 : c = 80
  · subst h80
    obtain ⟨k0, rfl⟩ := List.length_eq_one_iff.mp (hlen 1 (by decide))
    obtain ⟨c0, l0, rfl⟩ := one k0 (by simp)
    have hp := part_at _ r st _ hst 0 _ rfl
    obtain ⟨hp0, hp1⟩ := byte_at s _ c0 _ (by simpa using hp)
    have e : fitsB 80 [c0 :: l0] = (!(c0 == 86) && !(c0 == 75)) := by simp [fitsB, nth]
    rw [e]
    exact rfits_80 e0 d0 n0 f0 g _ kc st at_ s w hg (by simp) (hcell 0 st rfl) hat hp0 hc c0 hp1
  by_cases h76 : c = 76
  · subst h76
    obtain ⟨k0, k1, rfl⟩ := len_two (hlen 2 (by decide))
    obtain ⟨c0, l0, rfl⟩ := one k0 (by simp)
    have hp := part_at _ r st _ hst 0 _ rfl
    obtain ⟨hp0, hp1⟩ := byte_at s _ c0 _ (by simpa using hp)
    have e : fitsB 76 [c0 :: l0, k1] = (c0 == 80 || c0 == 87 || c0 == 76) := by simp [fitsB, nth, isPub]
    rw [e]
    exact rfits_76 e0 d0 n0 f0 g _ kc st at_ s w hg (by simp) (hcell 0 st rfl) hat hp0 hc c0 hp1
  by_cases h87 : c = 87
  · subst h87
    obtain ⟨k0, k1, rfl⟩ := len_two (hlen 2 (by decide))
    obtain ⟨c0, l0, rfl⟩ := one k0 (by simp)
    obtain ⟨c1, l1, rfl⟩ := one k1 (by simp)
    have hp := part_at _ r st _ hst 0 _ rfl
    obtain ⟨hp0, hp1⟩ := byte_at s _ c0 _ (by simpa using hp)
    have hq := part_at _ r st _ hst 1 _ rfl
    obtain ⟨hq0, hq1⟩ := byte_at s (st + (c0 :: l0).length) c1 _ (by simpa using hq)
    have e : fitsB 87 [c0 :: l0, c1 :: l1] = ((c0 == 80 || c0 == 87 || c0 == 76) && (c1 == 80 || c1 == 87 || c1 == 76)) := by simp [fitsB, nth, isPub]
    rw [e]
    exact rfits_87 e0 d0 n0 f0 g _ kc st _ at_ s w hg (by simp) (hcell 0 st rfl) (hcell 1 _ rfl) hat hp0 hq0 hc c0 hp1 c1 hq1
  by_cases h88 : c = 88
  · subst h88
    obtain ⟨k0, k1, rfl⟩ := len_two (hlen 2 (by decide))
    have hp := part_at _ r st _ hst 0 _ rfl
    have hq := part_at _ r st _ hst 1 _ rfl
    simp only [List.take_zero, List.flatten_nil, List.length_nil, Nat.add_zero] at hp
    simp only [List.take_succ_cons, List.take_zero, List.flatten_cons, List.flatten_nil, List.append_nil] at hq
    have h1 := congrArg List.length hq
    rw [drop_len] at h1
    have h0 := congrArg List.length hp
    rw [drop_len] at h0
    simp only [List.length_append] at h1 h0
    have key := rfits_88 e0 d0 n0 f0 g ([k0, k1].length + 1) kc st (st + k0.length) (st + k0.length + k1.length) at_ s w hg (by simp) (hcell 0 st rfl) (hcell 1 _ rfl) (hcell 2 _ rfl) hat (by omega) (by omega) (by
      have := hne k1 (by simp)
      have : 0 < k1.length := List.length_pos_iff.2 this
      omega) hc
    rw [hp, hq, show st + k0.length - st = k0.length by omega, show st + k0.length + k1.length - (st + k0.length) = k1.length by omega, List.take_left, List.take_left] at key
    have e : fitsB 88 [k0, k1] = !(bytesLt k1 k0) := by simp [fitsB, nth]
    rw [e]; exact key
  have e : fitsB c ks = true := by simp [fitsB, h80, h88, h87, h76]
  rw [e]
  exact rfits_no _ ⟨_, _, _, _, _, rfl⟩ at_ s w hat c hc h80 h88 h87 h76
end Go.Proofs.YtbdimlppnhcicaaGreatDoor
/- term, the document's: read, but for parts. -/
namespace Go.Proofs.YtbdimlppnhcicaaGreatDoor
set_option linter.unusedVariables false
open Go.RowKit
/-- what the document's read answers -/
def CutPost (s : ByteArray) (o : Option (Sh × List UInt8)) (w : World) (e : Ending) (w' : World) : Prop :=
  Below w.heap.size w w' ∧
    (o = none → ∃ (d n f : Int) (ko : Option Addr) (km kc : Nat), e = .returned (.agg #[.int .i64 (-1), .int .i64 d, .int .u64 n, .int .i64 f, .slice ko km kc])) ∧
    (∀ x rest, o = some (x, rest) → ∃ (n f : Nat) (ko : Option Addr) (km kc : Nat), e = .returned (.agg #[.int .i64 ((s.size - rest.length : Nat) : Int), .int .i64 x.deep, .int .u64 n, .int .i64 f, .slice ko km kc]) ∧
      (x.op = 110 → n = x.n) ∧ (x.op = 116 → f ≤ s.size - rest.length ∧ (s.data.toList.drop f).take (s.size - rest.length - f) = x.text) ∧
      ((x.kids = [] ∧ (Value.slice ko km kc) = .slice none 0 0) ∨ ∃ p, s.data.toList.drop p = x.kids.flatten ++ rest ∧ w'.ownsRow w.heap.size 3 1 (.slice ko km kc) (x.kids.length + 1) ((offs p x.kids).map I)))
theorem info55 : (Tryz.prog.info? 207).map (·.size) = some 5 := by kernel_rfl
theorem info5c (a b c d : Int) (kv : Value) : (Tryz.prog.info? 207).map (·.size) = some (#[.int .i64 a, .int .i64 b, .int .u64 c, .int .i64 d, kv] : Array Value).size := info55
theorem size5c (a b c d : Int) (kv : Value) (a' b' c' d' : Int) (kv' : Value) : (#[.int .i64 a, .int .i64 b, .int .u64 c, .int .i64 d, kv] : Array Value).size = (#[.int .i64 a', .int .i64 b', .int .u64 c', .int .i64 d', kv'] : Array Value).size := rfl
theorem one5c (a b c d : Int) (x : Option Addr) (l k : Nat) : (#[.int .i64 a, .int .i64 b, .int .u64 c, .int .i64 d, .slice x l k] : Array Value).all (·.oneCell') = true := by simp [Value.oneCell']
theorem results_cell1 {fn : Func} {t : Tmp} {ty : TypeId} (h : fn.results = #[.cell t ty]) (tmps : Array Value) (P : Program) (w : World) {ad : Addr} {v : Value} (hp : tmps.getD t undef = .pointer (some ad)) (hl : (loadVar ty ad).run P w = .ok v w) : (results fn tmps).run P w = .ok v w := by
  simp only [Array.getD_eq_getD_getElem?] at hp
  simp [results, h, hp, asAddr, hl]
set_option maxRecDepth 100000 in
set_option maxHeartbeats 2000000 in
theorem rread_end (at_ R : Nat) (s : ByteArray) (w : World) (h : s.size ≤ at_) (ha : at_ ≤ 20000) (hs : s.size ≤ 16384) : Calls Tryz.prog 127 #[.string s, .int .i64 at_, .int .i64 R] w (CutPost s none w) := by
  have hi : (s.size : Int) ≤ (at_ : Int) := by omega
  go_enter Tryz.func127, Tryz.ntmps127
  go_upto_region 1 with fail
  have Q0 := Lib.hid (heap_alloc_at w (.cells #[.int .i64 0, .int .i64 0, .int .u64 0, .int .i64 0, .slice none 0 0] 207))
  have B0 := Lib.hid (below_new' w (.cells #[.int .i64 0, .int .i64 0, .int .u64 0, .int .i64 0, .slice none 0 0] 207))
  generalize w.alloc (.cells #[.int .i64 0, .int .i64 0, .int .u64 0, .int .i64 0, .slice none 0 0] 207) = w0 at Q0 B0 ⊢
  obtain ⟨r6, hr6⟩ : ∃ r6, w.heap.size = r6 := ⟨_, rfl⟩
  have HR6 := Lib.hid hr6
  rw [hr6] at Q0 ⊢
  clear hr6
  have BX := B0
  have QX := Q0
  go_wp2_with (first
    | (go_at_call 168; (with_reducible refine Calls.mono (none_any _) ?_); rintro e w9 ⟨hb9, rfl⟩; have B9 : Hid (Below w.heap.size w w9) := BX.out.trans (hb9.mono BX.out.size); have Q9 : Hid (w9.heap[r6]? = some (.cells #[.int .i64 0, .int .i64 0, .int .u64 0, .int .i64 0, .slice none 0 0] 207 (0, 0))) := (hb9.block r6 (Array.getElem?_eq_some_iff.1 QX.out).1).trans QX.out; clear hb9)
    | (with_reducible refine wpList_store_row rfl 207 (.tmp 6) (.tmp 26) rfl r6 #[.int .i64 (-1), .int .i64 0, .int .u64 0, .int .i64 0, .slice none 0 0] rfl rfl 207 #[.int .i64 0, .int .i64 0, .int .u64 0, .int .i64 0, .slice none 0 0] Q9.out (info5c _ _ _ _ _) (size5c _ _ _ _ _ _ _ _ _ _) (one5c _ _ _ _ _ _ _) ?_))
  have hl := run_loadVar_row (P := Tryz.prog) (w9.setRow r6 #[.int .i64 (-1), .int .i64 0, .int .u64 0, .int .i64 0, .slice none 0 0]) r6 207 207 #[.int .i64 (-1), .int .i64 0, .int .u64 0, .int .i64 0, .slice none 0 0] (0, 0) _ (setRow_heap w9 r6 _ _ 207 _ Q9.out) Tryz.underlying207 rfl (info5c _ _ _ _ _)
  refine bodyPost_ret (results_cell1 Tryz.results127 _ _ _ rfl hl) rfl ⟨below_setRow B9.out (by have := HR6.out; omega) _, fun _ => ⟨_, _, _, _, _, _, rfl⟩, fun x rest h => by cases h⟩

set_option maxRecDepth 100000 in
set_option maxHeartbeats 2000000 in
theorem rread_room (at_ : Nat) (s : ByteArray) (w : World) (h : at_ < s.size) (hs : s.size ≤ 16384) : Calls Tryz.prog 127 #[.string s, .int .i64 at_, .int .i64 0] w (CutPost s none w) := by
  have hi : (at_ : Int) < (s.size : Int) := by omega
  go_enter Tryz.func127, Tryz.ntmps127
  go_upto_region 1 with fail
  have Q0 := Lib.hid (heap_alloc_at w (.cells #[.int .i64 0, .int .i64 0, .int .u64 0, .int .i64 0, .slice none 0 0] 207))
  have B0 := Lib.hid (below_new' w (.cells #[.int .i64 0, .int .i64 0, .int .u64 0, .int .i64 0, .slice none 0 0] 207))
  generalize w.alloc (.cells #[.int .i64 0, .int .i64 0, .int .u64 0, .int .i64 0, .slice none 0 0] 207) = w0 at Q0 B0 ⊢
  obtain ⟨r6, hr6⟩ : ∃ r6, w.heap.size = r6 := ⟨_, rfl⟩
  have HR6 := Lib.hid hr6
  rw [hr6] at Q0 ⊢
  clear hr6
  have BX := B0
  have QX := Q0
  go_wp2_with (first
    | (go_at_call 168; (with_reducible refine Calls.mono (none_any _) ?_); rintro e w9 ⟨hb9, rfl⟩; have B9 : Hid (Below w.heap.size w w9) := BX.out.trans (hb9.mono BX.out.size); have Q9 : Hid (w9.heap[r6]? = some (.cells #[.int .i64 0, .int .i64 0, .int .u64 0, .int .i64 0, .slice none 0 0] 207 (0, 0))) := (hb9.block r6 (Array.getElem?_eq_some_iff.1 QX.out).1).trans QX.out; clear hb9)
    | (with_reducible refine wpList_store_row rfl 207 (.tmp 6) (.tmp 26) rfl r6 #[.int .i64 (-1), .int .i64 0, .int .u64 0, .int .i64 0, .slice none 0 0] rfl rfl 207 #[.int .i64 0, .int .i64 0, .int .u64 0, .int .i64 0, .slice none 0 0] Q9.out (info5c _ _ _ _ _) (size5c _ _ _ _ _ _ _ _ _ _) (one5c _ _ _ _ _ _ _) ?_))
  have hl := run_loadVar_row (P := Tryz.prog) (w9.setRow r6 #[.int .i64 (-1), .int .i64 0, .int .u64 0, .int .i64 0, .slice none 0 0]) r6 207 207 #[.int .i64 (-1), .int .i64 0, .int .u64 0, .int .i64 0, .slice none 0 0] (0, 0) _ (setRow_heap w9 r6 _ _ 207 _ Q9.out) Tryz.underlying207 rfl (info5c _ _ _ _ _)
  refine bodyPost_ret (results_cell1 Tryz.results127 _ _ _ rfl hl) rfl ⟨below_setRow B9.out (by have := HR6.out; omega) _, fun _ => ⟨_, _, _, _, _, _, rfl⟩, fun x rest h => by cases h⟩


set_option maxRecDepth 100000 in
set_option maxHeartbeats 2000000 in
theorem rread_name (at_ R : Nat) (s : ByteArray) (w : World) (h : at_ < s.size) (hs : s.size ≤ 16384) (hR : R ≤ 63) (hc : s[at_] = 110) : Calls Tryz.prog 127 #[.string s, .int .i64 at_, .int .i64 ((R : Int) + 1)] w (CutPost s (parse (R + 1) (s.data.toList.drop at_)) w) := by
  have hi : (at_ : Int) < (s.size : Int) := by omega
  have q2 : ((R : Int) + 1 == 0) = false := beq_eq_false_iff_ne.mpr (by omega)
  have HN := fun W => Lib.hid (rnumber_any s (at_ + 1) 59 59 rfl (by decide) W (by omega) (by omega))
  have hdrop := drop_cons s at_ h
  rw [hc] at hdrop
  have HP := Lib.hid (parse_rest R 110 (s.data.toList.drop (at_ + 1)))
  rw [hdrop]
  obtain ⟨rr, hrr⟩ : ∃ rr, s.data.toList.drop (at_ + 1) = rr := ⟨_, rfl⟩
  rw [hrr] at HP HN ⊢
  obtain ⟨po, hpo⟩ : ∃ po, parse (R + 1) (110 :: rr) = po := ⟨_, rfl⟩
  rw [hpo] at HP ⊢
  have hc110 : ((s[at_].toNat : Nat) : Int) = 110 := by rw [hc]; rfl
  have e1 : ((at_ + 1 : Nat) : Int) = (at_ : Int) + 1 := rfl
  clear hdrop hrr hpo
  cases ho : num 59 rr with
  | none =>
    rw [ho] at HN
    obtain rfl : po = none := by have := HP.out; simpa [restP, nameO, ho] using this
    have HN : Hid (∀ W, Calls Tryz.prog 169 #[.string s, .int .i64 ((at_ : Int) + 1), .int .u8 59] W fun e w' => W = w' ∧ e = .returned (.tuple #[.int .u64 0, .int .i64 (-1)])) := HN
    clear ho
    go_enter Tryz.func127, Tryz.ntmps127
    go_upto_region 1 with fail
    have Q0 := Lib.hid (heap_alloc_at w (.cells #[.int .i64 0, .int .i64 0, .int .u64 0, .int .i64 0, .slice none 0 0] 207))
    have B0 := Lib.hid (below_new' w (.cells #[.int .i64 0, .int .i64 0, .int .u64 0, .int .i64 0, .slice none 0 0] 207))
    generalize w.alloc (.cells #[.int .i64 0, .int .i64 0, .int .u64 0, .int .i64 0, .slice none 0 0] 207) = w0 at Q0 B0 ⊢
    obtain ⟨r6, hr6⟩ : ∃ r6, w.heap.size = r6 := ⟨_, rfl⟩
    have HR6 := Lib.hid hr6
    rw [hr6] at Q0 ⊢
    clear hr6
    go_wp2_with (first
      | (go_at_call 169; (with_reducible refine Calls.mono (HN.out _) ?_); rintro e w9 ⟨rfl, rfl⟩)
      | (with_reducible refine wpList_store_row rfl 207 (.tmp 6) (.tmp 41) rfl r6 #[.int .i64 (-1), .int .i64 1, .int .u64 0, .int .i64 0, .slice none 0 0] rfl rfl 207 #[.int .i64 0, .int .i64 0, .int .u64 0, .int .i64 0, .slice none 0 0] Q0.out (info5c _ _ _ _ _) (size5c _ _ _ _ _ _ _ _ _ _) (one5c _ _ _ _ _ _ _) ?_))
    have hl := run_loadVar_row (P := Tryz.prog) (w0.setRow r6 #[.int .i64 (-1), .int .i64 1, .int .u64 0, .int .i64 0, .slice none 0 0]) r6 207 207 #[.int .i64 (-1), .int .i64 1, .int .u64 0, .int .i64 0, .slice none 0 0] (0, 0) _ (setRow_heap w0 r6 _ _ 207 _ Q0.out) Tryz.underlying207 rfl (info5c _ _ _ _ _)
    exact bodyPost_ret (results_cell1 Tryz.results127 _ _ _ rfl hl) rfl ⟨below_setRow B0.out (by have := HR6.out; omega) _, fun _ => ⟨_, _, _, _, _, _, rfl⟩, fun x rest h => by cases h⟩
  | some y =>
    obtain ⟨n, r⟩ := y
    rw [ho] at HN
    obtain rfl : po = some (⟨110, n, [], [], 1⟩, r) := by have := HP.out; simpa [restP, nameO, ho, fitsB] using this
    have HN : Hid (∀ W, Calls Tryz.prog 169 #[.string s, .int .i64 ((at_ : Int) + 1), .int .u8 59] W fun e w' => W = w' ∧ e = .returned (.tuple #[.int .u64 n, .int .i64 ((s.size - r.length : Nat) : Int)])) := HN
    obtain ⟨en, hen⟩ : ∃ en : Int, ((s.size - r.length : Nat) : Int) = en := ⟨_, rfl⟩
    have HEN := Lib.hid hen
    rw [hen] at HN
    clear ho hen
    go_enter Tryz.func127, Tryz.ntmps127
    go_upto_region 1 with fail
    have Q0 := Lib.hid (heap_alloc_at w (.cells #[.int .i64 0, .int .i64 0, .int .u64 0, .int .i64 0, .slice none 0 0] 207))
    have B0 := Lib.hid (below_new' w (.cells #[.int .i64 0, .int .i64 0, .int .u64 0, .int .i64 0, .slice none 0 0] 207))
    generalize w.alloc (.cells #[.int .i64 0, .int .i64 0, .int .u64 0, .int .i64 0, .slice none 0 0] 207) = w0 at Q0 B0 ⊢
    obtain ⟨r6, hr6⟩ : ∃ r6, w.heap.size = r6 := ⟨_, rfl⟩
    have HR6 := Lib.hid hr6
    rw [hr6] at Q0 ⊢
    clear hr6
    go_wp2_with (first
      | (go_at_call 169; (with_reducible refine Calls.mono (HN.out _) ?_); rintro e w9 ⟨rfl, rfl⟩)
      | (with_reducible refine wpList_store_row rfl 207 (.tmp 6) (.tmp 41) rfl r6 #[.int .i64 en, .int .i64 1, .int .u64 n, .int .i64 0, .slice none 0 0] rfl rfl 207 #[.int .i64 0, .int .i64 0, .int .u64 0, .int .i64 0, .slice none 0 0] Q0.out (info5c _ _ _ _ _) (size5c _ _ _ _ _ _ _ _ _ _) (one5c _ _ _ _ _ _ _) ?_))
    have hl := run_loadVar_row (P := Tryz.prog) (w0.setRow r6 #[.int .i64 en, .int .i64 1, .int .u64 n, .int .i64 0, .slice none 0 0]) r6 207 207 #[.int .i64 en, .int .i64 1, .int .u64 n, .int .i64 0, .slice none 0 0] (0, 0) _ (setRow_heap w0 r6 _ _ 207 _ Q0.out) Tryz.underlying207 rfl (info5c _ _ _ _ _)
    refine bodyPost_ret (results_cell1 Tryz.results127 _ _ _ rfl hl) rfl ⟨below_setRow B0.out (by have := HR6.out; omega) _, (fun h => by cases h), fun x rest h => ?_⟩
    cases h
    exact ⟨n, 0, none, 0, 0, by rw [HEN.out]; rfl, fun _ => rfl, (fun h => by cases h), .inl ⟨rfl, rfl⟩⟩
end Go.Proofs.YtbdimlppnhcicaaGreatDoor
/- term, the document's: read of texts. -/
namespace Go.Proofs.YtbdimlppnhcicaaGreatDoor
set_option linter.unusedVariables false
open Go.RowKit
theorem num_drop {E : UInt8} {s : ByteArray} {a n : Nat} {r : List UInt8} (h : num E (s.data.toList.drop a) = some (n, r)) : r.length ≤ s.size ∧ s.data.toList.drop (s.size - r.length) = r := by
  obtain ⟨c, hc, _⟩ := num_front E _ _ _ h
  have h1 := congrArg List.length hc
  rw [drop_len, List.length_append] at h1
  refine ⟨by omega, ?_⟩
  have h2 : s.data.toList.drop (a + c.length) = r := by rw [← List.drop_drop, hc, List.drop_left]
  by_cases h0 : r = []
  · subst h0; exact drop_nil s _ (by simp)
  · have : 0 < r.length := List.length_pos_iff.2 h0
    rw [show s.size - r.length = a + c.length by omega]; exact h2
set_option maxRecDepth 100000 in
set_option maxHeartbeats 4000000 in
theorem rread_text (at_ R : Nat) (s : ByteArray) (w : World) (h : at_ < s.size) (hs : s.size ≤ 16384) (hR : R ≤ 63) (hc : s[at_] = 116) : Calls Tryz.prog 127 #[.string s, .int .i64 at_, .int .i64 ((R : Int) + 1)] w (CutPost s (parse (R + 1) (s.data.toList.drop at_)) w) := by
  have hi : (at_ : Int) < (s.size : Int) := by omega
  have q2 : ((R : Int) + 1 == 0) = false := beq_eq_false_iff_ne.mpr (by omega)
  have HN := fun W => Lib.hid (rnumber_any s (at_ + 1) 58 58 rfl (by decide) W (by omega) (by omega))
  have hdrop := drop_cons s at_ h
  rw [hc] at hdrop
  have HP := Lib.hid (parse_rest R 116 (s.data.toList.drop (at_ + 1)))
  rw [hdrop]
  have hnd := fun n r => num_drop (E := 58) (s := s) (a := at_ + 1) (n := n) (r := r)
  obtain ⟨rr, hrr⟩ : ∃ rr, s.data.toList.drop (at_ + 1) = rr := ⟨_, rfl⟩
  rw [hrr] at HP HN hnd ⊢
  obtain ⟨po, hpo⟩ : ∃ po, parse (R + 1) (116 :: rr) = po := ⟨_, rfl⟩
  rw [hpo] at HP ⊢
  have hc110 : ((s[at_].toNat : Nat) : Int) = 116 := by rw [hc]; rfl
  clear hdrop hrr hpo
  cases ho : num 58 rr with
  | none =>
    rw [ho] at HN
    obtain rfl : po = none := by have := HP.out; simpa [restP, textO, ho] using this
    have HN : Hid (∀ W, Calls Tryz.prog 169 #[.string s, .int .i64 ((at_ : Int) + 1), .int .u8 58] W fun e w' => W = w' ∧ e = .returned (.tuple #[.int .u64 0, .int .i64 (-1)])) := HN
    clear ho hnd
    go_enter Tryz.func127, Tryz.ntmps127
    go_upto_region 1 with fail
    have Q0 := Lib.hid (heap_alloc_at w (.cells #[.int .i64 0, .int .i64 0, .int .u64 0, .int .i64 0, .slice none 0 0] 207))
    have B0 := Lib.hid (below_new' w (.cells #[.int .i64 0, .int .i64 0, .int .u64 0, .int .i64 0, .slice none 0 0] 207))
    generalize w.alloc (.cells #[.int .i64 0, .int .i64 0, .int .u64 0, .int .i64 0, .slice none 0 0] 207) = w0 at Q0 B0 ⊢
    obtain ⟨r6, hr6⟩ : ∃ r6, w.heap.size = r6 := ⟨_, rfl⟩
    have HR6 := Lib.hid hr6
    rw [hr6] at Q0 ⊢
    clear hr6
    have BX := B0
    have QX := Q0
    go_wp2_with (first
      | (go_at_call 169; (with_reducible refine Calls.mono (HN.out _) ?_); rintro e w8 ⟨rfl, rfl⟩)
      | (go_at_call 168; (with_reducible refine Calls.mono (none_any _) ?_); rintro e w9 ⟨hb9, rfl⟩; have B9 : Hid (Below w.heap.size w w9) := BX.out.trans (hb9.mono BX.out.size); have Q9 : Hid (w9.heap[r6]? = some (.cells #[.int .i64 0, .int .i64 0, .int .u64 0, .int .i64 0, .slice none 0 0] 207 (0, 0))) := (hb9.block r6 (Array.getElem?_eq_some_iff.1 QX.out).1).trans QX.out; clear hb9)
      | (with_reducible refine wpList_store_row rfl 207 (.tmp 6) (.tmp 66) rfl r6 #[.int .i64 (-1), .int .i64 0, .int .u64 0, .int .i64 0, .slice none 0 0] rfl rfl 207 #[.int .i64 0, .int .i64 0, .int .u64 0, .int .i64 0, .slice none 0 0] Q9.out (info5c _ _ _ _ _) (size5c _ _ _ _ _ _ _ _ _ _) (one5c _ _ _ _ _ _ _) ?_))
    have hl := run_loadVar_row (P := Tryz.prog) (w9.setRow r6 #[.int .i64 (-1), .int .i64 0, .int .u64 0, .int .i64 0, .slice none 0 0]) r6 207 207 #[.int .i64 (-1), .int .i64 0, .int .u64 0, .int .i64 0, .slice none 0 0] (0, 0) _ (setRow_heap w9 r6 _ _ 207 _ Q9.out) Tryz.underlying207 rfl (info5c _ _ _ _ _)
    exact bodyPost_ret (results_cell1 Tryz.results127 _ _ _ rfl hl) rfl ⟨below_setRow B9.out (by have := HR6.out; omega) _, fun _ => ⟨_, _, _, _, _, _, rfl⟩, fun x rest h => by cases h⟩
  | some y0 =>
    obtain ⟨n, r⟩ := y0
    rw [ho] at HN
    obtain ⟨hrl, hrd⟩ := hnd n r ho
    have HRD := Lib.hid hrd
    have HN : Hid (∀ W, Calls Tryz.prog 169 #[.string s, .int .i64 ((at_ : Int) + 1), .int .u8 58] W fun e w' => W = w' ∧ e = .returned (.tuple #[.int .u64 n, .int .i64 ((s.size - r.length : Nat) : Int)])) := HN
    obtain ⟨en, hen⟩ : ∃ en : Int, ((s.size - r.length : Nat) : Int) = en := ⟨_, rfl⟩
    obtain ⟨y, hy⟩ : ∃ y : Int, (n : Int) = y := ⟨_, rfl⟩
    have HEN := Lib.hid hen
    have HY := Lib.hid hy
    rw [hen, hy] at HN
    have hy0 : 0 ≤ y := by omega
    have hyb : y ≤ 9223372036854775807 := by
      have := num_front 58 rr n r ho
      have h1 : n ≤ 9223372036854775807 := by
        cases rr with
        | nil => simp [num] at ho
        | cons c l =>
          simp only [num] at ho
          split at ho
          · exact numTail_le 58 l _ n r (by have := c.toNat_lt; omega) ho
          · cases ho
      omega
    have hen0 : 0 ≤ en := by omega
    have hen1 : en ≤ (s.size : Int) := by omega
    have hen2 : ¬ en < 0 := by omega
    obtain ⟨z, hz⟩ : ∃ z : Int, (s.size : Int) = z := ⟨_, rfl⟩
    have hzb : z ≤ 16384 := by omega
    have hzr : z - en = (r.length : Int) := by omega
    have HZR := Lib.hid hzr
    rw [hz] at hi hen1
    clear hen hy hnd hrd hzr
    by_cases h1 : n ≤ 4096 ∧ n ≤ r.length
    · obtain rfl : po = some (⟨116, 0, r.take n, [], 1⟩, r.drop n) := by have := HP.out; simpa [restP, textO, ho, fitsB, h1] using this
      have g1 : ¬ 4096 < y := by have := HY.out; omega
      have g2 : ¬ z - en < y := by have := HY.out; have := HZR.out; omega
      have g3 : y ≤ z - en := by omega
      have g4 : y ≤ 4096 := by omega
      have HH := Lib.hid h1
      clear ho h1
      go_enter Tryz.func127, Tryz.ntmps127
      go_upto_region 1 with fail
      have Q0 := Lib.hid (heap_alloc_at w (.cells #[.int .i64 0, .int .i64 0, .int .u64 0, .int .i64 0, .slice none 0 0] 207))
      have B0 := Lib.hid (below_new' w (.cells #[.int .i64 0, .int .i64 0, .int .u64 0, .int .i64 0, .slice none 0 0] 207))
      generalize w.alloc (.cells #[.int .i64 0, .int .i64 0, .int .u64 0, .int .i64 0, .slice none 0 0] 207) = w0 at Q0 B0 ⊢
      obtain ⟨r6, hr6⟩ : ∃ r6, w.heap.size = r6 := ⟨_, rfl⟩
      have HR6 := Lib.hid hr6
      rw [hr6] at Q0 ⊢
      clear hr6
      have BX := B0
      have QX := Q0
      go_wp2_with (first
        | (go_at_call 169; (with_reducible refine Calls.mono (HN.out _) ?_); rintro e w8 ⟨rfl, rfl⟩)
        | (with_reducible refine wpList_store_row rfl 207 (.tmp 6) (.tmp 73) rfl r6 #[.int .i64 (en + y), .int .i64 1, .int .u64 y, .int .i64 en, .slice none 0 0] rfl rfl 207 #[.int .i64 0, .int .i64 0, .int .u64 0, .int .i64 0, .slice none 0 0] Q0.out (info5c _ _ _ _ _) (size5c _ _ _ _ _ _ _ _ _ _) (one5c _ _ _ _ _ _ _) ?_))
      have hl := run_loadVar_row (P := Tryz.prog) (w0.setRow r6 #[.int .i64 (en + y), .int .i64 1, .int .u64 y, .int .i64 en, .slice none 0 0]) r6 207 207 #[.int .i64 (en + y), .int .i64 1, .int .u64 y, .int .i64 en, .slice none 0 0] (0, 0) _ (setRow_heap w0 r6 _ _ 207 _ Q0.out) Tryz.underlying207 rfl (info5c _ _ _ _ _)
      refine bodyPost_ret (results_cell1 Tryz.results127 _ _ _ rfl hl) rfl ⟨below_setRow B0.out (by have := HR6.out; omega) _, (fun h => by cases h), fun x rest h => ?_⟩
      cases h
      have e1 := HEN.out
      have e2 := HY.out
      have e3 := HH.out
      refine ⟨n, s.size - r.length, none, 0, 0, ?_, (fun h => by cases h), fun _ => ⟨?_, ?_⟩, .inl ⟨rfl, rfl⟩⟩
      · rw [HEN.out, HY.out, show ((s.size - (r.drop n).length : Nat) : Int) = en + y by rw [List.length_drop]; omega]
        rfl
      · rw [List.length_drop]; omega
      · rw [HRD.out, List.length_drop, show s.size - (r.length - n) - (s.size - r.length) = n by omega]
    · obtain rfl : po = none := by have := HP.out; simpa [restP, textO, ho, h1] using this
      by_cases g1 : 4096 < y
      · clear ho h1
        go_enter Tryz.func127, Tryz.ntmps127
        go_upto_region 1 with fail
        have Q0 := Lib.hid (heap_alloc_at w (.cells #[.int .i64 0, .int .i64 0, .int .u64 0, .int .i64 0, .slice none 0 0] 207))
        have B0 := Lib.hid (below_new' w (.cells #[.int .i64 0, .int .i64 0, .int .u64 0, .int .i64 0, .slice none 0 0] 207))
        generalize w.alloc (.cells #[.int .i64 0, .int .i64 0, .int .u64 0, .int .i64 0, .slice none 0 0] 207) = w0 at Q0 B0 ⊢
        obtain ⟨r6, hr6⟩ : ∃ r6, w.heap.size = r6 := ⟨_, rfl⟩
        have HR6 := Lib.hid hr6
        rw [hr6] at Q0 ⊢
        clear hr6
        have BX := B0
        have QX := Q0
        go_wp2_with (first
          | (go_at_call 169; (with_reducible refine Calls.mono (HN.out _) ?_); rintro e w8 ⟨rfl, rfl⟩)
          | (go_at_call 168; (with_reducible refine Calls.mono (none_any _) ?_); rintro e w9 ⟨hb9, rfl⟩; have B9 : Hid (Below w.heap.size w w9) := BX.out.trans (hb9.mono BX.out.size); have Q9 : Hid (w9.heap[r6]? = some (.cells #[.int .i64 0, .int .i64 0, .int .u64 0, .int .i64 0, .slice none 0 0] 207 (0, 0))) := (hb9.block r6 (Array.getElem?_eq_some_iff.1 QX.out).1).trans QX.out; clear hb9)
          | (with_reducible refine wpList_store_row rfl 207 (.tmp 6) (.tmp 66) rfl r6 #[.int .i64 (-1), .int .i64 0, .int .u64 0, .int .i64 0, .slice none 0 0] rfl rfl 207 #[.int .i64 0, .int .i64 0, .int .u64 0, .int .i64 0, .slice none 0 0] Q9.out (info5c _ _ _ _ _) (size5c _ _ _ _ _ _ _ _ _ _) (one5c _ _ _ _ _ _ _) ?_))
        have hl := run_loadVar_row (P := Tryz.prog) (w9.setRow r6 #[.int .i64 (-1), .int .i64 0, .int .u64 0, .int .i64 0, .slice none 0 0]) r6 207 207 #[.int .i64 (-1), .int .i64 0, .int .u64 0, .int .i64 0, .slice none 0 0] (0, 0) _ (setRow_heap w9 r6 _ _ 207 _ Q9.out) Tryz.underlying207 rfl (info5c _ _ _ _ _)
        exact bodyPost_ret (results_cell1 Tryz.results127 _ _ _ rfl hl) rfl ⟨below_setRow B9.out (by have := HR6.out; omega) _, fun _ => ⟨_, _, _, _, _, _, rfl⟩, fun x rest h => by cases h⟩
      · have g2 : z - en < y := by have := HY.out; have := HZR.out; omega
        have g4 : y ≤ 4096 := by omega
        clear ho h1
        go_enter Tryz.func127, Tryz.ntmps127
        go_upto_region 1 with fail
        have Q0 := Lib.hid (heap_alloc_at w (.cells #[.int .i64 0, .int .i64 0, .int .u64 0, .int .i64 0, .slice none 0 0] 207))
        have B0 := Lib.hid (below_new' w (.cells #[.int .i64 0, .int .i64 0, .int .u64 0, .int .i64 0, .slice none 0 0] 207))
        generalize w.alloc (.cells #[.int .i64 0, .int .i64 0, .int .u64 0, .int .i64 0, .slice none 0 0] 207) = w0 at Q0 B0 ⊢
        obtain ⟨r6, hr6⟩ : ∃ r6, w.heap.size = r6 := ⟨_, rfl⟩
        have HR6 := Lib.hid hr6
        rw [hr6] at Q0 ⊢
        clear hr6
        have BX := B0
        have QX := Q0
        go_wp2_with (first
          | (go_at_call 169; (with_reducible refine Calls.mono (HN.out _) ?_); rintro e w8 ⟨rfl, rfl⟩)
          | (go_at_call 168; (with_reducible refine Calls.mono (none_any _) ?_); rintro e w9 ⟨hb9, rfl⟩; have B9 : Hid (Below w.heap.size w w9) := BX.out.trans (hb9.mono BX.out.size); have Q9 : Hid (w9.heap[r6]? = some (.cells #[.int .i64 0, .int .i64 0, .int .u64 0, .int .i64 0, .slice none 0 0] 207 (0, 0))) := (hb9.block r6 (Array.getElem?_eq_some_iff.1 QX.out).1).trans QX.out; clear hb9)
          | (with_reducible refine wpList_store_row rfl 207 (.tmp 6) (.tmp 66) rfl r6 #[.int .i64 (-1), .int .i64 0, .int .u64 0, .int .i64 0, .slice none 0 0] rfl rfl 207 #[.int .i64 0, .int .i64 0, .int .u64 0, .int .i64 0, .slice none 0 0] Q9.out (info5c _ _ _ _ _) (size5c _ _ _ _ _ _ _ _ _ _) (one5c _ _ _ _ _ _ _) ?_))
        have hl := run_loadVar_row (P := Tryz.prog) (w9.setRow r6 #[.int .i64 (-1), .int .i64 0, .int .u64 0, .int .i64 0, .slice none 0 0]) r6 207 207 #[.int .i64 (-1), .int .i64 0, .int .u64 0, .int .i64 0, .slice none 0 0] (0, 0) _ (setRow_heap w9 r6 _ _ 207 _ Q9.out) Tryz.underlying207 rfl (info5c _ _ _ _ _)
        exact bodyPost_ret (results_cell1 Tryz.results127 _ _ _ rfl hl) rfl ⟨below_setRow B9.out (by have := HR6.out; omega) _, fun _ => ⟨_, _, _, _, _, _, rfl⟩, fun x rest h => by cases h⟩
end Go.Proofs.YtbdimlppnhcicaaGreatDoor
