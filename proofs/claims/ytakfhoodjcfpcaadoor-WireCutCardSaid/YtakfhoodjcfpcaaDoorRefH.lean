/- term, the document's: read is parse; Right, Size, Deep. -/
import Derived.Test.YtakfhoodjcfpcaaDoorRefG
namespace Go.Proofs.YtakfhoodjcfpcaaDoor
set_option linter.unusedVariables false
open Go.RowKit
set_option maxRecDepth 100000 in
set_option maxHeartbeats 4000000 in
theorem rread_bad (at_ R : Nat) (s : ByteArray) (w : World) (h : at_ < s.size) (hs : s.size ≤ 16384) (hR : R ≤ 63) (c : UInt8) (hc : s[at_] = c) (C110 : c ≠ 110) (C116 : c ≠ 116) (C84 : c ≠ 84) (hk : arity c = none) :
    Calls Tryd.prog 62 #[.string s, .int .i64 at_, .int .i64 ((R : Int) + 1)] w (CutPost s none w) := by
  have hi : (at_ : Int) < (s.size : Int) := by omega
  have q2 : ((R : Int) + 1 == 0) = false := beq_eq_false_iff_ne.mpr (by omega)
  have HPARTS := fun W => Lib.hid (parts_any W c)
  have hpi : partsI c = -1 := by unfold partsI; rw [hk]
  rw [hpi] at HPARTS
  obtain ⟨x, hx⟩ : ∃ x : Int, (c.toNat : Int) = x := ⟨_, rfl⟩
  have ne : ∀ k : UInt8, c ≠ k → (c.toNat : Int) ≠ (k.toNat : Int) := fun k h h' => h (UInt8.toNat_inj.mp (by omega))
  have b110 : (x == 110) = false := beq_eq_false_iff_ne.mpr (by rw [← hx]; exact ne 110 C110)
  have b116 : (x == 116) = false := beq_eq_false_iff_ne.mpr (by rw [← hx]; exact ne 116 C116)
  have b84 : (x == 84) = false := beq_eq_false_iff_ne.mpr (by rw [← hx]; exact ne 84 C84)
  rw [hx] at HPARTS
  clear ne hpi hk
  go_enter Tryd.func62, Tryd.ntmps62
  go_upto_region 1 with fail
  have Q0 := Lib.hid (heap_alloc_at w (.cells #[.int .i64 0, .int .i64 0, .int .u64 0, .int .i64 0, .slice none 0 0] 110))
  have B0 := Lib.hid (below_new' w (.cells #[.int .i64 0, .int .i64 0, .int .u64 0, .int .i64 0, .slice none 0 0] 110))
  generalize w.alloc (.cells #[.int .i64 0, .int .i64 0, .int .u64 0, .int .i64 0, .slice none 0 0] 110) = w0 at Q0 B0 ⊢
  obtain ⟨r6, hr6⟩ : ∃ r6, w.heap.size = r6 := ⟨_, rfl⟩
  have HR6 := Lib.hid hr6
  rw [hr6] at Q0 ⊢
  clear hr6
  go_wp2_with (first
    | (go_at_call 68; (with_reducible refine Calls.mono (HPARTS _).out ?_); rintro e w9 ⟨rfl, rfl⟩)
    | (go_at_call 66; (with_reducible refine Calls.mono (none_any _) ?_); rintro e w9 ⟨hb9, rfl⟩; have B9 : Hid (Below w.heap.size w w9) := B0.out.trans (hb9.mono B0.out.size); have Q9 : Hid (w9.heap[r6]? = some (.cells #[.int .i64 0, .int .i64 0, .int .u64 0, .int .i64 0, .slice none 0 0] 110 (0, 0))) := (hb9.block r6 (Array.getElem?_eq_some_iff.1 Q0.out).1).trans Q0.out; clear hb9)
    | (with_reducible refine wpList_store_row rfl 110 (.tmp 6) (.tmp 103) rfl r6 #[.int .i64 (-1), .int .i64 0, .int .u64 0, .int .i64 0, .slice none 0 0] rfl rfl 110 #[.int .i64 0, .int .i64 0, .int .u64 0, .int .i64 0, .slice none 0 0] Q9.out (info5c _ _ _ _ _) (size5c _ _ _ _ _ _ _ _ _ _) (one5c _ _ _ _ _ _ _) ?_))
  have hl := run_loadVar_row (P := Tryd.prog) (w9.setRow r6 #[.int .i64 (-1), .int .i64 0, .int .u64 0, .int .i64 0, .slice none 0 0]) r6 110 110 #[.int .i64 (-1), .int .i64 0, .int .u64 0, .int .i64 0, .slice none 0 0] (0, 0) _ (setRow_heap w9 r6 _ _ 110 _ Q9.out) Tryd.underlying110 rfl (info5c _ _ _ _ _)
  exact bodyPost_ret (results_cell1 Tryd.results62 _ _ _ rfl hl) rfl ⟨below_setRow B9.out (by have := HR6.out; omega) _, fun _ => ⟨_, _, _, _, _, _, rfl⟩, fun x rest h => by cases h⟩
theorem field_0 (a b c d : Int) (o : Option Addr) (m k : Nat) (w : World) : (Instr.field 110 (.agg #[.int .i64 a, .int .i64 b, .int .u64 c, .int .i64 d, .slice o m k]) 0).run Tryd.prog w = .ok (.int .i64 a) w := by kernel_rfl
theorem field_1 (a b c d : Int) (o : Option Addr) (m k : Nat) (w : World) : (Instr.field 110 (.agg #[.int .i64 a, .int .i64 b, .int .u64 c, .int .i64 d, .slice o m k]) 1).run Tryd.prog w = .ok (.int .i64 b) w := by kernel_rfl
attribute [local go_sem] field_0 field_1
theorem rest_bad {c : UInt8} (C110 : c ≠ 110) (C116 : c ≠ 116) (C84 : c ≠ 84) (hk : arity c = none) (R : Nat) (r : List UInt8) : restP R c r = none := by
  unfold restP
  rw [if_neg C110, if_neg C116, if_neg C84, hk]
/-- the document's read is parse -/
theorem rread_any (s : ByteArray) (hs : s.size ≤ 16384) : ∀ R : Nat, R ≤ 64 → ∀ (a : Nat) (W : World), a ≤ s.size → Calls Tryd.prog 62 #[.string s, .int .i64 a, .int .i64 R] W (CutPost s (parse R (s.data.toList.drop a)) W)
  | 0, _ => fun a W ha => by
    rw [show parse 0 (s.data.toList.drop a) = none from rfl]
    rcases Nat.lt_or_ge a s.size with h | h
    · exact rread_room a s W h hs
    · exact rread_end a 0 s W h (by omega) hs
  | R + 1, hR64 => fun a W ha => by
    have hT := rread_any s hs R (by omega)
    rcases Nat.lt_or_ge a s.size with h | h
    · by_cases C110 : s[a] = 110
      · exact rread_name a R s W h hs (by omega) C110
      by_cases C116 : s[a] = 116
      · exact rread_text a R s W h hs (by omega) C116
      by_cases C84 : s[a] = 84
      · exact rread_tuple a R s W h hs (by omega) _ rfl C84 hT
      cases hk : arity s[a] with
      | none =>
        rw [drop_cons s a h, parse_rest, rest_bad C110 C116 C84 hk]
        exact rread_bad a R s W h hs (by omega) _ rfl C110 C116 C84 hk
      | some k => exact rread_parts a R k s W h hs (by omega) _ rfl C110 C116 C84 hk hT
    · rw [drop_nil s a h, parse_nil]
      exact rread_end a (R + 1) s W h (by omega) hs
theorem rread_top (s : ByteArray) (hs : s.size ≤ 16384) (W : World) : Calls Tryd.prog 62 #[.string s, .int .i64 0, .int .i64 64] W (CutPost s (parse 64 s.data.toList) W) := rread_any s hs 64 (Nat.le_refl _) 0 W (Nat.zero_le _)
def topP : Option (Sh × List UInt8) → Option Sh
  | none => none
  | some (x, r) => if r = [] then some x else none
theorem readP_short {l : List UInt8} (h : l.length ≤ 16384) : readP l = topP (parse 64 l) := by
  unfold readP
  rw [if_pos h]
  cases parse 64 l with
  | none => rfl
  | some y =>
    obtain ⟨x, r⟩ := y
    cases r <;> rfl
set_option maxRecDepth 100000 in
set_option maxHeartbeats 2000000 in
theorem rright_any (t : ByteArray) (w : World) (hm : t.size ≤ maxLen) : Calls Tryd.prog 48 #[.string t] w fun e w' => e = .returned (.bool (rightB t.data.toList)) ∧ Below w.heap.size w w' := by
  unfold maxLen at hm
  rcases Nat.lt_or_ge 16384 t.size with h | h
  · have e : rightB t.data.toList = false := by unfold rightB readP; rw [if_neg (by rw [list_size]; omega)]; rfl
    rw [e]
    have hi : ¬ (t.size : Int) ≤ 16384 := by omega
    go_enter Tryd.func48, Tryd.ntmps48
    go_wp2
    go_ret
    exact ⟨rfl, Below.refl _ _⟩
  · have hi : (t.size : Int) ≤ 16384 := by omega
    have HC := Lib.hid (rread_top t h w)
    have HRB := readP_short (l := t.data.toList) (by rw [list_size]; exact h)
    obtain ⟨rb, hrb⟩ : ∃ rb, rightB t.data.toList = rb := ⟨_, rfl⟩
    rw [hrb]
    unfold rightB at hrb
    rw [HRB] at hrb
    cases hp : parse 64 t.data.toList with
    | none =>
      rw [hp] at HC hrb
      obtain rfl : false = rb := (by simpa [topP] using hrb)
      have hne : ((-1 : Int) == (t.size : Int)) = false := beq_eq_false_iff_ne.mpr (by omega)
      clear hp HRB
      go_enter Tryd.func48, Tryd.ntmps48
      go_wp2_with (go_at_call 62; (with_reducible refine Calls.mono HC.out ?_); rintro e w1 ⟨hb, hno, _⟩; obtain ⟨d, n, f, ko, km, kc, rfl⟩ := hno rfl; have B1 := Lib.hid hb; clear hb hno)
      go_ret
      exact ⟨rfl, B1.out⟩
    | some y =>
      obtain ⟨x, rest⟩ := y
      rw [hp] at HC hrb
      obtain ⟨hr1, _, _⟩ := parse_drop (R := 64) (s := t) (a := 0) (x := x) (r := rest) hp
      obtain ⟨en, hen⟩ : ∃ en : Int, ((t.size - rest.length : Nat) : Int) = en := ⟨_, rfl⟩
      have HEN := Lib.hid hen
      cases rest with
      | nil =>
        obtain rfl : true = rb := (by simpa [topP] using hrb)
        have hne : (en == (t.size : Int)) = true := by rw [beq_iff_eq, ← hen]; simp
        clear hp HRB hen
        go_enter Tryd.func48, Tryd.ntmps48
        go_wp2_with (go_at_call 62; (with_reducible refine Calls.mono HC.out ?_); rintro e w1 ⟨hb, _, hyes⟩; obtain ⟨n, f, ko, km, kc, rfl, _⟩ := hyes x _ rfl; (rw [HEN.out]); have B1 := Lib.hid hb; clear hb hyes)
        go_ret
        exact ⟨rfl, B1.out⟩
      | cons c r =>
        obtain rfl : false = rb := (by simpa [topP] using hrb)
        have hne : (en == (t.size : Int)) = false := beq_eq_false_iff_ne.mpr (by rw [← hen]; simp only [List.length_cons] at hr1 ⊢; omega)
        clear hp HRB hen
        go_enter Tryd.func48, Tryd.ntmps48
        go_wp2_with (go_at_call 62; (with_reducible refine Calls.mono HC.out ?_); rintro e w1 ⟨hb, _, hyes⟩; obtain ⟨n, f, ko, km, kc, rfl, _⟩ := hyes x _ rfl; (rw [HEN.out]); have B1 := Lib.hid hb; clear hb hyes)
        go_ret
        exact ⟨rfl, B1.out⟩
theorem right_parse {l : List UInt8} (h : rightB l = true) : ∃ x, readP l = some x ∧ l.length ≤ 16384 ∧ parse 64 l = some (x, []) := by
  unfold rightB at h
  cases hr : readP l with
  | none => rw [hr] at h; cases h
  | some x =>
    unfold readP at hr
    split at hr
    · rename_i hl
      split at hr
      · rename_i x' hp
        cases hr
        exact ⟨x, rfl, hl, hp⟩
      · cases hr
    · cases hr
end Go.Proofs.YtakfhoodjcfpcaaDoor
