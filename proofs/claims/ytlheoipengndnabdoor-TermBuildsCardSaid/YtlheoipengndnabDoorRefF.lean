/- term, the document's: read of texts. -/
import Derived.Test.YtlheoipengndnabDoorRefE
namespace Go.Proofs.YtlheoipengndnabDoor
set_option linter.unusedVariables false
open Go.RowKit
theorem num_drop {E : UInt8} {s : ByteArray} {a n : Nat} {r : List UInt8} (h : num E (s.data.toList.drop a) = some (n, r)) : r.length ≤ s.size ∧ s.data.toList.drop (s.size - r.length) = r := by
  obtain ⟨c, hc, _⟩ := num_front E _ _ _ h
  have h1 := congrArg List.length hc
  rw [drop_len, List.length_append] at h1
  refine ⟨by omega, ?_⟩
  have h2 : s.data.toList.drop (a + c.length) = r := by rw [← List.drop_drop, hc, List.drop_left]
  by_cases h0 : r = []
  · subst h0; exact drop_nil s _ (by simp)
  · have : 0 < r.length := List.length_pos_iff.2 h0
    rw [show s.size - r.length = a + c.length by omega]; exact h2
set_option maxRecDepth 100000 in
set_option maxHeartbeats 4000000 in
theorem rread_text (at_ R : Nat) (s : ByteArray) (w : World) (h : at_ < s.size) (hs : s.size ≤ 16384) (hR : R ≤ 63) (hc : s[at_] = 116) : Calls Tryd.prog 45 #[.string s, .int .i64 at_, .int .i64 ((R : Int) + 1)] w (CutPost s (parse (R + 1) (s.data.toList.drop at_)) w) := by
  have hi : (at_ : Int) < (s.size : Int) := by omega
  have q2 : ((R : Int) + 1 == 0) = false := beq_eq_false_iff_ne.mpr (by omega)
  have HN := fun W => Lib.hid (rnumber_any s (at_ + 1) 58 58 rfl (by decide) W (by omega) (by omega))
  have hdrop := drop_cons s at_ h
  rw [hc] at hdrop
  have HP := Lib.hid (parse_rest R 116 (s.data.toList.drop (at_ + 1)))
  rw [hdrop]
  have hnd := fun n r => num_drop (E := 58) (s := s) (a := at_ + 1) (n := n) (r := r)
  obtain ⟨rr, hrr⟩ : ∃ rr, s.data.toList.drop (at_ + 1) = rr := ⟨_, rfl⟩
  rw [hrr] at HP HN hnd ⊢
  obtain ⟨po, hpo⟩ : ∃ po, parse (R + 1) (116 :: rr) = po := ⟨_, rfl⟩
  rw [hpo] at HP ⊢
  have hc110 : ((s[at_].toNat : Nat) : Int) = 116 := by rw [hc]; rfl
  clear hdrop hrr hpo
  cases ho : num 58 rr with
  | none =>
    rw [ho] at HN
    obtain rfl : po = none := by have := HP.out; simpa [restP, textO, ho] using this
    have HN : Hid (∀ W, Calls Tryd.prog 52 #[.string s, .int .i64 ((at_ : Int) + 1), .int .u8 58] W fun e w' => W = w' ∧ e = .returned (.tuple #[.int .u64 0, .int .i64 (-1)])) := HN
    clear ho hnd
    go_enter Tryd.func45, Tryd.ntmps45
    go_upto_region 1 with fail
    have Q0 := Lib.hid (heap_alloc_at w (.cells #[.int .i64 0, .int .i64 0, .int .u64 0, .int .i64 0, .slice none 0 0] 70))
    have B0 := Lib.hid (below_new' w (.cells #[.int .i64 0, .int .i64 0, .int .u64 0, .int .i64 0, .slice none 0 0] 70))
    generalize w.alloc (.cells #[.int .i64 0, .int .i64 0, .int .u64 0, .int .i64 0, .slice none 0 0] 70) = w0 at Q0 B0 ⊢
    obtain ⟨r6, hr6⟩ : ∃ r6, w.heap.size = r6 := ⟨_, rfl⟩
    have HR6 := Lib.hid hr6
    rw [hr6] at Q0 ⊢
    clear hr6
    have BX := B0
    have QX := Q0
    go_wp2_with (first
      | (go_at_call 52; (with_reducible refine Calls.mono (HN.out _) ?_); rintro e w8 ⟨rfl, rfl⟩)
      | (go_at_call 51; (with_reducible refine Calls.mono (none_any _) ?_); rintro e w9 ⟨hb9, rfl⟩; have B9 : Hid (Below w.heap.size w w9) := BX.out.trans (hb9.mono BX.out.size); have Q9 : Hid (w9.heap[r6]? = some (.cells #[.int .i64 0, .int .i64 0, .int .u64 0, .int .i64 0, .slice none 0 0] 70 (0, 0))) := (hb9.block r6 (Array.getElem?_eq_some_iff.1 QX.out).1).trans QX.out; clear hb9)
      | (with_reducible refine wpList_store_row rfl 70 (.tmp 6) (.tmp 66) rfl r6 #[.int .i64 (-1), .int .i64 0, .int .u64 0, .int .i64 0, .slice none 0 0] rfl rfl 70 #[.int .i64 0, .int .i64 0, .int .u64 0, .int .i64 0, .slice none 0 0] Q9.out (info5c _ _ _ _ _) (size5c _ _ _ _ _ _ _ _ _ _) (one5c _ _ _ _ _ _ _) ?_))
    have hl := run_loadVar_row (P := Tryd.prog) (w9.setRow r6 #[.int .i64 (-1), .int .i64 0, .int .u64 0, .int .i64 0, .slice none 0 0]) r6 70 70 #[.int .i64 (-1), .int .i64 0, .int .u64 0, .int .i64 0, .slice none 0 0] (0, 0) _ (setRow_heap w9 r6 _ _ 70 _ Q9.out) Tryd.underlying70 rfl (info5c _ _ _ _ _)
    exact bodyPost_ret (results_cell1 Tryd.results45 _ _ _ rfl hl) rfl ⟨below_setRow B9.out (by have := HR6.out; omega) _, fun _ => ⟨_, _, _, _, _, _, rfl⟩, fun x rest h => by cases h⟩
  | some y0 =>
    obtain ⟨n, r⟩ := y0
    rw [ho] at HN
    obtain ⟨hrl, hrd⟩ := hnd n r ho
    have HRD := Lib.hid hrd
    have HN : Hid (∀ W, Calls Tryd.prog 52 #[.string s, .int .i64 ((at_ : Int) + 1), .int .u8 58] W fun e w' => W = w' ∧ e = .returned (.tuple #[.int .u64 n, .int .i64 ((s.size - r.length : Nat) : Int)])) := HN
    obtain ⟨en, hen⟩ : ∃ en : Int, ((s.size - r.length : Nat) : Int) = en := ⟨_, rfl⟩
    obtain ⟨y, hy⟩ : ∃ y : Int, (n : Int) = y := ⟨_, rfl⟩
    have HEN := Lib.hid hen
    have HY := Lib.hid hy
    rw [hen, hy] at HN
    have hy0 : 0 ≤ y := by omega
    have hyb : y ≤ 9223372036854775807 := by
      have := num_front 58 rr n r ho
      have h1 : n ≤ 9223372036854775807 := by
        cases rr with
        | nil => simp [num] at ho
        | cons c l =>
          simp only [num] at ho
          split at ho
          · exact numTail_le 58 l _ n r (by have := c.toNat_lt; omega) ho
          · cases ho
      omega
    have hen0 : 0 ≤ en := by omega
    have hen1 : en ≤ (s.size : Int) := by omega
    have hen2 : ¬ en < 0 := by omega
    obtain ⟨z, hz⟩ : ∃ z : Int, (s.size : Int) = z := ⟨_, rfl⟩
    have hzb : z ≤ 16384 := by omega
    have hzr : z - en = (r.length : Int) := by omega
    have HZR := Lib.hid hzr
    rw [hz] at hi hen1
    clear hen hy hnd hrd hzr
    by_cases h1 : n ≤ 4096 ∧ n ≤ r.length
    · obtain rfl : po = some (⟨116, 0, r.take n, [], 1⟩, r.drop n) := by have := HP.out; simpa [restP, textO, ho, fitsB, h1] using this
      have g1 : ¬ 4096 < y := by have := HY.out; omega
      have g2 : ¬ z - en < y := by have := HY.out; have := HZR.out; omega
      have g3 : y ≤ z - en := by omega
      have g4 : y ≤ 4096 := by omega
      have HH := Lib.hid h1
      clear ho h1
      go_enter Tryd.func45, Tryd.ntmps45
      go_upto_region 1 with fail
      have Q0 := Lib.hid (heap_alloc_at w (.cells #[.int .i64 0, .int .i64 0, .int .u64 0, .int .i64 0, .slice none 0 0] 70))
      have B0 := Lib.hid (below_new' w (.cells #[.int .i64 0, .int .i64 0, .int .u64 0, .int .i64 0, .slice none 0 0] 70))
      generalize w.alloc (.cells #[.int .i64 0, .int .i64 0, .int .u64 0, .int .i64 0, .slice none 0 0] 70) = w0 at Q0 B0 ⊢
      obtain ⟨r6, hr6⟩ : ∃ r6, w.heap.size = r6 := ⟨_, rfl⟩
      have HR6 := Lib.hid hr6
      rw [hr6] at Q0 ⊢
      clear hr6
      have BX := B0
      have QX := Q0
      go_wp2_with (first
        | (go_at_call 52; (with_reducible refine Calls.mono (HN.out _) ?_); rintro e w8 ⟨rfl, rfl⟩)
        | (with_reducible refine wpList_store_row rfl 70 (.tmp 6) (.tmp 73) rfl r6 #[.int .i64 (en + y), .int .i64 1, .int .u64 y, .int .i64 en, .slice none 0 0] rfl rfl 70 #[.int .i64 0, .int .i64 0, .int .u64 0, .int .i64 0, .slice none 0 0] Q0.out (info5c _ _ _ _ _) (size5c _ _ _ _ _ _ _ _ _ _) (one5c _ _ _ _ _ _ _) ?_))
      have hl := run_loadVar_row (P := Tryd.prog) (w0.setRow r6 #[.int .i64 (en + y), .int .i64 1, .int .u64 y, .int .i64 en, .slice none 0 0]) r6 70 70 #[.int .i64 (en + y), .int .i64 1, .int .u64 y, .int .i64 en, .slice none 0 0] (0, 0) _ (setRow_heap w0 r6 _ _ 70 _ Q0.out) Tryd.underlying70 rfl (info5c _ _ _ _ _)
      refine bodyPost_ret (results_cell1 Tryd.results45 _ _ _ rfl hl) rfl ⟨below_setRow B0.out (by have := HR6.out; omega) _, (fun h => by cases h), fun x rest h => ?_⟩
      cases h
      have e1 := HEN.out
      have e2 := HY.out
      have e3 := HH.out
      refine ⟨n, s.size - r.length, none, 0, 0, ?_, (fun h => by cases h), fun _ => ⟨?_, ?_⟩, .inl ⟨rfl, rfl⟩⟩
      · rw [HEN.out, HY.out, show ((s.size - (r.drop n).length : Nat) : Int) = en + y by rw [List.length_drop]; omega]
        rfl
      · rw [List.length_drop]; omega
      · rw [HRD.out, List.length_drop, show s.size - (r.length - n) - (s.size - r.length) = n by omega]
    · obtain rfl : po = none := by have := HP.out; simpa [restP, textO, ho, h1] using this
      by_cases g1 : 4096 < y
      · clear ho h1
        go_enter Tryd.func45, Tryd.ntmps45
        go_upto_region 1 with fail
        have Q0 := Lib.hid (heap_alloc_at w (.cells #[.int .i64 0, .int .i64 0, .int .u64 0, .int .i64 0, .slice none 0 0] 70))
        have B0 := Lib.hid (below_new' w (.cells #[.int .i64 0, .int .i64 0, .int .u64 0, .int .i64 0, .slice none 0 0] 70))
        generalize w.alloc (.cells #[.int .i64 0, .int .i64 0, .int .u64 0, .int .i64 0, .slice none 0 0] 70) = w0 at Q0 B0 ⊢
        obtain ⟨r6, hr6⟩ : ∃ r6, w.heap.size = r6 := ⟨_, rfl⟩
        have HR6 := Lib.hid hr6
        rw [hr6] at Q0 ⊢
        clear hr6
        have BX := B0
        have QX := Q0
        go_wp2_with (first
          | (go_at_call 52; (with_reducible refine Calls.mono (HN.out _) ?_); rintro e w8 ⟨rfl, rfl⟩)
          | (go_at_call 51; (with_reducible refine Calls.mono (none_any _) ?_); rintro e w9 ⟨hb9, rfl⟩; have B9 : Hid (Below w.heap.size w w9) := BX.out.trans (hb9.mono BX.out.size); have Q9 : Hid (w9.heap[r6]? = some (.cells #[.int .i64 0, .int .i64 0, .int .u64 0, .int .i64 0, .slice none 0 0] 70 (0, 0))) := (hb9.block r6 (Array.getElem?_eq_some_iff.1 QX.out).1).trans QX.out; clear hb9)
          | (with_reducible refine wpList_store_row rfl 70 (.tmp 6) (.tmp 66) rfl r6 #[.int .i64 (-1), .int .i64 0, .int .u64 0, .int .i64 0, .slice none 0 0] rfl rfl 70 #[.int .i64 0, .int .i64 0, .int .u64 0, .int .i64 0, .slice none 0 0] Q9.out (info5c _ _ _ _ _) (size5c _ _ _ _ _ _ _ _ _ _) (one5c _ _ _ _ _ _ _) ?_))
        have hl := run_loadVar_row (P := Tryd.prog) (w9.setRow r6 #[.int .i64 (-1), .int .i64 0, .int .u64 0, .int .i64 0, .slice none 0 0]) r6 70 70 #[.int .i64 (-1), .int .i64 0, .int .u64 0, .int .i64 0, .slice none 0 0] (0, 0) _ (setRow_heap w9 r6 _ _ 70 _ Q9.out) Tryd.underlying70 rfl (info5c _ _ _ _ _)
        exact bodyPost_ret (results_cell1 Tryd.results45 _ _ _ rfl hl) rfl ⟨below_setRow B9.out (by have := HR6.out; omega) _, fun _ => ⟨_, _, _, _, _, _, rfl⟩, fun x rest h => by cases h⟩
      · have g2 : z - en < y := by have := HY.out; have := HZR.out; omega
        have g4 : y ≤ 4096 := by omega
        clear ho h1
        go_enter Tryd.func45, Tryd.ntmps45
        go_upto_region 1 with fail
        have Q0 := Lib.hid (heap_alloc_at w (.cells #[.int .i64 0, .int .i64 0, .int .u64 0, .int .i64 0, .slice none 0 0] 70))
        have B0 := Lib.hid (below_new' w (.cells #[.int .i64 0, .int .i64 0, .int .u64 0, .int .i64 0, .slice none 0 0] 70))
        generalize w.alloc (.cells #[.int .i64 0, .int .i64 0, .int .u64 0, .int .i64 0, .slice none 0 0] 70) = w0 at Q0 B0 ⊢
        obtain ⟨r6, hr6⟩ : ∃ r6, w.heap.size = r6 := ⟨_, rfl⟩
        have HR6 := Lib.hid hr6
        rw [hr6] at Q0 ⊢
        clear hr6
        have BX := B0
        have QX := Q0
        go_wp2_with (first
          | (go_at_call 52; (with_reducible refine Calls.mono (HN.out _) ?_); rintro e w8 ⟨rfl, rfl⟩)
          | (go_at_call 51; (with_reducible refine Calls.mono (none_any _) ?_); rintro e w9 ⟨hb9, rfl⟩; have B9 : Hid (Below w.heap.size w w9) := BX.out.trans (hb9.mono BX.out.size); have Q9 : Hid (w9.heap[r6]? = some (.cells #[.int .i64 0, .int .i64 0, .int .u64 0, .int .i64 0, .slice none 0 0] 70 (0, 0))) := (hb9.block r6 (Array.getElem?_eq_some_iff.1 QX.out).1).trans QX.out; clear hb9)
          | (with_reducible refine wpList_store_row rfl 70 (.tmp 6) (.tmp 66) rfl r6 #[.int .i64 (-1), .int .i64 0, .int .u64 0, .int .i64 0, .slice none 0 0] rfl rfl 70 #[.int .i64 0, .int .i64 0, .int .u64 0, .int .i64 0, .slice none 0 0] Q9.out (info5c _ _ _ _ _) (size5c _ _ _ _ _ _ _ _ _ _) (one5c _ _ _ _ _ _ _) ?_))
        have hl := run_loadVar_row (P := Tryd.prog) (w9.setRow r6 #[.int .i64 (-1), .int .i64 0, .int .u64 0, .int .i64 0, .slice none 0 0]) r6 70 70 #[.int .i64 (-1), .int .i64 0, .int .u64 0, .int .i64 0, .slice none 0 0] (0, 0) _ (setRow_heap w9 r6 _ _ 70 _ Q9.out) Tryd.underlying70 rfl (info5c _ _ _ _ _)
        exact bodyPost_ret (results_cell1 Tryd.results45 _ _ _ rfl hl) rfl ⟨below_setRow B9.out (by have := HR6.out; omega) _, fun _ => ⟨_, _, _, _, _, _, rfl⟩, fun x rest h => by cases h⟩
end Go.Proofs.YtlheoipengndnabDoor
