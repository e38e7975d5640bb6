/- term: TermBack. -/
import Derived.Test.YtlheoipengndnabGreatDoorWa
import Derived.Test.YtlheoipengndnabGreatDoorPlainD
import Derived.Test.YtlheoipengndnabGreatDoorBa
import Derived.Test.YtlheoipengndnabGreatDoorLater
import Derived.Deep.CutRange
namespace Go.Proofs.YtlheoipengndnabGreatDoor
set_option linter.unusedVariables false
open Go.RowKit
/-- what each op makes of two right terms: a term that opens as those, or nothing -/
def MadeP (op : UInt8) (a b s : ByteArray) (z : Int) : Prop :=
  (z = 0 ∧ readP s.data.toList = some ⟨op, 0, [], [a.data.toList, b.data.toList], max (deepN a.data.toList + 1) (max (deepN b.data.toList + 1) 1)⟩) ∨ (z = 3 ∧ s = ⟨#[]⟩)
theorem madeP_two {op : UInt8} {a b : ByteArray} (har : arity op = some 2) (ha : rt a = true) (hb : rt b = true) : ∃ s z, buildV ⟨#[op]⟩ [a, b] = .tuple #[.string s, .int .i64 z] ∧ MadeP op a b s z := by
  rw [buildV_right (by intro v hv; simp at hv; rcases hv with rfl | rfl <;> assumption)]
  cases hr : rt ⟨(buildL ⟨#[op]⟩ [a, b]).toArray⟩ with
  | true =>
    refine ⟨_, _, wholeV_yes hr, .inl ⟨rfl, ?_⟩⟩
    unfold rt at hr
    rw [ba_list] at hr ⊢
    rw [buildL_two] at hr ⊢
    exact made_two har ha hb hr
  | false => exact ⟨_, _, wholeV_no hr, .inr ⟨rfl, rfl⟩⟩
theorem headS_two : headS 2 = ⟨#[84, 50, 58]⟩ := by
  unfold headS
  rw [show ((2 : Nat) : Int) = ((2 : Nat) : Int) from rfl, Lib.itoa_nonneg, Lib.decDigits_one (by omega)]
  rfl
theorem madeP_pair {a b : ByteArray} (ha : rt a = true) (hb : rt b = true) : ∃ s z, tupleV [a, b] = .tuple #[.string s, .int .i64 z] ∧ MadeP 84 a b s z := by
  unfold tupleV
  rw [if_neg (by simp)]
  rw [buildV_right (by intro v hv; simp at hv; rcases hv with rfl | rfl <;> assumption), show [a, b].length = 2 from rfl, headS_two]
  have e : buildL ⟨#[84, 50, 58]⟩ [a, b] = 84 :: 50 :: 58 :: (a.data.toList ++ b.data.toList) := by simp [buildL]
  rw [e]
  cases hr : rt ⟨(84 :: 50 :: 58 :: (a.data.toList ++ b.data.toList)).toArray⟩ with
  | true =>
    refine ⟨_, _, wholeV_yes hr, .inl ⟨rfl, ?_⟩⟩
    unfold rt at hr
    rw [ba_list] at hr ⊢
    exact made_pair ha hb hr
  | false => exact ⟨_, _, wholeV_no hr, .inr ⟨rfl, rfl⟩⟩
theorem madeP_ne {op op' : UInt8} {a b s s' : ByteArray} {z : Int} (h : MadeP op a b s z) (h' : MadeP op' a b s' 0) (hne : op ≠ op') : (s.toList == s'.toList) = false := by
  apply toList_ne
  intro e
  rcases h' with ⟨_, h'⟩ | ⟨h0, _⟩
  · obtain ⟨l', e'⟩ := read_head h'
    rcases h with ⟨_, h⟩ | ⟨_, h⟩
    · obtain ⟨l, e2⟩ := read_head h
      rw [e, e'] at e2
      exact hne (List.cons.inj e2).1.symm
    · rw [← e, h] at e'; simp at e'
  · simp at h0
theorem madeP_size {op : UInt8} {a b s : ByteArray} {z : Int} (h : MadeP op a b s z) : s.size ≤ 16384 := by
  rcases h with ⟨_, h⟩ | ⟨_, h⟩
  · rw [← list_size]; exact (read_parse h).2
  · rw [h]; exact Nat.zero_le _
def ops4 : List UInt8 := [68, 86, 66, 84]
theorem ops4_ne : ∀ (i k : Nat), i < 4 → k < i → ops4.getD k 0 ≠ ops4.getD i 0 := by
  intro i k hi hk
  match i, k, hi, hk with
  | 1, 0, _, _ => decide
  | 2, 0, _, _ => decide
  | 2, 1, _, _ => decide
  | 3, 0, _, _ => decide
  | 3, 1, _, _ => decide
  | 3, 2, _, _ => decide
theorem deepN_le (l : List UInt8) : deepN l ≤ 64 := by
  unfold deepN
  split
  · rename_i x hx
    exact (parse_deep 64 l x [] (read_parse hx).1).2.1
  · omega
theorem four_strs {w : World} {g : Nat} {t : TypeId} {s0 s1 s2 s3 : ByteArray} (h : w.heap[g]? = some (.cells #[.string s0, .string s1, .string s2, .string s3] t (0, 0))) :
    ∀ i, i < 4 → w.cell? ⟨g, i, none⟩ = some (.string ([s0, s1, s2, s3].getD i ⟨#[]⟩)) := by
  intro i hi
  rw [cell_of_row _ _ _ _ _ _ h]
  match i, hi with
  | 0, _ => rfl
  | 1, _ => rfl
  | 2, _ => rfl
  | 3, _ => rfl
theorem four_ints {w : World} {g : Nat} {t : TypeId} {s0 s1 s2 s3 : Int} (h : w.heap[g]? = some (.cells #[.int .i64 s0, .int .i64 s1, .int .i64 s2, .int .i64 s3] t (0, 0))) :
    ∀ i, i < 4 → w.cell? ⟨g, i, none⟩ = some (.int .i64 ([s0, s1, s2, s3].getD i 0)) := by
  intro i hi
  rw [cell_of_row _ _ _ _ _ _ h]
  match i, hi with
  | 0, _ => rfl
  | 1, _ => rfl
  | 2, _ => rfl
  | 3, _ => rfl
/-- a pair was opened -/
def PairPost (oz : Int) (a b : ByteArray) (w : World) (e : Ending) (w' : World) : Prop :=
  ∃ (u : ByteArray) (g kc : Nat), e = .returned (.tuple #[.agg #[.int .u8 oz, .int .i64 0, .string u, .slice (some ⟨g, 0, none⟩) 2 kc], .bool true]) ∧ Below w.heap.size w w' ∧ w'.cell? ⟨g, 0, none⟩ = some (.string a) ∧ w'.cell? ⟨g, 1, none⟩ = some (.string b)
theorem pair_post {op : UInt8} {a b : ByteArray} {d : Nat} {w w' : World} {e : Ending} (h : OpenPost (some ⟨op, 0, [], [a.data.toList, b.data.toList], d⟩) w e w') : PairPost (op.toNat : Int) a b w e w' := by
  obtain ⟨hb, _, hyes⟩ := h
  obtain ⟨u, ko, km, kc, rfl, _, hK⟩ := hyes _ rfl
  obtain ⟨k0, k1, g, cap', e0, e1, ev, c0, c1⟩ := two_kids hK rfl
  cases ev
  obtain rfl : k0 = a := ba_ext e0
  obtain rfl : k1 = b := ba_ext e1
  exact ⟨u, g, kc, rfl, hb, c0, c1⟩
theorem read_empty : readP (⟨#[]⟩ : ByteArray).data.toList = none := by rfl
theorem rt_of_read {s : ByteArray} {x : Sh} (h : readP s.data.toList = some x) : rightB s.data.toList = true := by unfold rightB; rw [h]; rfl
set_option maxRecDepth 100000 in
set_option maxHeartbeats 4000000 in
theorem back_no (a b : ByteArray) (w : World) (ha : a.size ≤ maxLen) (hb : b.size ≤ maxLen) (h : 20000 < a.size ∨ 20000 < b.size ∨ rt a = false ∨ rt b = false) (hL : LibOk w) (hT : Tab w) : Calls Tryz.prog 13 #[.string a, .string b] w fun e w' => e = .returned (.bool true) ∧ Below w.heap.size w w' := by
  have HA := Lib.hid (fun W (h : LibOk W) => right_any a W ha h)
  have HB := Lib.hid (fun W (h : LibOk W) => right_any b W hb h)
  have HW := Lib.hid (fun W (h : LibOk W) (k : Tab W) => works_any W h k)
  have HL := Lib.hid hL
  have HT := Lib.hid hT
  unfold rt at h
  unfold maxLen at ha hb
  clear hL hT
  by_cases h1 : (20000 : Int) < (a.size : Int)
  · clear h
    go_enter Tryz.func13, Tryz.ntmps13
    go_wp2_with (go_at_call 12; (with_reducible refine Calls.mono (HW.out _ HL.out HT.out) ?_); rintro e w3 ⟨rfl, hb⟩; have B3 : Hid (Below w.heap.size w w3) := hb; clear hb)
    go_ret
    exact ⟨rfl, B3.out⟩
  · by_cases h2 : (20000 : Int) < (b.size : Int)
    · clear h
      go_enter Tryz.func13, Tryz.ntmps13
      go_wp2_with (go_at_call 12; (with_reducible refine Calls.mono (HW.out _ HL.out HT.out) ?_); rintro e w3 ⟨rfl, hb⟩; have B3 : Hid (Below w.heap.size w w3) := hb; clear hb)
      go_ret
      exact ⟨rfl, B3.out⟩
    · cases hr : rightB a.data.toList with
      | false =>
        rw [hr] at HA
        clear h hr
        go_enter Tryz.func13, Tryz.ntmps13
        go_wp2_with (first
          | (go_at_call 6; (with_reducible refine Calls.mono (HA.out _ HL.out) ?_); rintro e w1 ⟨rfl, hb⟩; have B1 : Hid (Below w.heap.size w w1) := hb; have L1 := Lib.hid (HL.out.below B1.out); have T1 := Lib.hid (HT.out.below B1.out); clear hb)
          | (go_at_call 12; (with_reducible refine Calls.mono (HW.out _ L1.out T1.out) ?_); rintro e w3 ⟨rfl, hb⟩; have B3 : Hid (Below w.heap.size w w3) := B1.out.trans (hb.mono B1.out.size); clear hb))
        go_ret
        exact ⟨rfl, B3.out⟩
      | true =>
        have hr2 : rightB b.data.toList = false := by
          rcases h with h | h | h | h
          · omega
          · omega
          · rw [hr] at h; cases h
          · exact h
        rw [hr] at HA
        rw [hr2] at HB
        clear h hr hr2
        go_enter Tryz.func13, Tryz.ntmps13
        go_wp2_with (first
          | (have hq := B1; (go_at_call 6; (with_reducible refine Calls.mono (HB.out _ L1.out) ?_); rintro e w2 ⟨rfl, hb⟩; have B2 : Hid (Below w.heap.size w w2) := B1.out.trans (hb.mono B1.out.size); have L2 := Lib.hid (HL.out.below B2.out); have T2 := Lib.hid (HT.out.below B2.out); clear hb hq))
          | (go_at_call 6; (with_reducible refine Calls.mono (HA.out _ HL.out) ?_); rintro e w1 ⟨rfl, hb⟩; have B1 : Hid (Below w.heap.size w w1) := hb; have L1 := Lib.hid (HL.out.below B1.out); clear hb)
          | (go_at_call 12; (with_reducible refine Calls.mono (HW.out _ L2.out T2.out) ?_); rintro e w3 ⟨rfl, hb⟩; have B3 : Hid (Below w.heap.size w w3) := B2.out.trans (hb.mono B2.out.size); clear hb))
        go_ret
        exact ⟨rfl, B3.out⟩
set_option maxRecDepth 100000 in
set_option maxHeartbeats 8000000 in
theorem back_ok (a b : ByteArray) (w : World) (ha : a.size ≤ 20000) (hb : b.size ≤ 20000) (ra : rt a = true) (rb : rt b = true) (hL : LibOk w) (hT : Tab w) : Calls Tryz.prog 13 #[.string a, .string b] w fun e w' => e = .returned (.bool true) ∧ Below w.heap.size w w' := by
  have hi1 : ¬ (20000 : Int) < (a.size : Int) := by omega
  have hi2 : ¬ (20000 : Int) < (b.size : Int) := by omega
  have ham : a.size ≤ maxLen := by unfold maxLen; omega
  have hbm : b.size ≤ maxLen := by unfold maxLen; omega
  have HA := Lib.hid (fun W (h : LibOk W) => right_any a W ham h)
  have HB := Lib.hid (fun W (h : LibOk W) => right_any b W hbm h)
  rw [show rightB a.data.toList = true from ra] at HA
  rw [show rightB b.data.toList = true from rb] at HB
  have HDA := Lib.hid (fun W (h : LibOk W) => deep_any a W ham h)
  have HDB := Lib.hid (fun W (h : LibOk W) => deep_any b W hbm h)
  have HW := Lib.hid (fun W (h : LibOk W) (k : Tab W) => works_any W h k)
  have C0 := Lib.hid (fun W (h : LibOk W) => child_any a b W ham hbm h)
  have C1 := Lib.hid (fun W (h : LibOk W) => join_any a b W ham hbm h)
  have C2 := Lib.hid (fun W (h : LibOk W) => box_any a b W ham hbm h)
  have C3 : Hid (∀ W, LibOk W → Tab W → Calls Tryz.prog 44 #[.slice (some ⟨W.heap.size, 0, none⟩) 2 2] (W.alloc (.cells #[.string a, .string b] 22)) fun e w' => e = .returned (tupleV [a, b]) ∧ Below (W.alloc (.cells #[.string a, .string b] 22)).heap.size (W.alloc (.cells #[.string a, .string b] 22)) w') := fun W h k => tuple_any (some ⟨W.heap.size, 0, none⟩) [a, b] 2 2 _ rfl (by intro v hv; simp at hv; rcases hv with rfl | rfl <;> assumption) (strs_two a b W) (h.below ((Below.refl _ _).alloc (Nat.le_refl _) _)) (k.below ((Below.refl _ _).alloc (Nat.le_refl _) _))
  obtain ⟨s0, z0, q0, p0⟩ := madeP_two (op := 68) (by rfl) ra rb
  obtain ⟨s1, z1, q1, p1⟩ := madeP_two (op := 86) (by rfl) ra rb
  obtain ⟨s2, z2, q2, p2⟩ := madeP_two (op := 66) (by rfl) ra rb
  obtain ⟨s3, z3, q3, p3⟩ := madeP_pair ra rb
  rw [q0] at C0; rw [q1] at C1; rw [q2] at C2; rw [q3] at C3
  have HP : Hid (∀ i, i < 4 → MadeP (ops4.getD i 0) a b ([s0, s1, s2, s3].getD i ⟨#[]⟩) ([z0, z1, z2, z3].getD i 0)) := by
    intro i hi
    match i, hi with
    | 0, _ => exact p0
    | 1, _ => exact p1
    | 2, _ => exact p2
    | 3, _ => exact p3
  have HL := Lib.hid hL
  have HT := Lib.hid hT
  have hda := deepN_le a.data.toList
  have hdb := deepN_le b.data.toList
  have HDEEP : Hid (∀ op s, MadeP op a b s 0 → deepN s.data.toList = max (deepN a.data.toList + 1) (max (deepN b.data.toList + 1) 1)) := by
    intro op s h
    rcases h with ⟨_, h⟩ | ⟨h, _⟩
    · rw [deep_of h]
    · simp at h
  obtain ⟨da, hda'⟩ : ∃ d, deepN a.data.toList = d := ⟨_, rfl⟩
  obtain ⟨db, hdb'⟩ : ∃ d, deepN b.data.toList = d := ⟨_, rfl⟩
  rw [hda'] at HDA HDEEP hda
  rw [hdb'] at HDB HDEEP hdb
  clear q0 q1 q2 q3 p0 p1 p2 p3 hL hT ham hbm ra rb hda' hdb'
  go_enter Tryz.func13, Tryz.ntmps13
  go_wp2_with (first
    | (have hq := B1; (go_at_call 6; (with_reducible refine Calls.mono (HB.out _ L1.out) ?_); rintro e w2 ⟨rfl, hb⟩; have B2 : Hid (Below w.heap.size w w2) := B1.out.trans (hb.mono B1.out.size); have L2 := Lib.hid (HL.out.below B2.out); clear hb hq))
    | (go_at_call 6; (with_reducible refine Calls.mono (HA.out _ HL.out) ?_); rintro e w1 ⟨rfl, hb⟩; have B1 : Hid (Below w.heap.size w w1) := hb; have L1 := Lib.hid (HL.out.below B1.out); clear hb)
    | (go_at_call 26; (with_reducible refine Calls.mono (C0.out _ L2.out) ?_); rintro e w3 ⟨rfl, hb⟩; have B3 : Hid (Below w.heap.size w w3) := B2.out.trans (hb.mono B2.out.size); have L3 := Lib.hid (HL.out.below B3.out); clear hb)
    | (go_at_call 27; (with_reducible refine Calls.mono (C1.out _ L3.out) ?_); rintro e w4 ⟨rfl, hb⟩; have B4 : Hid (Below w.heap.size w w4) := B3.out.trans (hb.mono B3.out.size); have L4 := Lib.hid (HL.out.below B4.out); clear hb)
    | (go_at_call 30; (with_reducible refine Calls.mono (C2.out _ L4.out) ?_); rintro e w5 ⟨rfl, hb⟩; have B5 : Hid (Below w.heap.size w w5) := B4.out.trans (hb.mono B4.out.size); have L5 := Lib.hid (HL.out.below B5.out); have T5 := Lib.hid (HT.out.below B5.out); clear hb)
    | (go_at_call 44; (with_reducible refine Calls.mono (C3.out _ L5.out T5.out) ?_); rintro e w6 ⟨rfl, hb⟩; have B6 : Hid (Below w.heap.size w w6) := (B5.out.alloc B5.out.size _).trans (hb.mono (by have := B5.out.size; simp; omega)); clear hb))
  have B8 : Hid (Below w.heap.size w ((w6.alloc (.cells #[.string s0, .string s1, .string s2, .string s3] 22)).alloc (.cells #[.int .i64 z0, .int .i64 z1, .int .i64 z2, .int .i64 z3] 33))) := (B6.out.alloc B6.out.size _).alloc (by have := B6.out.size; simp; omega) _
  have CM : Hid (((w6.alloc (.cells #[.string s0, .string s1, .string s2, .string s3] 22)).alloc (.cells #[.int .i64 z0, .int .i64 z1, .int .i64 z2, .int .i64 z3] 33)).heap[w6.heap.size]? = some (.cells #[.string s0, .string s1, .string s2, .string s3] 22 (0, 0))) := (Below.heap_alloc _ _ _ (by simp)).trans (heap_alloc_at w6 _)
  have CE : Hid (((w6.alloc (.cells #[.string s0, .string s1, .string s2, .string s3] 22)).alloc (.cells #[.int .i64 z0, .int .i64 z1, .int .i64 z2, .int .i64 z3] 33)).heap[w6.heap.size + 1]? = some (.cells #[.int .i64 z0, .int .i64 z1, .int .i64 z2, .int .i64 z3] 33 (0, 0))) := by
    have := heap_alloc_at (w6.alloc (.cells #[.string s0, .string s1, .string s2, .string s3] 22)) (.cells #[.int .i64 z0, .int .i64 z1, .int .i64 z2, .int .i64 z3] 33)
    rw [World.size_alloc] at this
    exact this
  generalize (w6.alloc (.cells #[.string s0, .string s1, .string s2, .string s3] 22)).alloc (.cells #[.int .i64 z0, .int .i64 z1, .int .i64 z2, .int .i64 z3] 33) = w8 at B8 CM CE ⊢
  obtain ⟨eb, heb⟩ : ∃ eb, w6.heap.size + 1 = eb := ⟨_, rfl⟩
  rw [heb] at CE ⊢
  clear heb
  obtain ⟨mb, hmb⟩ : ∃ mb, w6.heap.size = mb := ⟨_, rfl⟩
  rw [hmb] at CM ⊢
  clear hmb
  have FM := Lib.hid (four_strs CM.out)
  have FE := Lib.hid (four_ints CE.out)
  generalize [s0, s1, s2, s3] = vs at HP FM
  generalize [z0, z1, z2, z3] = zs at HP FE
  go_loopw [74] (fun iv wr => ∃ (j : Nat), j ≤ 4 ∧ iv = .int .i64 (j : Int) ∧ Hid (Below w8.heap.size w8 wr)) (fun iv _ => 4 - (intOf iv).toNat)
  case atStart => exact ⟨0, by omega, rfl, Below.refl _ _⟩
  case round =>
    obtain ⟨j, hj, rfl, hB⟩ := hrel
    have BW : Hid (Below w.heap.size w wr) := B8.out.trans (hB.out.mono B8.out.size)
    have LW := Lib.hid (HL.out.below BW.out)
    obtain ⟨wo, rfl⟩ : ∃ wo : World, wo = wr := ⟨_, rfl⟩
    by_cases hlt : j < 4
    · have hc1 := cell_later' hB.out (FM.out j hlt)
      have hc2 := cell_later' hB.out (FE.out j hlt)
      have HPJ := Lib.hid (HP.out j hlt)
      obtain ⟨s, hs⟩ : ∃ s, vs.getD j ⟨#[]⟩ = s := ⟨_, rfl⟩
      obtain ⟨z, hz⟩ : ∃ z, zs.getD j 0 = z := ⟨_, rfl⟩
      rw [hs] at hc1 HPJ
      rw [hz] at hc2 HPJ
      have hssz := madeP_size HPJ.out
      have hsm : s.size ≤ maxLen := by unfold maxLen; omega
      have b1 : (0 : Int) ≤ (j : Int) := by omega
      have b2 : (j : Int) < 4 := by omega
      have HS := Lib.hid hs
      clear hs hz
      by_cases hz3 : z = 3
      · subst hz3
        have hs0 : s = ⟨#[]⟩ := by
          rcases HPJ.out with ⟨h, _⟩ | ⟨_, h⟩
          · simp at h
          · exact h
        subst hs0
        have q5 := empty_list
        have HO := Lib.hid (open_any ⟨#[]⟩ wo (by decide) LW.out)
        rw [read_empty] at HO
        clear hsm hssz
        go_upto_region 13 with (go_at_call 17; (with_reducible refine Calls.mono HO.out ?_); rintro e w9 ⟨hb, hno, _⟩; obtain rfl := hno rfl; have B9 := Lib.hid hb; clear hb hno)
        have B10 : Hid (Below wo.heap.size wo (w9.alloc (.cells #[.int .u8 0, .int .i64 0, .string ⟨#[]⟩, .slice none 0 0] 39))) := B9.out.alloc B9.out.size _
        generalize w9.alloc (.cells #[.int .u8 0, .int .i64 0, .string ⟨#[]⟩, .slice none 0 0] 39) = w10 at B10 ⊢
        have hc3 := cell_later' B10.out hc1
        clear hc1 hc2
        go_wp2_with fail
        go_roundw
        case rel => exact ⟨j + 1, by omega, by congr 1, hB.out.trans (B10.out.mono hB.out.size)⟩
        case measure => simp [intOf]; omega
      · have hz0 : z = 0 := by
          rcases HPJ.out with ⟨h, _⟩ | ⟨h, _⟩
          · exact h
          · exact absurd h hz3
        subst hz0
        clear hz3
        have hrd : readP s.data.toList = some ⟨ops4.getD j 0, 0, [], [a.data.toList, b.data.toList], max (da + 1) (max (db + 1) 1)⟩ := by
          have h := HDEEP.out _ _ HPJ.out
          rcases HPJ.out with ⟨_, h'⟩ | ⟨h', _⟩
          · rw [deep_of h'] at h
            rw [h'] at *
            simp only [Option.some.injEq, Sh.mk.injEq, true_and]
            exact h
          · simp at h'
        have HRD := Lib.hid hrd
        obtain ⟨oz, hoz⟩ : ∃ oz : Int, ((ops4.getD j 0).toNat : Int) = oz := ⟨_, rfl⟩
        have HO : Hid (Calls Tryz.prog 17 #[.string s] wo (PairPost oz a b wo)) := (open_any s wo hsm LW.out).mono fun _ _ h => by rw [hrd] at h; rw [← hoz]; exact pair_post h
        have HRS := Lib.hid (fun W (h : LibOk W) => right_any s W hsm h)
        rw [rt_of_read hrd] at HRS
        have HZS := Lib.hid (fun W (h : LibOk W) => size_any s W hsm h)
        rw [if_pos (rt_of_read hrd)] at HZS
        have HDS := Lib.hid (fun W (h : LibOk W) => deep_any s W hsm h)
        rw [deep_of hrd] at HDS
        simp only [] at HDS
        obtain ⟨ds, hds⟩ : ∃ d, max (da + 1) (max (db + 1) 1) = d := ⟨_, rfl⟩
        rw [hds] at HDS
        obtain ⟨mm, hmm⟩ : ∃ mm : Int, max (da : Int) (db : Int) = mm := ⟨_, rfl⟩
        have hm0 : 0 ≤ mm := by omega
        have hm1 : mm ≤ 64 := by omega
        obtain ⟨dz, hdz⟩ : ∃ dz : Int, (ds : Int) = dz := ⟨_, rfl⟩
        rw [hdz] at HDS
        have hdd : (dz != 1 + mm) = false := by
          rw [bne_eq_false_iff_eq]; omega
        clear hds hdz hrd hoz HRD
        go_upto_region 15 with (go_at_call 17; (with_reducible refine Calls.mono HO.out ?_); rintro e w9 ⟨u, g, kc, rfl, hb, c0, c1⟩; have B9 := Lib.hid hb; have D0 := Lib.hid c0; have D1 := Lib.hid c1; clear hb c0 c1)
        have B10 : Hid (Below wo.heap.size wo (w9.alloc (.cells #[.int .u8 oz, .int .i64 0, .string u, .slice (some ⟨g, 0, none⟩) 2 kc] 39))) := B9.out.alloc B9.out.size _
        have CX : Hid ((w9.alloc (.cells #[.int .u8 oz, .int .i64 0, .string u, .slice (some ⟨g, 0, none⟩) 2 kc] 39)).heap[w9.heap.size]? = some (.cells #[.int .u8 oz, .int .i64 0, .string u, .slice (some ⟨g, 0, none⟩) 2 kc] 39 (0, 0))) := heap_alloc_at w9 _
        have d0 := cell_later' (below_new' w9 (.cells #[.int .u8 oz, .int .i64 0, .string u, .slice (some ⟨g, 0, none⟩) 2 kc] 39)) D0.out
        have d1 := cell_later' (below_new' w9 (.cells #[.int .u8 oz, .int .i64 0, .string u, .slice (some ⟨g, 0, none⟩) 2 kc] 39)) D1.out
        generalize w9.alloc (.cells #[.int .u8 oz, .int .i64 0, .string u, .slice (some ⟨g, 0, none⟩) 2 kc] 39) = w10 at B10 CX d0 d1 ⊢
        obtain ⟨xb, hxb⟩ : ∃ xb, w9.heap.size = xb := ⟨_, rfl⟩
        rw [hxb] at CX ⊢
        clear hxb
        have x_3 : w10.cell? ⟨xb, 3, none⟩ = some (.slice (some ⟨g, 0, none⟩) 2 kc) := by simp [World.cell?, CX.out]
        have e1 := cell_later' B10.out hc1
        have L10 := Lib.hid (LW.out.below B10.out)
        replace d0 := Later.cell d0; replace d1 := Later.cell d1; replace x_3 := Later.cell x_3; replace e1 := Later.cell e1
        clear hc1 hc2
        refine wp_region_later (by kernel_rfl) (by kernel_rfl) ?_
        repeat (go_big_quiet_step (first
          | (go_at_call 6; with_reducible exact calls_later (HRS.out _ (L10.out.below (Later.below _))))
          | (go_at_call 20; with_reducible exact calls_later (HZS.out _ (L10.out.below (Later.below _))))
          | (go_at_call 22; with_reducible exact calls_later (HDS.out _ (L10.out.below (Later.below _))))
          | (go_at_call 22; with_reducible exact calls_later (HDA.out _ (L10.out.below (Later.below _))))
          | (go_at_call 22; with_reducible exact calls_later (HDB.out _ (L10.out.below (Later.below _))))))
        refine wpQuiet_nil ?_
        intro _ hw'
        obtain ⟨nq, rfl⟩ := hw'
        have B11 : Hid (Below w8.heap.size w8 nq.at_) := hB.out.trans ((B10.out.trans (nq.below.mono B10.out.size)).mono hB.out.size)
        clear d0 d1 x_3 e1 D0 D1 CX hmm hm0 hm1 hdd
        generalize nq.at_ = w11 at B11 ⊢
        go_wp2
        go_loopw [18] (fun iv wr => ∃ (k : Nat), k ≤ j ∧ iv = .int .i64 (k : Int) ∧ Hid (Below w8.heap.size w8 wr)) (fun iv _ => j - (intOf iv).toNat)
        case atStart => exact ⟨0, by omega, rfl, B11.out⟩
        case round =>
          obtain ⟨k, hk, rfl, hB2⟩ := hrel
          have b3 : (0 : Int) ≤ (k : Int) := by omega
          by_cases hlt2 : k < j
          · have g1 := cell_later' hB2.out (FM.out j hlt)
            have g2 := cell_later' hB2.out (FM.out k (by omega))
            have HPK := Lib.hid (HP.out k (by omega))
            have e1 : vs.getD j ⟨#[]⟩ = s := HS.out
            rw [e1] at g1
            obtain ⟨s', hs'⟩ : ∃ s', vs.getD k ⟨#[]⟩ = s' := ⟨_, rfl⟩
            rw [hs'] at g2 HPK
            have q1 := madeP_ne HPK.out HPJ.out (ops4_ne j k hlt hlt2)
            have b4 : (k : Int) < (j : Int) := by omega
            have b5 : (k : Int) < 4 := by omega
            clear e1 hs'
            go_wp2_with fail
            go_region
            go_wp2_with fail
            go_roundw
            case rel => exact ⟨k + 1, by omega, by congr 1, hB2.out.drew⟩
            case measure => simp [intOf]; omega
          · obtain rfl : k = j := by omega
            go_wp2_with fail
            go_roundw
            case rel => exact ⟨k + 1, by omega, by congr 1, hB2.out⟩
            case measure => simp [intOf]; omega
    · obtain rfl : j = 4 := by omega
      have TW := Lib.hid (HT.out.below BW.out)
      go_wp2_with (go_at_call 12; (with_reducible refine Calls.mono (HW.out _ LW.out TW.out) ?_); rintro e w9 ⟨rfl, hb⟩; have B9 : Hid (Below w.heap.size w w9) := BW.out.trans (hb.mono BW.out.size); clear hb)
      go_ret
      exact ⟨rfl, B9.out⟩
theorem back_any (a b : ByteArray) (w : World) (ha : a.size ≤ maxLen) (hb : b.size ≤ maxLen) (hL : LibOk w) (hT : Tab w) : Calls Tryz.prog 13 #[.string a, .string b] w fun e w' => e = .returned (.bool true) ∧ Below w.heap.size w w' := by
  by_cases h : 20000 < a.size ∨ 20000 < b.size ∨ rt a = false ∨ rt b = false
  · exact back_no a b w ha hb h hL hT
  · have ra : rt a = true := by cases hr : rt a with
      | true => rfl
      | false => exact absurd (.inr (.inr (.inl hr))) h
    have rb : rt b = true := by cases hr : rt b with
      | true => rfl
      | false => exact absurd (.inr (.inr (.inr hr))) h
    exact back_ok a b w (by omega) (by omega) ra rb hL hT
end Go.Proofs.YtlheoipengndnabGreatDoor
