/- term: TermBuilds. -/
import Derived.Test.YtlheoipengndnabGreatDoorBldH
import Derived.Test.YtlheoipengndnabGreatDoorWa
import Derived.Test.YtlheoipengndnabGreatDoorLater
namespace Go.Proofs.YtlheoipengndnabGreatDoor
set_option linter.unusedVariables false
open Go.RowKit
theorem five_strs {w : World} {g : Nat} {t : TypeId} {s0 s1 s2 s3 s4 : ByteArray} (h : w.heap[g]? = some (.cells #[.string s0, .string s1, .string s2, .string s3, .string s4] t (0, 0))) :
    ∀ i, i < 5 → w.cell? ⟨g, i, none⟩ = some (.string ([s0, s1, s2, s3, s4].getD i ⟨#[]⟩)) := by
  intro i hi
  rw [cell_of_row _ _ _ _ _ _ h]
  match i, hi with
  | 0, _ => rfl
  | 1, _ => rfl
  | 2, _ => rfl
  | 3, _ => rfl
  | 4, _ => rfl
theorem five_ints {w : World} {g : Nat} {t : TypeId} {k : IntKind} {s0 s1 s2 s3 s4 : Int} (h : w.heap[g]? = some (.cells #[.int k s0, .int k s1, .int k s2, .int k s3, .int k s4] t (0, 0))) :
    ∀ i, i < 5 → w.cell? ⟨g, i, none⟩ = some (.int k ([s0, s1, s2, s3, s4].getD i 0)) := by
  intro i hi
  rw [cell_of_row _ _ _ _ _ _ h]
  match i, hi with
  | 0, _ => rfl
  | 1, _ => rfl
  | 2, _ => rfl
  | 3, _ => rfl
  | 4, _ => rfl
set_option maxRecDepth 100000 in
set_option maxHeartbeats 4000000 in
theorem builds_long (a b : ByteArray) (w : World) (ha : a.size ≤ maxLen) (hb : b.size ≤ maxLen) (h : 20000 < a.size ∨ 20000 < b.size) : Calls Tryz.prog 7 #[.string a, .string b] w fun e w' => e = .returned (.bool true) ∧ Below w.heap.size w w' := by
  unfold maxLen at ha hb
  by_cases h1 : (20000 : Int) < (a.size : Int)
  · clear h
    go_enter Tryz.func7, Tryz.ntmps7
    go_wp2
    go_ret
    exact ⟨rfl, Below.refl _ _⟩
  · have h2 : (20000 : Int) < (b.size : Int) := by omega
    clear h
    go_enter Tryz.func7, Tryz.ntmps7
    go_wp2
    go_ret
    exact ⟨rfl, Below.refl _ _⟩
set_option maxRecDepth 100000 in
set_option maxHeartbeats 8000000 in
theorem builds_short (a b : ByteArray) (w : World) (ha : a.size ≤ 20000) (hb : b.size ≤ 20000) (hL : LibOk w) (hT : Tab w) : Calls Tryz.prog 7 #[.string a, .string b] w fun e w' => e = .returned (.bool true) ∧ Below w.heap.size w w' := by
  have hi1 : ¬ (20000 : Int) < (a.size : Int) := by omega
  have hi2 : ¬ (20000 : Int) < (b.size : Int) := by omega
  have ham : a.size ≤ maxLen := by unfold maxLen; omega
  have hbm : b.size ≤ maxLen := by unfold maxLen; omega
  have C1 := Lib.hid (fun W (h : LibOk W) => hash_any a W ham h)
  have C2 := Lib.hid (fun W (h : LibOk W) => child_any a b W ham hbm h)
  have C3 := Lib.hid (fun W (h : LibOk W) => join_any a b W ham hbm h)
  have C4 := Lib.hid (fun W (h : LibOk W) => bind_any a b W ham hbm h)
  have C5 := Lib.hid (fun W (h : LibOk W) => sign_any a b W ham hbm h)
  have C6 := Lib.hid (fun W (h : LibOk W) => box_any a b W ham hbm h)
  have C7 := Lib.hid (fun W (h : LibOk W) => pub_any a W ham h)
  have C8 := Lib.hid (fun W (h : LibOk W) => joint_any a b W ham hbm h)
  have C9 := Lib.hid (fun W (h : LibOk W) => bound_any a b W ham hbm h)
  have C10 := Lib.hid (fun W (h : LibOk W) => agree_any a b W hbm ham h)
  have D1 : Hid (∀ W, Calls Tryz.prog 35 #[.int .u8 72, .string a] W fun e w' => e = .returned (buildV ⟨#[72]⟩ [a]) ∧ Below W.heap.size W w') := fun W => rone_any 72 a W ham
  have D7 := Lib.hid (fun W => rpub_any a W ham)
  have D8 := Lib.hid (fun W => rjoint_any a b W ham hbm)
  have D9 := Lib.hid (fun W => rbound_any a b W ham hbm)
  have D10 := Lib.hid (fun W => ragree_any a b W hbm ham)
  obtain ⟨s1, z1, q1⟩ := buildV_tuple ⟨#[72]⟩ [a]
  obtain ⟨s2, z2, q2⟩ := buildV_tuple ⟨#[68]⟩ [a, b]
  obtain ⟨s3, z3, q3⟩ := buildV_tuple ⟨#[86]⟩ [a, b]
  obtain ⟨s4, z4, q4⟩ := buildV_tuple ⟨#[75]⟩ [a, b]
  obtain ⟨s5, z5, q5⟩ := buildV_tuple ⟨#[83]⟩ [a, b]
  obtain ⟨s6, z6, q6⟩ := buildV_tuple ⟨#[66]⟩ [a, b]
  obtain ⟨s7, z7, q7⟩ := pubV_form a
  obtain ⟨s8, z8, q8⟩ := jointV_form a b
  obtain ⟨s9, z9, q9⟩ := boundV_form a b
  obtain ⟨s10, z10, q10⟩ := agreeV_form a b
  rw [q1] at C1 D1
  rw [q2] at C2; rw [q3] at C3; rw [q4] at C4; rw [q5] at C5; rw [q6] at C6
  rw [q7] at C7 D7; rw [q8] at C8 D8; rw [q9] at C9 D9; rw [q10] at C10 D10
  have HP : Hid (∀ i, i < 5 → ∀ W, Calls Tryz.prog 36 #[.int .u8 ([68, 86, 75, 83, 66].getD i 0), .string a, .string b] W fun e w' => e = .returned (.tuple #[.string ([s2, s3, s4, s5, s6].getD i ⟨#[]⟩), .int .i64 ([z2, z3, z4, z5, z6].getD i 0)]) ∧ Below W.heap.size W w') := by
    intro i hi W
    match i, hi with
    | 0, _ => rw [show [s2, s3, s4, s5, s6].getD 0 ⟨#[]⟩ = s2 from rfl, show [z2, z3, z4, z5, z6].getD 0 0 = z2 from rfl, ← q2]; exact rtwo_any 68 a b W ham hbm
    | 1, _ => rw [show [s2, s3, s4, s5, s6].getD 1 ⟨#[]⟩ = s3 from rfl, show [z2, z3, z4, z5, z6].getD 1 0 = z3 from rfl, ← q3]; exact rtwo_any 86 a b W ham hbm
    | 2, _ => rw [show [s2, s3, s4, s5, s6].getD 2 ⟨#[]⟩ = s4 from rfl, show [z2, z3, z4, z5, z6].getD 2 0 = z4 from rfl, ← q4]; exact rtwo_any 75 a b W ham hbm
    | 3, _ => rw [show [s2, s3, s4, s5, s6].getD 3 ⟨#[]⟩ = s5 from rfl, show [z2, z3, z4, z5, z6].getD 3 0 = z5 from rfl, ← q5]; exact rtwo_any 83 a b W ham hbm
    | 4, _ => rw [show [s2, s3, s4, s5, s6].getD 4 ⟨#[]⟩ = s6 from rfl, show [z2, z3, z4, z5, z6].getD 4 0 = z6 from rfl, ← q6]; exact rtwo_any 66 a b W ham hbm
  have HW := Lib.hid (fun W (h : LibOk W) (k : Tab W) => works_any W h k)
  have HL := Lib.hid hL
  have HT := Lib.hid hT
  clear hL hT q1 q2 q3 q4 q5 q6 q7 q8 q9 q10 ham hbm
  go_enter Tryz.func7, Tryz.ntmps7
  go_upto_region 16 with (first
    | (go_at_call 25; (with_reducible refine Calls.mono (C1.out _ HL.out) ?_); rintro e w1 ⟨rfl, hb⟩; have B1 : Hid (Below w.heap.size w w1) := hb; have L1 := Lib.hid (HL.out.below B1.out); clear hb)
    | (go_at_call 26; (with_reducible refine Calls.mono (C2.out _ L1.out) ?_); rintro e w2 ⟨rfl, hb⟩; have B2 : Hid (Below w.heap.size w w2) := B1.out.trans (hb.mono B1.out.size); have L2 := Lib.hid (HL.out.below B2.out); clear hb)
    | (go_at_call 27; (with_reducible refine Calls.mono (C3.out _ L2.out) ?_); rintro e w3 ⟨rfl, hb⟩; have B3 : Hid (Below w.heap.size w w3) := B2.out.trans (hb.mono B2.out.size); have L3 := Lib.hid (HL.out.below B3.out); clear hb)
    | (go_at_call 28; (with_reducible refine Calls.mono (C4.out _ L3.out) ?_); rintro e w4 ⟨rfl, hb⟩; have B4 : Hid (Below w.heap.size w w4) := B3.out.trans (hb.mono B3.out.size); have L4 := Lib.hid (HL.out.below B4.out); clear hb)
    | (go_at_call 29; (with_reducible refine Calls.mono (C5.out _ L4.out) ?_); rintro e w5 ⟨rfl, hb⟩; have B5 : Hid (Below w.heap.size w w5) := B4.out.trans (hb.mono B4.out.size); have L5 := Lib.hid (HL.out.below B5.out); clear hb)
    | (go_at_call 30; (with_reducible refine Calls.mono (C6.out _ L5.out) ?_); rintro e w6 ⟨rfl, hb⟩; have B6 : Hid (Below w.heap.size w w6) := B5.out.trans (hb.mono B5.out.size); have L6 := Lib.hid (HL.out.below B6.out); clear hb)
    | (go_at_call 31; (with_reducible refine Calls.mono (C7.out _ L6.out) ?_); rintro e w7 ⟨rfl, hb⟩; have B7 : Hid (Below w.heap.size w w7) := B6.out.trans (hb.mono B6.out.size); have L7 := Lib.hid (HL.out.below B7.out); clear hb)
    | (go_at_call 32; (with_reducible refine Calls.mono (C8.out _ L7.out) ?_); rintro e w8 ⟨rfl, hb⟩; have B8 : Hid (Below w.heap.size w w8) := B7.out.trans (hb.mono B7.out.size); have L8 := Lib.hid (HL.out.below B8.out); clear hb)
    | (go_at_call 33; (with_reducible refine Calls.mono (C9.out _ L8.out) ?_); rintro e w9 ⟨rfl, hb⟩; have B9 : Hid (Below w.heap.size w w9) := B8.out.trans (hb.mono B8.out.size); have L9 := Lib.hid (HL.out.below B9.out); clear hb)
    | (go_at_call 34; (with_reducible refine Calls.mono (C10.out _ L9.out) ?_); rintro e w10 ⟨rfl, hb⟩; have B10 : Hid (Below w.heap.size w w10) := B9.out.trans (hb.mono B9.out.size); have L10 := Lib.hid (HL.out.below B10.out); clear hb)
    | (go_at_call 35; (with_reducible refine Calls.mono (D1.out _) ?_); rintro e w11 ⟨rfl, hb⟩; have B11 : Hid (Below w.heap.size w w11) := B10.out.trans (hb.mono B10.out.size); have L11 := Lib.hid (HL.out.below B11.out); clear hb))
  go_wp2_with fail
  have B12 : Hid (Below w.heap.size w (((w11.alloc (.cells #[.int .u8 68, .int .u8 86, .int .u8 75, .int .u8 83, .int .u8 66] 5)).alloc (.cells #[.string s2, .string s3, .string s4, .string s5, .string s6] 22)).alloc (.cells #[.int .i64 z2, .int .i64 z3, .int .i64 z4, .int .i64 z5, .int .i64 z6] 33))) := ((B11.out.alloc B11.out.size _).alloc (by have := B11.out.size; simp; omega) _).alloc (by have := B11.out.size; simp; omega) _
  have CO : Hid ((((w11.alloc (.cells #[.int .u8 68, .int .u8 86, .int .u8 75, .int .u8 83, .int .u8 66] 5)).alloc (.cells #[.string s2, .string s3, .string s4, .string s5, .string s6] 22)).alloc (.cells #[.int .i64 z2, .int .i64 z3, .int .i64 z4, .int .i64 z5, .int .i64 z6] 33)).heap[w11.heap.size]? = some (.cells #[.int .u8 68, .int .u8 86, .int .u8 75, .int .u8 83, .int .u8 66] 5 (0, 0))) := (Below.heap_alloc _ _ _ (by simp; omega)).trans ((Below.heap_alloc _ _ _ (by simp)).trans (heap_alloc_at w11 _))
  have CM : Hid ((((w11.alloc (.cells #[.int .u8 68, .int .u8 86, .int .u8 75, .int .u8 83, .int .u8 66] 5)).alloc (.cells #[.string s2, .string s3, .string s4, .string s5, .string s6] 22)).alloc (.cells #[.int .i64 z2, .int .i64 z3, .int .i64 z4, .int .i64 z5, .int .i64 z6] 33)).heap[w11.heap.size + 1]? = some (.cells #[.string s2, .string s3, .string s4, .string s5, .string s6] 22 (0, 0))) := by
    have := heap_alloc_at (w11.alloc (.cells #[.int .u8 68, .int .u8 86, .int .u8 75, .int .u8 83, .int .u8 66] 5)) (.cells #[.string s2, .string s3, .string s4, .string s5, .string s6] 22)
    rw [World.size_alloc] at this
    exact (Below.heap_alloc _ _ _ (by simp)).trans this
  have CE : Hid ((((w11.alloc (.cells #[.int .u8 68, .int .u8 86, .int .u8 75, .int .u8 83, .int .u8 66] 5)).alloc (.cells #[.string s2, .string s3, .string s4, .string s5, .string s6] 22)).alloc (.cells #[.int .i64 z2, .int .i64 z3, .int .i64 z4, .int .i64 z5, .int .i64 z6] 33)).heap[w11.heap.size + 2]? = some (.cells #[.int .i64 z2, .int .i64 z3, .int .i64 z4, .int .i64 z5, .int .i64 z6] 33 (0, 0))) := by
    have := heap_alloc_at ((w11.alloc (.cells #[.int .u8 68, .int .u8 86, .int .u8 75, .int .u8 83, .int .u8 66] 5)).alloc (.cells #[.string s2, .string s3, .string s4, .string s5, .string s6] 22)) (.cells #[.int .i64 z2, .int .i64 z3, .int .i64 z4, .int .i64 z5, .int .i64 z6] 33)
    rw [World.size_alloc, World.size_alloc] at this
    exact this
  generalize ((w11.alloc (.cells #[.int .u8 68, .int .u8 86, .int .u8 75, .int .u8 83, .int .u8 66] 5)).alloc (.cells #[.string s2, .string s3, .string s4, .string s5, .string s6] 22)).alloc (.cells #[.int .i64 z2, .int .i64 z3, .int .i64 z4, .int .i64 z5, .int .i64 z6] 33) = w12 at B12 CO CM CE ⊢
  obtain ⟨eb, heb⟩ : ∃ eb, w11.heap.size + 2 = eb := ⟨_, rfl⟩
  rw [heb] at CE ⊢
  clear heb
  obtain ⟨mb, hmb⟩ : ∃ mb, w11.heap.size + 1 = mb := ⟨_, rfl⟩
  rw [hmb] at CM ⊢
  clear hmb
  obtain ⟨ob, hob⟩ : ∃ ob, w11.heap.size = ob := ⟨_, rfl⟩
  rw [hob] at CO ⊢
  clear hob
  have FO := Lib.hid (five_ints CO.out)
  have FM := Lib.hid (five_strs CM.out)
  have FE := Lib.hid (five_ints CE.out)
  generalize ([68, 86, 75, 83, 66] : List Int) = os at HP FO
  generalize [s2, s3, s4, s5, s6] = vs at HP FM
  generalize [z2, z3, z4, z5, z6] = zs at HP FE
  go_loopw [30] (fun iv wr => ∃ (j : Nat), j ≤ 5 ∧ iv = .int .i64 (j : Int) ∧ Hid (Below w12.heap.size w12 wr)) (fun iv _ => 5 - (intOf iv).toNat)
  case atStart => exact ⟨0, by omega, rfl, Below.refl _ _⟩
  case round =>
    obtain ⟨j, hj, rfl, hB⟩ := hrel
    have BW : Hid (Below w.heap.size w wr) := B12.out.trans (hB.out.mono B12.out.size)
    by_cases hlt : j < 5
    · have hc0 := cell_later' hB.out (FO.out j hlt)
      have hc1 := cell_later' hB.out (FM.out j hlt)
      have hc2 := cell_later' hB.out (FE.out j hlt)
      have HPJ := Lib.hid (HP.out j hlt)
      generalize os.getD j 0 = o at hc0 HPJ
      generalize vs.getD j ⟨#[]⟩ = s at hc1 HPJ
      generalize zs.getD j 0 = z at hc2 HPJ
      have b1 : (0 : Int) ≤ (j : Int) := by omega
      have b2 : (j : Int) < 5 := by omega
      go_wp2_with (go_at_call 36; (with_reducible refine Calls.mono (HPJ.out _) ?_); rintro e w13 ⟨rfl, hb⟩; have B13 := Lib.hid hb; have g1 := cell_later' hb hc1; have g2 := cell_later' hb hc2; clear hb)
      go_roundw
      case rel => exact ⟨j + 1, by omega, by congr 1, hB.out.trans (B13.out.mono hB.out.size)⟩
      case measure => simp [intOf]; omega
    · obtain rfl : j = 5 := by omega
      go_wp2_with (first
        | (go_at_call 37; (with_reducible refine Calls.mono (D7.out _) ?_); rintro e w14 ⟨rfl, hb⟩; have B14 : Hid (Below w.heap.size w w14) := BW.out.trans (hb.mono BW.out.size); clear hb)
        | (go_at_call 38; (with_reducible refine Calls.mono (D8.out _) ?_); rintro e w15 ⟨rfl, hb⟩; have B15 : Hid (Below w.heap.size w w15) := B14.out.trans (hb.mono B14.out.size); clear hb)
        | (go_at_call 39; (with_reducible refine Calls.mono (D9.out _) ?_); rintro e w16 ⟨rfl, hb⟩; have B16 : Hid (Below w.heap.size w w16) := B15.out.trans (hb.mono B15.out.size); clear hb)
        | (go_at_call 40; (with_reducible refine Calls.mono (D10.out _) ?_); rintro e w17 ⟨rfl, hb⟩; have B17 : Hid (Below w.heap.size w w17) := B16.out.trans (hb.mono B16.out.size); have L17 := Lib.hid (HL.out.below B17.out); clear hb)
        | (go_at_call 12; (with_reducible refine Calls.mono (HW.out _ L17.out (HT.out.below B17.out)) ?_); rintro e w18 ⟨rfl, hb⟩; have B18 : Hid (Below w.heap.size w w18) := B17.out.trans (hb.mono B17.out.size); clear hb))
      go_ret
      exact ⟨rfl, B18.out⟩
theorem builds_any (a b : ByteArray) (w : World) (ha : a.size ≤ maxLen) (hb : b.size ≤ maxLen) (hL : LibOk w) (hT : Tab w) : Calls Tryz.prog 7 #[.string a, .string b] w fun e w' => e = .returned (.bool true) ∧ Below w.heap.size w w' := by
  by_cases h : 20000 < a.size ∨ 20000 < b.size
  · exact builds_long a b w ha hb h
  · exact builds_short a b w (by omega) (by omega) hL hT
end Go.Proofs.YtlheoipengndnabGreatDoor
