/- term: law.go's works. -/
import Derived.Test.YtlheoipengndnabDoorWorksA
import Derived.Lib.AppendIntMem
namespace Go.Proofs.YtlheoipengndnabDoor
set_option linter.unusedVariables false
open Go.RowKit
theorem verify_not : verifyB ⟨#[110, 55, 59]⟩ ⟨#[116, 50, 58, 97, 98]⟩ ⟨#[83, 110, 55, 59, 116, 50, 58, 97, 98]⟩ = false := by
  unfold verifyB
  rw [show (⟨#[83, 110, 55, 59, 116, 50, 58, 97, 98]⟩ : ByteArray).data.toList = [83, 110, 55, 59, 116, 50, 58, 97, 98] from rfl, read_sign]
  simp only [nth, List.getD_cons_zero, List.getD_cons_succ]
  rw [keyB_else read_n7 (by decide) (by decide)]
  rfl
theorem deep_sign : deepN [83, 110, 55, 59, 116, 50, 58, 97, 98] = 2 := by unfold deepN; rw [read_sign]
theorem Tab.below {w w' : World} (h : Tab w) (hb : Below w.heap.size w w') : Tab w' := Lib.tabBelow_of_tabIs h w' hb
set_option maxRecDepth 100000 in
set_option maxHeartbeats 4000000 in
theorem works_any (w : World) (hL : LibOk w) (hT : Tab w) : Calls Tryd.prog 7 #[] w fun e w' => e = .returned (.bool true) ∧ Below w.heap.size w w' := by
  have C1 := Lib.hid (name_any 7 w (by omega) hT)
  have C2 := fun W (h : LibOk W) => pub_any ⟨#[110, 55, 59]⟩ W (by decide) h
  have C3 := fun W (h : Tab W) => text_any ⟨#[97, 98]⟩ W (by decide) h
  have C4 := fun W (h : LibOk W) => sign_any ⟨#[110, 55, 59]⟩ ⟨#[116, 50, 58, 97, 98]⟩ W (by decide) (by decide) h
  have C5 := fun W (h : LibOk W) => box_any ⟨#[110, 55, 59]⟩ ⟨#[116, 50, 58, 97, 98]⟩ W (by decide) (by decide) h
  have C6 := fun W (h : LibOk W) => unbox_any ⟨#[110, 55, 59]⟩ ⟨#[66, 110, 55, 59, 116, 50, 58, 97, 98]⟩ W (by decide) h
  have C7 := fun W (h : LibOk W) => verify_any ⟨#[80, 110, 55, 59]⟩ ⟨#[116, 50, 58, 97, 98]⟩ ⟨#[83, 110, 55, 59, 116, 50, 58, 97, 98]⟩ W (by decide) h
  have C8 := fun W (h : LibOk W) => verify_any ⟨#[110, 55, 59]⟩ ⟨#[116, 50, 58, 97, 98]⟩ ⟨#[83, 110, 55, 59, 116, 50, 58, 97, 98]⟩ W (by decide) h
  have D6 := deep_any ⟨#[83, 110, 55, 59, 116, 50, 58, 97, 98]⟩
  rw [name7] at C1
  simp only [pub_n7] at C2
  simp only [text_ab] at C3
  simp only [sign_n7] at C4
  simp only [box_n7] at C5
  simp only [unbox_n7, unboxV] at C6
  simp only [verify_n7] at C7
  simp only [verify_not] at C8
  have C9 := fun W (h : LibOk W) => right_any ⟨#[83, 110, 55, 59, 116, 50, 58, 97, 98]⟩ W (by decide) h
  have r9 : rightB (⟨#[83, 110, 55, 59, 116, 50, 58, 97, 98]⟩ : ByteArray).data.toList = true := rfl
  have C10 := fun W (h : LibOk W) => deep_any ⟨#[83, 110, 55, 59, 116, 50, 58, 97, 98]⟩ W (by decide) h
  have r10 : deepN (⟨#[83, 110, 55, 59, 116, 50, 58, 97, 98]⟩ : ByteArray).data.toList = 2 := deep_sign
  have C11 := fun W (h : LibOk W) => size_any ⟨#[116, 50, 58, 97, 98]⟩ W (by decide) h
  have r11 : (if rightB (⟨#[116, 50, 58, 97, 98]⟩ : ByteArray).data.toList = true then (⟨#[116, 50, 58, 97, 98]⟩ : ByteArray).size else 0) = 5 := rfl
  simp only [r9] at C9
  simp only [r10] at C10
  simp only [r11] at C11
  have H2 := Lib.hid C2
  have H3 := Lib.hid C3
  have H4 := Lib.hid C4
  have H5 := Lib.hid C5
  have H6 := Lib.hid C6
  have H7 := Lib.hid C7
  have H8 := Lib.hid C8
  have H9 := Lib.hid C9
  have H10 := Lib.hid C10
  have H11 := Lib.hid C11
  have HL := Lib.hid hL
  have HT := Lib.hid hT
  clear C2 C3 C4 C5 C6 C7 C8 C9 C10 C11 D6 r9 r10 r11 hL hT
  go_enter Tryd.func7, Tryd.ntmps7
  go_wp2_with (first
    | (go_at_call 27; (with_reducible refine Calls.mono C1.out ?_); rintro e w1 ⟨rfl, hb⟩; have B1 : Hid (Below w.heap.size w w1) := hb; have L1 := Lib.hid (HL.out.below B1.out); clear hb)
    | (go_at_call 6; (with_reducible refine Calls.mono (H2.out _ L1.out) ?_); rintro e w2 ⟨rfl, hb⟩; have B2 : Hid (Below w.heap.size w w2) := B1.out.trans (hb.mono B1.out.size); have L2 := Lib.hid (HL.out.below B2.out); clear hb)
    | (go_at_call 28; (with_reducible refine Calls.mono (H3.out _ (HT.out.below B2.out)) ?_); rintro e w3 ⟨rfl, hb⟩; have B3 : Hid (Below w.heap.size w w3) := B2.out.trans (hb.mono B2.out.size); have L3 := Lib.hid (HL.out.below B3.out); clear hb)
    | (go_at_call 14; (with_reducible refine Calls.mono (H4.out _ L3.out) ?_); rintro e w4 ⟨rfl, hb⟩; have B4 : Hid (Below w.heap.size w w4) := B3.out.trans (hb.mono B3.out.size); have L4 := Lib.hid (HL.out.below B4.out); clear hb)
    | (go_at_call 15; (with_reducible refine Calls.mono (H5.out _ L4.out) ?_); rintro e w5 ⟨rfl, hb⟩; have B5 : Hid (Below w.heap.size w w5) := B4.out.trans (hb.mono B4.out.size); have L5 := Lib.hid (HL.out.below B5.out); clear hb)
    | (go_at_call 29; (with_reducible refine Calls.mono (H6.out _ L5.out) ?_); rintro e w6 ⟨rfl, hb⟩; have B6 : Hid (Below w.heap.size w w6) := B5.out.trans (hb.mono B5.out.size); have L6 := Lib.hid (HL.out.below B6.out); clear hb)
    | (have hq := B7; (go_at_call 30; (with_reducible refine Calls.mono (H8.out _ L7.out) ?_); rintro e w8 ⟨rfl, hb⟩; have B8 : Hid (Below w.heap.size w w8) := B7.out.trans (hb.mono B7.out.size); have L8 := Lib.hid (HL.out.below B8.out); clear hb))
    | (go_at_call 30; (with_reducible refine Calls.mono (H7.out _ L6.out) ?_); rintro e w7 ⟨rfl, hb⟩; have B7 : Hid (Below w.heap.size w w7) := B6.out.trans (hb.mono B6.out.size); have L7 := Lib.hid (HL.out.below B7.out); clear hb)
    | (go_at_call 24; (with_reducible refine Calls.mono (H9.out _ L8.out) ?_); rintro e w9 ⟨rfl, hb⟩; have B9 : Hid (Below w.heap.size w w9) := B8.out.trans (hb.mono B8.out.size); have L9 := Lib.hid (HL.out.below B9.out); clear hb)
    | (go_at_call 5; (with_reducible refine Calls.mono (H10.out _ L9.out) ?_); rintro e w10 ⟨rfl, hb⟩; have B10 : Hid (Below w.heap.size w w10) := B9.out.trans (hb.mono B9.out.size); have L10 := Lib.hid (HL.out.below B10.out); clear hb)
    | (go_at_call 31; (with_reducible refine Calls.mono (H11.out _ L10.out) ?_); rintro e w11 ⟨rfl, hb⟩; have B11 : Hid (Below w.heap.size w w11) := B10.out.trans (hb.mono B10.out.size); have L11 := Lib.hid (HL.out.below B11.out); clear hb))
  go_ret
  exact ⟨rfl, B11.out⟩
end Go.Proofs.YtlheoipengndnabDoor
