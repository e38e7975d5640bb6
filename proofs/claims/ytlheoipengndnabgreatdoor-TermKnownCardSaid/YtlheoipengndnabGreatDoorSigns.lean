/- term: TermSigns. -/
import Derived.Test.YtlheoipengndnabGreatDoorWa
import Derived.Test.YtlheoipengndnabGreatDoorPlainD
namespace Go.Proofs.YtlheoipengndnabGreatDoor
set_option linter.unusedVariables false
open Go.RowKit
set_option maxRecDepth 100000 in
set_option maxHeartbeats 4000000 in
theorem signs_long (k j m n : ByteArray) (w : World) (hk : k.size ≤ maxLen) (hj : j.size ≤ maxLen) (hm : m.size ≤ maxLen) (hn : n.size ≤ maxLen) (kr : k.size ≤ 140737488351232) (jr : j.size ≤ 140737488351232) (mr : m.size ≤ 140737488351232) (nr : n.size ≤ 140737488351232) (h : 5000 < k.size + j.size + m.size + n.size) : Calls Tryz.prog 16 #[.string k, .string j, .string m, .string n] w fun e w' => e = .returned (.bool true) ∧ Below w.heap.size w w' := by
  unfold maxLen at hk hj hm hn
  have hi : (5000 : Int) < (k.size : Int) + (j.size : Int) + (m.size : Int) + (n.size : Int) := by omega
  go_enter Tryz.func16, Tryz.ntmps16
  go_wp2
  go_ret
  exact ⟨rfl, Below.refl _ _⟩
set_option maxRecDepth 100000 in
set_option maxHeartbeats 4000000 in
theorem signs_err (k j m n s c p q : ByteArray) (e1 e2 e3 e4 : Int) (w : World) (h : k.size + j.size + m.size + n.size ≤ 5000) (hL : LibOk w) (hT : Tab w)
    (hs : buildV ⟨#[83]⟩ [k, m] = .tuple #[.string s, .int .i64 e1]) (hc : buildV ⟨#[66]⟩ [k, m] = .tuple #[.string c, .int .i64 e2]) (hp : pubV k = .tuple #[.string p, .int .i64 e3]) (hq : pubV j = .tuple #[.string q, .int .i64 e4])
    (he : ¬ (e1 = 0 ∧ e2 = 0 ∧ e3 = 0 ∧ e4 = 0)) : Calls Tryz.prog 16 #[.string k, .string j, .string m, .string n] w fun e w' => e = .returned (.bool true) ∧ Below w.heap.size w w' := by
  have hi : ¬ (5000 : Int) < (k.size : Int) + (j.size : Int) + (m.size : Int) + (n.size : Int) := by omega
  have hkm : k.size ≤ maxLen := by unfold maxLen; omega
  have hjm : j.size ≤ maxLen := by unfold maxLen; omega
  have hmm : m.size ≤ maxLen := by unfold maxLen; omega
  have h1 : k.size ≤ 5000 := by omega
  have h2 : j.size ≤ 5000 := by omega
  have h3 : m.size ≤ 5000 := by omega
  have h4 : n.size ≤ 5000 := by omega
  have HS := Lib.hid (fun W (h : LibOk W) => sign_any k m W hkm hmm h)
  have HC := Lib.hid (fun W (h : LibOk W) => box_any k m W hkm hmm h)
  have HP := Lib.hid (fun W (h : LibOk W) => pub_any k W hkm h)
  have HQ := Lib.hid (fun W (h : LibOk W) => pub_any j W hjm h)
  rw [hs] at HS; rw [hc] at HC; rw [hp] at HP; rw [hq] at HQ
  have HW := Lib.hid (fun W (h : LibOk W) (k : Tab W) => works_any W h k)
  have HL := Lib.hid hL
  have HT := Lib.hid hT
  clear hs hc hp hq hL hT hkm hjm hmm h
  have go : ∀ b1 b2 b3 b4 : Bool, (e1 != 0) = b1 → (e2 != 0) = b2 → (e3 != 0) = b3 → (e4 != 0) = b4 → (b1 || b2 || b3 || b4) = true → Calls Tryz.prog 16 #[.string k, .string j, .string m, .string n] w fun e w' => e = .returned (.bool true) ∧ Below w.heap.size w w' := by
    intro b1 b2 b3 b4 q1 q2 q3 q4 hb
    clear he
    cases b1 <;> cases b2 <;> cases b3 <;> cases b4 <;> first | (simp at hb; done) | skip
    all_goals
      clear hb
      go_enter Tryz.func16, Tryz.ntmps16
      go_wp2_with (first
        | (go_at_call 29; (with_reducible refine Calls.mono (HS.out _ HL.out) ?_); rintro e w1 ⟨rfl, hb⟩; have B1 : Hid (Below w.heap.size w w1) := hb; have L1 := Lib.hid (HL.out.below B1.out); clear hb)
        | (go_at_call 30; (with_reducible refine Calls.mono (HC.out _ L1.out) ?_); rintro e w2 ⟨rfl, hb⟩; have B2 : Hid (Below w.heap.size w w2) := B1.out.trans (hb.mono B1.out.size); have L2 := Lib.hid (HL.out.below B2.out); clear hb)
        | (have hq := B3; (go_at_call 31; (with_reducible refine Calls.mono (HQ.out _ L3.out) ?_); rintro e w4 ⟨rfl, hb⟩; have B4 : Hid (Below w.heap.size w w4) := B3.out.trans (hb.mono B3.out.size); have L4 := Lib.hid (HL.out.below B4.out); clear hb hq))
        | (go_at_call 31; (with_reducible refine Calls.mono (HP.out _ L2.out) ?_); rintro e w3 ⟨rfl, hb⟩; have B3 : Hid (Below w.heap.size w w3) := B2.out.trans (hb.mono B2.out.size); have L3 := Lib.hid (HL.out.below B3.out); clear hb)
        | (go_at_call 12; (with_reducible refine Calls.mono (HW.out _ L4.out (HT.out.below B4.out)) ?_); rintro e w5 ⟨rfl, hb⟩; have B5 : Hid (Below w.heap.size w w5) := B4.out.trans (hb.mono B4.out.size); clear hb))
      go_ret
      exact ⟨rfl, B5.out⟩
  refine go _ _ _ _ rfl rfl rfl rfl ?_
  by_cases g1 : e1 = 0
  · by_cases g2 : e2 = 0
    · by_cases g3 : e3 = 0
      · have g4 : e4 ≠ 0 := fun g4 => he ⟨g1, g2, g3, g4⟩
        simp [g4]
      · simp [g3]
    · simp [g2]
  · simp [g1]
set_option maxRecDepth 100000 in
set_option maxHeartbeats 8000000 in
theorem signs_ok (k j m n s c p q : ByteArray) (w : World) (h : k.size + j.size + m.size + n.size ≤ 5000) (hL : LibOk w) (hT : Tab w)
    (hs : buildV ⟨#[83]⟩ [k, m] = .tuple #[.string s, .int .i64 0]) (hc : buildV ⟨#[66]⟩ [k, m] = .tuple #[.string c, .int .i64 0]) (hp : pubV k = .tuple #[.string p, .int .i64 0]) (hq : pubV j = .tuple #[.string q, .int .i64 0]) :
    Calls Tryz.prog 16 #[.string k, .string j, .string m, .string n] w fun e w' => e = .returned (.bool true) ∧ Below w.heap.size w w' := by
  have hi : ¬ (5000 : Int) < (k.size : Int) + (j.size : Int) + (m.size : Int) + (n.size : Int) := by omega
  have hkm : k.size ≤ maxLen := by unfold maxLen; omega
  have hjm : j.size ≤ maxLen := by unfold maxLen; omega
  have hmm : m.size ≤ maxLen := by unfold maxLen; omega
  have h1 : k.size ≤ 5000 := by omega
  have h2 : j.size ≤ 5000 := by omega
  have h3 : m.size ≤ 5000 := by omega
  have h4 : n.size ≤ 5000 := by omega
  have HS := Lib.hid (fun W (h : LibOk W) => sign_any k m W hkm hmm h)
  have HC := Lib.hid (fun W (h : LibOk W) => box_any k m W hkm hmm h)
  have HP := Lib.hid (fun W (h : LibOk W) => pub_any k W hkm h)
  have HQ := Lib.hid (fun W (h : LibOk W) => pub_any j W hjm h)
  obtain ⟨rk, rm, es, rs⟩ := built_two (op := 83) (by rfl) hs
  obtain ⟨_, _, ec, rc⟩ := built_two (op := 66) (by rfl) hc
  obtain ⟨_, ep, _⟩ := pubV_ok hp
  obtain ⟨rj, eq, _⟩ := pubV_ok hq
  have hsm : s.size ≤ maxLen := by
    have := congrArg List.length es
    rw [List.length_cons, List.length_append, list_size, list_size, list_size] at this
    unfold maxLen; omega
  have hcm : c.size ≤ maxLen := by
    have := congrArg List.length ec
    rw [List.length_cons, List.length_append, list_size, list_size, list_size] at this
    unfold maxLen; omega
  have HU1 := Lib.hid (fun W (h : LibOk W) => unbox_any k c W hcm h)
  have HU2 := Lib.hid (fun W (h : LibOk W) => unbox_any j c W hcm h)
  have HV1 := Lib.hid (fun W (h : LibOk W) => verify_any p m s W hsm h)
  have HV2 := Lib.hid (fun W (h : LibOk W) => verify_any q m s W hsm h)
  have HV3 := Lib.hid (fun W (h : LibOk W) => verify_any p n s W hsm h)
  have HV4 := Lib.hid (fun W (h : LibOk W) => verify_any p m c W hcm h)
  rw [hs] at HS; rw [hc] at HC; rw [hp] at HP; rw [hq] at HQ
  have HW := Lib.hid (fun W (h : LibOk W) (k : Tab W) => works_any W h k)
  have HL := Lib.hid hL
  have HT := Lib.hid hT
  rw [unboxO_of rc, if_pos rfl] at HU1
  rw [unboxO_of rc] at HU2
  rw [verifyB_of rs] at HV1 HV2 HV3
  rw [verifyB_of rc] at HV4
  have hv1 : (decide ((83 : UInt8) = 83) && decide (m = m ∧ keyS k = p)) = true := by simp [ep]
  have hv2 : (decide ((83 : UInt8) = 83) && decide (m = m ∧ keyS k = q)) = decide (k = j) := by
    simp only [decide_true, Bool.true_and, true_and, decide_eq_decide]
    rw [eq]
    exact ⟨fun e => keyS_inj rk rj e, fun e => by rw [e]⟩
  have hv3 : (decide ((83 : UInt8) = 83) && decide (m = n ∧ keyS k = p)) = decide (m = n) := by simp [ep]
  have hv4 : (decide ((66 : UInt8) = 83) && decide (m = m ∧ keyS k = p)) = false := rfl
  rw [hv1] at HV1; rw [hv2] at HV2; rw [hv3] at HV3; rw [hv4] at HV4
  have q5 := empty_list
  clear hv1 hv2 hv3 hv4 hs hc hp hq hL hT hkm hjm hmm h rk rm es rs ec rc ep rj eq hsm hcm
  unfold unboxV at HU1 HU2
  have go : ∀ (b1 b2 : Bool) (y : ByteArray), decide (k = j) = b1 → decide (m = n) = b2 → (j.toList == k.toList) = b1 → (n.toList == m.toList) = b2 → (if b1 then y = m else y = ⟨#[]⟩) →
      Hid (∀ W, LibOk W → Calls Tryz.prog 46 #[.string j, .string c] W fun e w' => e = .returned (.tuple #[.string y, .bool b1]) ∧ Below W.heap.size W w') →
      Calls Tryz.prog 16 #[.string k, .string j, .string m, .string n] w fun e w' => e = .returned (.bool true) ∧ Below w.heap.size w w' := by
    clear HU2
    intro b1 b2 y d1 d2 q1 q2 hy HY2
    rw [d1] at HV2
    rw [d2] at HV3
    clear d1 d2
    cases b1 <;> cases b2 <;> simp only [if_true, Bool.false_eq_true, if_false] at hy <;> subst hy
    all_goals
      go_enter Tryz.func16, Tryz.ntmps16
      go_wp2_with (first
        | (go_at_call 29; (with_reducible refine Calls.mono (HS.out _ HL.out) ?_); rintro e w1 ⟨rfl, hb⟩; have B1 : Hid (Below w.heap.size w w1) := hb; have L1 := Lib.hid (HL.out.below B1.out); clear hb)
        | (go_at_call 30; (with_reducible refine Calls.mono (HC.out _ L1.out) ?_); rintro e w2 ⟨rfl, hb⟩; have B2 : Hid (Below w.heap.size w w2) := B1.out.trans (hb.mono B1.out.size); have L2 := Lib.hid (HL.out.below B2.out); clear hb)
        | (have hq := B3; (go_at_call 31; (with_reducible refine Calls.mono (HQ.out _ L3.out) ?_); rintro e w4 ⟨rfl, hb⟩; have B4 : Hid (Below w.heap.size w w4) := B3.out.trans (hb.mono B3.out.size); have L4 := Lib.hid (HL.out.below B4.out); clear hb hq))
        | (go_at_call 31; (with_reducible refine Calls.mono (HP.out _ L2.out) ?_); rintro e w3 ⟨rfl, hb⟩; have B3 : Hid (Below w.heap.size w w3) := B2.out.trans (hb.mono B2.out.size); have L3 := Lib.hid (HL.out.below B3.out); clear hb)
        | (have hq := B5; (go_at_call 46; (with_reducible refine Calls.mono (HY2.out _ L5.out) ?_); rintro e w6 ⟨rfl, hb⟩; have B6 : Hid (Below w.heap.size w w6) := B5.out.trans (hb.mono B5.out.size); have L6 := Lib.hid (HL.out.below B6.out); clear hb hq))
        | (go_at_call 46; (with_reducible refine Calls.mono (HU1.out _ L4.out) ?_); rintro e w5 ⟨rfl, hb⟩; have B5 : Hid (Below w.heap.size w w5) := B4.out.trans (hb.mono B4.out.size); have L5 := Lib.hid (HL.out.below B5.out); clear hb)
        | (have hq := B9; (go_at_call 48; (with_reducible refine Calls.mono (HV4.out _ L9.out) ?_); rintro e w10 ⟨rfl, hb⟩; have B10 : Hid (Below w.heap.size w w10) := B9.out.trans (hb.mono B9.out.size); have L10 := Lib.hid (HL.out.below B10.out); clear hb hq))
        | (have hq := B8; (go_at_call 48; (with_reducible refine Calls.mono (HV3.out _ L8.out) ?_); rintro e w9 ⟨rfl, hb⟩; have B9 : Hid (Below w.heap.size w w9) := B8.out.trans (hb.mono B8.out.size); have L9 := Lib.hid (HL.out.below B9.out); clear hb hq))
        | (have hq := B7; (go_at_call 48; (with_reducible refine Calls.mono (HV2.out _ L7.out) ?_); rintro e w8 ⟨rfl, hb⟩; have B8 : Hid (Below w.heap.size w w8) := B7.out.trans (hb.mono B7.out.size); have L8 := Lib.hid (HL.out.below B8.out); clear hb hq))
        | (go_at_call 48; (with_reducible refine Calls.mono (HV1.out _ L6.out) ?_); rintro e w7 ⟨rfl, hb⟩; have B7 : Hid (Below w.heap.size w w7) := B6.out.trans (hb.mono B6.out.size); have L7 := Lib.hid (HL.out.below B7.out); clear hb)
        | (go_at_call 12; (with_reducible refine Calls.mono (HW.out _ L10.out (HT.out.below B10.out)) ?_); rintro e w11 ⟨rfl, hb⟩; have B11 : Hid (Below w.heap.size w w11) := B10.out.trans (hb.mono B10.out.size); clear hb))
      go_ret
      exact ⟨rfl, B11.out⟩
  have hb2 : (n.toList == m.toList) = decide (m = n) := by
    by_cases e : m = n
    · rw [decide_eq_true e, e]; simp
    · rw [decide_eq_false e]; exact toList_ne (fun x => e x.symm)
  by_cases e : k = j
  · rw [if_pos e] at HU2
    exact go true _ m (decide_eq_true e) rfl (by rw [e]; simp) hb2 rfl HU2
  · rw [if_neg e] at HU2
    exact go false _ ⟨#[]⟩ (decide_eq_false e) rfl (toList_ne (fun x => e x.symm)) hb2 rfl HU2
theorem signs_any (k j m n : ByteArray) (w : World) (hk : k.size ≤ maxLen) (hj : j.size ≤ maxLen) (hm : m.size ≤ maxLen) (hn : n.size ≤ maxLen) (kr : k.size ≤ 140737488351232) (jr : j.size ≤ 140737488351232) (mr : m.size ≤ 140737488351232) (nr : n.size ≤ 140737488351232) (hL : LibOk w) (hT : Tab w) : Calls Tryz.prog 16 #[.string k, .string j, .string m, .string n] w fun e w' => e = .returned (.bool true) ∧ Below w.heap.size w w' := by
  by_cases h : 5000 < k.size + j.size + m.size + n.size
  · exact signs_long k j m n w hk hj hm hn kr jr mr nr h
  · obtain ⟨s, e1, hs⟩ := buildV_tuple ⟨#[83]⟩ [k, m]
    obtain ⟨c, e2, hc⟩ := buildV_tuple ⟨#[66]⟩ [k, m]
    obtain ⟨p, e3, hp⟩ := pubV_form k
    obtain ⟨q, e4, hq⟩ := pubV_form j
    by_cases he : e1 = 0 ∧ e2 = 0 ∧ e3 = 0 ∧ e4 = 0
    · obtain ⟨rfl, rfl, rfl, rfl⟩ := he
      exact signs_ok k j m n s c p q w (by omega) hL hT hs hc hp hq
    · exact signs_err k j m n s c p q e1 e2 e3 e4 w (by omega) hL hT hs hc hp hq he
end Go.Proofs.YtlheoipengndnabGreatDoor
