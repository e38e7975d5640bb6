/- term: TermKeys. -/
import Derived.Test.YtlheoipengndnabGreatDoorBldG
import Derived.Test.YtlheoipengndnabGreatDoorWa
namespace Go.Proofs.YtlheoipengndnabGreatDoor
set_option linter.unusedVariables false
open Go.RowKit
set_option maxRecDepth 100000 in
set_option maxHeartbeats 4000000 in
theorem keys_long (a b : ByteArray) (w : World) (ha : a.size ≤ maxLen) (hb : b.size ≤ maxLen) (ar : a.size ≤ 140737488351232) (br : b.size ≤ 140737488351232) (hL : LibOk w) (h : 5000 < a.size + b.size ∨ 60 < deepN a.data.toList ∨ 60 < deepN b.data.toList) : Calls Tryz.prog 15 #[.string a, .string b] w fun e w' => e = .returned (.bool true) ∧ Below w.heap.size w w' := by
  have HA := Lib.hid (fun W (h : LibOk W) => deep_any a W ha h)
  have HB := Lib.hid (fun W (h : LibOk W) => deep_any b W hb h)
  have HL := Lib.hid hL
  obtain ⟨da, hda⟩ : ∃ d, deepN a.data.toList = d := ⟨_, rfl⟩
  obtain ⟨db, hdb⟩ : ∃ d, deepN b.data.toList = d := ⟨_, rfl⟩
  rw [hda] at HA h
  rw [hdb] at HB h
  unfold maxLen at ha hb
  clear hL hda hdb
  by_cases h1 : (5000 : Int) < (a.size : Int) + (b.size : Int)
  · clear h
    go_enter Tryz.func15, Tryz.ntmps15
    go_wp2
    go_ret
    exact ⟨rfl, Below.refl _ _⟩
  · by_cases h2 : (60 : Int) < (da : Int)
    · clear h
      go_enter Tryz.func15, Tryz.ntmps15
      go_wp2_with (go_at_call 22; (with_reducible refine Calls.mono (HA.out _ HL.out) ?_); rintro e w1 ⟨rfl, hb⟩; have B1 : Hid (Below w.heap.size w w1) := hb; clear hb)
      go_ret
      exact ⟨rfl, B1.out⟩
    · have h3 : (60 : Int) < (db : Int) := by omega
      clear h
      go_enter Tryz.func15, Tryz.ntmps15
      go_wp2_with (first
        | (have hq := B1; (go_at_call 22; (with_reducible refine Calls.mono (HB.out _ (HL.out.below B1.out)) ?_); rintro e w2 ⟨rfl, hb⟩; have B2 : Hid (Below w.heap.size w w2) := B1.out.trans (hb.mono B1.out.size); clear hb hq))
        | (go_at_call 22; (with_reducible refine Calls.mono (HA.out _ HL.out) ?_); rintro e w1 ⟨rfl, hb⟩; have B1 : Hid (Below w.heap.size w w1) := hb; clear hb))
      go_ret
      exact ⟨rfl, B2.out⟩
set_option maxRecDepth 100000 in
set_option maxHeartbeats 4000000 in
theorem keys_err (a b pa pb : ByteArray) (e1 e2 : Int) (w : World) (h : a.size + b.size ≤ 5000) (da db : Nat) (hda : deepN a.data.toList = da) (hdb : deepN b.data.toList = db) (ha6 : da ≤ 60) (hb6 : db ≤ 60) (hL : LibOk w) (hT : Tab w)
    (hp : pubV a = .tuple #[.string pa, .int .i64 e1]) (hq : pubV b = .tuple #[.string pb, .int .i64 e2]) (he : ¬ (e1 = 0 ∧ e2 = 0)) : Calls Tryz.prog 15 #[.string a, .string b] w fun e w' => e = .returned (.bool true) ∧ Below w.heap.size w w' := by
  have hi : ¬ (5000 : Int) < (a.size : Int) + (b.size : Int) := by omega
  have h1 : a.size ≤ 5000 := by omega
  have h2 : b.size ≤ 5000 := by omega
  have ham : a.size ≤ maxLen := by unfold maxLen; omega
  have hbm : b.size ≤ maxLen := by unfold maxLen; omega
  have ga : ¬ (60 : Int) < (da : Int) := by omega
  have gb : ¬ (60 : Int) < (db : Int) := by omega
  have HA := Lib.hid (fun W (h : LibOk W) => deep_any a W ham h)
  have HB := Lib.hid (fun W (h : LibOk W) => deep_any b W hbm h)
  rw [hda] at HA; rw [hdb] at HB
  have HP := Lib.hid (fun W (h : LibOk W) => pub_any a W ham h)
  have HQ := Lib.hid (fun W (h : LibOk W) => pub_any b W hbm h)
  rw [hp] at HP; rw [hq] at HQ
  have HW := Lib.hid (fun W (h : LibOk W) (k : Tab W) => works_any W h k)
  have HL := Lib.hid hL
  have HT := Lib.hid hT
  clear hp hq hL hT ham hbm h hda hdb ha6 hb6
  have go : ∀ b1 b2 : Bool, (e1 != 0) = b1 → (e2 != 0) = b2 → (b1 || b2) = true → Calls Tryz.prog 15 #[.string a, .string b] w fun e w' => e = .returned (.bool true) ∧ Below w.heap.size w w' := by
    intro b1 b2 q1 q2 hb
    clear he
    cases b1 <;> cases b2 <;> first | (simp at hb; done) | skip
    all_goals
      clear hb
      go_enter Tryz.func15, Tryz.ntmps15
      go_wp2_with (first
        | (have hq := B1; (go_at_call 22; (with_reducible refine Calls.mono (HB.out _ (HL.out.below B1.out)) ?_); rintro e w2 ⟨rfl, hb⟩; have B2 : Hid (Below w.heap.size w w2) := B1.out.trans (hb.mono B1.out.size); have L2 := Lib.hid (HL.out.below B2.out); clear hb hq))
        | (go_at_call 22; (with_reducible refine Calls.mono (HA.out _ HL.out) ?_); rintro e w1 ⟨rfl, hb⟩; have B1 : Hid (Below w.heap.size w w1) := hb; clear hb)
        | (have hq := B3; (go_at_call 31; (with_reducible refine Calls.mono (HQ.out _ L3.out) ?_); rintro e w4 ⟨rfl, hb⟩; have B4 : Hid (Below w.heap.size w w4) := B3.out.trans (hb.mono B3.out.size); have L4 := Lib.hid (HL.out.below B4.out); clear hb hq))
        | (go_at_call 31; (with_reducible refine Calls.mono (HP.out _ L2.out) ?_); rintro e w3 ⟨rfl, hb⟩; have B3 : Hid (Below w.heap.size w w3) := B2.out.trans (hb.mono B2.out.size); have L3 := Lib.hid (HL.out.below B3.out); clear hb)
        | (go_at_call 12; (with_reducible refine Calls.mono (HW.out _ L4.out (HT.out.below B4.out)) ?_); rintro e w5 ⟨rfl, hb⟩; have B5 : Hid (Below w.heap.size w w5) := B4.out.trans (hb.mono B4.out.size); clear hb))
      go_ret
      exact ⟨rfl, B5.out⟩
  refine go _ _ rfl rfl ?_
  by_cases g1 : e1 = 0
  · have g2 : e2 ≠ 0 := fun g2 => he ⟨g1, g2⟩
    simp [g2]
  · simp [g1]
set_option maxRecDepth 100000 in
set_option maxHeartbeats 8000000 in
theorem keys_ok (a b pa pb : ByteArray) (w : World) (h : a.size + b.size ≤ 5000) (da db : Nat) (hda : deepN a.data.toList = da) (hdb : deepN b.data.toList = db) (ha6 : da ≤ 60) (hb6 : db ≤ 60) (hL : LibOk w) (hT : Tab w)
    (hp : pubV a = .tuple #[.string pa, .int .i64 0]) (hq : pubV b = .tuple #[.string pb, .int .i64 0]) : Calls Tryz.prog 15 #[.string a, .string b] w fun e w' => e = .returned (.bool true) ∧ Below w.heap.size w w' := by
  obtain ⟨j, k, pj, pk, vj, vk, szj, szk, vpj, vpk, vjo, vbo, hne, hiff, zpa, zpb⟩ := keys_plain h (by omega) (by omega) hp hq
  have hi : ¬ (5000 : Int) < (a.size : Int) + (b.size : Int) := by omega
  have h1 : a.size ≤ 5000 := by omega
  have h2 : b.size ≤ 5000 := by omega
  have ham : a.size ≤ maxLen := by unfold maxLen; omega
  have hbm : b.size ≤ maxLen := by unfold maxLen; omega
  have hjm : j.size ≤ maxLen := by unfold maxLen; omega
  have hkm : k.size ≤ maxLen := by unfold maxLen; omega
  have hpam : pa.size ≤ maxLen := by unfold maxLen; omega
  have hpbm : pb.size ≤ maxLen := by unfold maxLen; omega
  have ga : ¬ (60 : Int) < (da : Int) := by omega
  have gb : ¬ (60 : Int) < (db : Int) := by omega
  have HA := Lib.hid (fun W (h : LibOk W) => deep_any a W ham h)
  have HB := Lib.hid (fun W (h : LibOk W) => deep_any b W hbm h)
  rw [hda] at HA; rw [hdb] at HB
  have HP := Lib.hid (fun W (h : LibOk W) => pub_any a W ham h)
  have HQ := Lib.hid (fun W (h : LibOk W) => pub_any b W hbm h)
  rw [hp] at HP; rw [hq] at HQ
  have HJ := Lib.hid (fun W (h : LibOk W) => join_any a b W ham hbm h)
  have HK := Lib.hid (fun W (h : LibOk W) => bind_any a b W ham hbm h)
  rw [vj] at HJ; rw [vk] at HK
  have HPJ := Lib.hid (fun W (h : LibOk W) => pub_any j W hjm h)
  have HPK := Lib.hid (fun W (h : LibOk W) => pub_any k W hkm h)
  rw [vpj] at HPJ; rw [vpk] at HPK
  have HJO := Lib.hid (fun W (h : LibOk W) => joint_any pa pb W hpam hpbm h)
  have HBO := Lib.hid (fun W (h : LibOk W) => bound_any pa b W hpam hbm h)
  rw [vjo] at HJO; rw [vbo] at HBO
  have HW := Lib.hid (fun W (h : LibOk W) (k : Tab W) => works_any W h k)
  have HL := Lib.hid hL
  have HT := Lib.hid hT
  have qne : (pj.toList == pk.toList) = false := toList_ne hne
  have beq : ∀ u v : ByteArray, (u.toList == v.toList) = decide (u = v) := by
    intro u v
    by_cases e : u = v
    · rw [decide_eq_true e, e]; simp
    · rw [decide_eq_false e]; exact toList_ne e
  have q0 : ∃ c : Bool, (pa.toList == pb.toList) = c ∧ (a.toList == b.toList) = c := ⟨_, beq _ _, by rw [beq, decide_eq_decide]; exact hiff.symm⟩
  obtain ⟨c, q1, q2⟩ := q0
  clear hp hq hL hT ham hbm h hda hdb ha6 hb6 vj vk szj szk vpj vpk vjo vbo hne hiff zpa zpb hjm hkm hpam hpbm beq
  cases c
  all_goals
    go_enter Tryz.func15, Tryz.ntmps15
    go_wp2_with (first
      | (have hq := B1; (go_at_call 22; (with_reducible refine Calls.mono (HB.out _ (HL.out.below B1.out)) ?_); rintro e w2 ⟨rfl, hb⟩; have B2 : Hid (Below w.heap.size w w2) := B1.out.trans (hb.mono B1.out.size); have L2 := Lib.hid (HL.out.below B2.out); clear hb hq))
      | (go_at_call 22; (with_reducible refine Calls.mono (HA.out _ HL.out) ?_); rintro e w1 ⟨rfl, hb⟩; have B1 : Hid (Below w.heap.size w w1) := hb; clear hb)
      | (have hq := B7; (go_at_call 31; (with_reducible refine Calls.mono (HPK.out _ L7.out) ?_); rintro e w8 ⟨rfl, hb⟩; have B8 : Hid (Below w.heap.size w w8) := B7.out.trans (hb.mono B7.out.size); have L8 := Lib.hid (HL.out.below B8.out); clear hb hq))
      | (have hq := B6; (go_at_call 31; (with_reducible refine Calls.mono (HPJ.out _ L6.out) ?_); rintro e w7 ⟨rfl, hb⟩; have B7 : Hid (Below w.heap.size w w7) := B6.out.trans (hb.mono B6.out.size); have L7 := Lib.hid (HL.out.below B7.out); clear hb hq))
      | (have hq := B3; (go_at_call 31; (with_reducible refine Calls.mono (HQ.out _ L3.out) ?_); rintro e w4 ⟨rfl, hb⟩; have B4 : Hid (Below w.heap.size w w4) := B3.out.trans (hb.mono B3.out.size); have L4 := Lib.hid (HL.out.below B4.out); clear hb hq))
      | (go_at_call 31; (with_reducible refine Calls.mono (HP.out _ L2.out) ?_); rintro e w3 ⟨rfl, hb⟩; have B3 : Hid (Below w.heap.size w w3) := B2.out.trans (hb.mono B2.out.size); have L3 := Lib.hid (HL.out.below B3.out); clear hb)
      | (go_at_call 27; (with_reducible refine Calls.mono (HJ.out _ L4.out) ?_); rintro e w5 ⟨rfl, hb⟩; have B5 : Hid (Below w.heap.size w w5) := B4.out.trans (hb.mono B4.out.size); have L5 := Lib.hid (HL.out.below B5.out); clear hb)
      | (go_at_call 28; (with_reducible refine Calls.mono (HK.out _ L5.out) ?_); rintro e w6 ⟨rfl, hb⟩; have B6 : Hid (Below w.heap.size w w6) := B5.out.trans (hb.mono B5.out.size); have L6 := Lib.hid (HL.out.below B6.out); clear hb)
      | (go_at_call 32; (with_reducible refine Calls.mono (HJO.out _ L8.out) ?_); rintro e w9 ⟨rfl, hb⟩; have B9 : Hid (Below w.heap.size w w9) := B8.out.trans (hb.mono B8.out.size); have L9 := Lib.hid (HL.out.below B9.out); clear hb)
      | (go_at_call 33; (with_reducible refine Calls.mono (HBO.out _ L9.out) ?_); rintro e w10 ⟨rfl, hb⟩; have B10 : Hid (Below w.heap.size w w10) := B9.out.trans (hb.mono B9.out.size); have L10 := Lib.hid (HL.out.below B10.out); clear hb)
      | (go_at_call 12; (with_reducible refine Calls.mono (HW.out _ L10.out (HT.out.below B10.out)) ?_); rintro e w11 ⟨rfl, hb⟩; have B11 : Hid (Below w.heap.size w w11) := B10.out.trans (hb.mono B10.out.size); clear hb))
    go_ret
    exact ⟨rfl, B11.out⟩
theorem keys_any (a b : ByteArray) (w : World) (ha : a.size ≤ maxLen) (hb : b.size ≤ maxLen) (ar : a.size ≤ 140737488351232) (br : b.size ≤ 140737488351232) (hL : LibOk w) (hT : Tab w) : Calls Tryz.prog 15 #[.string a, .string b] w fun e w' => e = .returned (.bool true) ∧ Below w.heap.size w w' := by
  by_cases h : 5000 < a.size + b.size ∨ 60 < deepN a.data.toList ∨ 60 < deepN b.data.toList
  · exact keys_long a b w ha hb ar br hL h
  · obtain ⟨pa, e1, hp⟩ := pubV_form a
    obtain ⟨pb, e2, hq⟩ := pubV_form b
    by_cases he : e1 = 0 ∧ e2 = 0
    · obtain ⟨rfl, rfl⟩ := he
      exact keys_ok a b pa pb w (by omega) _ _ rfl rfl (by omega) (by omega) hL hT hp hq
    · exact keys_err a b pa pb e1 e2 w (by omega) _ _ rfl rfl (by omega) (by omega) hL hT hp hq he
end Go.Proofs.YtlheoipengndnabGreatDoor
