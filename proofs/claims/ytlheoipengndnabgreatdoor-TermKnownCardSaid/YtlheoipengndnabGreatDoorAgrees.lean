/- term: TermAgrees. -/
import Derived.Test.YtlheoipengndnabGreatDoorWa
import Derived.Test.YtlheoipengndnabGreatDoorPlainD
import Derived.Test.YtlheoipengndnabGreatDoorAgree
namespace Go.Proofs.YtlheoipengndnabGreatDoor
set_option linter.unusedVariables false
open Go.RowKit
/-- what Agree answers -/
def agreeV (p t : ByteArray) : Value := match readP t.data.toList with
  | some x => if x.op = 80 then agreeW p ⟨(nth x.kids 0).toArray⟩ else errTerm
  | none => errTerm
theorem agree_any (p t : ByteArray) (w : World) (hm : t.size ≤ maxLen) (hpm : p.size ≤ maxLen) (hL : LibOk w) : Calls Tryz.prog 34 #[.string p, .string t] w fun e w' => e = .returned (agreeV p t) ∧ Below w.heap.size w w' := by
  unfold agreeV
  cases hx : readP t.data.toList with
  | none => exact agree_none p t w hm hL hx
  | some x =>
    by_cases h : x.op = 80
    · simp only [h, if_true]
      exact agree_80 p t w x hm hpm hL hx h
    · simp only [h, if_false]
      exact agree_other p t w x hm hL hx h
theorem bytesLess_asymm : ∀ a b : List UInt8, Op.bytesLess a b = true → Op.bytesLess b a = true → False
  | [], [], h, _ => by cases h
  | [], _ :: _, _, h => by cases h
  | _ :: _, [], h, _ => by cases h
  | x :: a, y :: b, h, h' => by
    simp only [Op.bytesLess, Bool.or_eq_true, decide_eq_true_eq, Bool.and_eq_true, beq_iff_eq] at h h'
    rcases h with h | ⟨rfl, h⟩
    · rcases h' with h' | ⟨rfl, h'⟩
      · rw [UInt8.lt_iff_toNat_lt] at h h'; omega
      · rw [UInt8.lt_iff_toNat_lt] at h; omega
    · rcases h' with h' | ⟨_, h'⟩
      · rw [UInt8.lt_iff_toNat_lt] at h'; omega
      · exact bytesLess_asymm a b h h'
theorem bytesLess_tri : ∀ a b : List UInt8, Op.bytesLess a b = false → Op.bytesLess b a = false → a = b
  | [], [], _, _ => rfl
  | [], _ :: _, h, _ => by cases h
  | _ :: _, [], _, h => by cases h
  | x :: a, y :: b, h, h' => by
    simp only [Op.bytesLess, Bool.or_eq_false_iff, decide_eq_false_iff_not, Bool.and_eq_false_iff, beq_eq_false_iff_ne] at h h'
    have e : x = y := by
      have h1 := h.1
      have h2 := h'.1
      rw [UInt8.lt_iff_toNat_lt] at h1 h2
      exact UInt8.toNat_inj.mp (by omega)
    subst e
    rw [bytesLess_tri a b (h.2.resolve_left (fun x => x rfl)) (h'.2.resolve_left (fun x => x rfl))]
theorem toList_inj' {a b : ByteArray} (h : a.toList = b.toList) : a = b := by
  rw [ByteArray.toList_eq, ByteArray.toList_eq] at h
  exact ba_ext h
theorem agreeW_comm (a b : ByteArray) : agreeW a b = agreeW b a := by
  unfold agreeW
  cases h1 : Op.bytesLess b.toList a.toList with
  | true =>
    cases h2 : Op.bytesLess a.toList b.toList with
    | true => exact (bytesLess_asymm _ _ h1 h2).elim
    | false => simp
  | false =>
    cases h2 : Op.bytesLess a.toList b.toList with
    | true => simp
    | false => rw [toList_inj' (bytesLess_tri _ _ h1 h2)]
theorem agreeW_form (p k : ByteArray) : ∃ s n, agreeW p k = .tuple #[.string s, .int .i64 n] := by
  unfold agreeW
  split
  · exact buildV_tuple _ _
  · exact buildV_tuple _ _
theorem agreeV_form (p k : ByteArray) : ∃ s n, agreeV p k = .tuple #[.string s, .int .i64 n] := by
  unfold agreeV
  split
  · split
    · exact agreeW_form _ _
    · exact ⟨_, _, rfl⟩
  · exact ⟨_, _, rfl⟩
theorem agreeW_inj {a b c x z : ByteArray} (h : agreeW a b = .tuple #[.string x, .int .i64 0]) (h' : agreeW c b = .tuple #[.string z, .int .i64 0]) : z = x ↔ c = a := by
  refine ⟨fun e => ?_, fun e => ?_⟩
  · subst e
    unfold agreeW at h h'
    split at h <;> split at h'
    · obtain ⟨r1, r2, e1, _⟩ := built_two (op := 88) (by rfl) h
      obtain ⟨s1, s2, e2, _⟩ := built_two (op := 88) (by rfl) h'
      rw [e1] at e2
      obtain ⟨f1, f2⟩ := pair_inj r1 s1 (List.cons.inj e2).2
      exact (ba_ext f2).symm
    · obtain ⟨r1, r2, e1, _⟩ := built_two (op := 88) (by rfl) h
      obtain ⟨s1, s2, e2, _⟩ := built_two (op := 88) (by rfl) h'
      rw [e1] at e2
      obtain ⟨f1, f2⟩ := pair_inj r1 s1 (List.cons.inj e2).2
      exact ba_ext (f1.symm.trans f2.symm)
    · obtain ⟨r1, r2, e1, _⟩ := built_two (op := 88) (by rfl) h
      obtain ⟨s1, s2, e2, _⟩ := built_two (op := 88) (by rfl) h'
      rw [e1] at e2
      obtain ⟨f1, f2⟩ := pair_inj r1 s1 (List.cons.inj e2).2
      exact ba_ext (f2.symm.trans f1.symm)
    · obtain ⟨r1, r2, e1, _⟩ := built_two (op := 88) (by rfl) h
      obtain ⟨s1, s2, e2, _⟩ := built_two (op := 88) (by rfl) h'
      rw [e1] at e2
      obtain ⟨f1, f2⟩ := pair_inj r1 s1 (List.cons.inj e2).2
      exact (ba_ext f1).symm
  · subst e
    rw [h] at h'
    simp at h'; exact h'.symm
/-- a public key's head, and what Agree makes of it -/
theorem agreeV_key {a : ByteArray} (ha : rt a = true) (hk : rt (keyS a) = true) : ∃ c l, (keyS a).data.toList = c :: l ∧ (c = 80 → ∀ k, agreeV k (keyS a) = agreeW k a) ∧ (c ≠ 80 → ∀ k, agreeV k (keyS a) = errTerm) := by
  obtain ⟨y, hy⟩ := right_read hk
  obtain ⟨l, e⟩ := read_head hy
  refine ⟨y.op, l, e, fun h k => ?_, fun h k => ?_⟩
  · unfold agreeV
    rw [hy]
    simp only [h, if_true]
    obtain ⟨x, hx⟩ := right_read ha
    have hkb : (keyS a).data.toList = keyB a.data.toList := by unfold keyS; rw [ba_list]
    have n86 : x.op ≠ 86 := by intro h86; rw [hkb, keyB_86 hx h86, h] at e; simp at e
    have n75 : x.op ≠ 75 := by intro h75; rw [hkb, keyB_75 hx h75, h] at e; simp at e
    rw [keyB_else hx n86 n75] at hkb
    have f := read_flat hy (k := 1) (by rw [h]; rfl)
    have g := read_arity hy 1 (by rw [h]; rfl)
    obtain ⟨k0, hk0⟩ := List.length_eq_one_iff.1 g
    rw [hk0] at f
    rw [hkb, h] at f
    simp at f
    rw [hk0]
    simp only [nth, List.getD_cons_zero]
    rw [← f, ba_back]
  · unfold agreeV
    rw [hy]
    simp only [h, if_false]
set_option maxRecDepth 100000 in
set_option maxHeartbeats 4000000 in
theorem agrees_long (a b c : ByteArray) (w : World) (ha : a.size ≤ maxLen) (hb : b.size ≤ maxLen) (hc : c.size ≤ maxLen) (ar : a.size ≤ 140737488351232) (br : b.size ≤ 140737488351232) (cr : c.size ≤ 140737488351232) (h : 5000 < a.size + b.size + c.size) : Calls Tryz.prog 14 #[.string a, .string b, .string c] w fun e w' => e = .returned (.bool true) ∧ Below w.heap.size w w' := by
  unfold maxLen at ha hb hc
  have hi : (5000 : Int) < (a.size : Int) + (b.size : Int) + (c.size : Int) := by omega
  go_enter Tryz.func14, Tryz.ntmps14
  go_wp2
  go_ret
  exact ⟨rfl, Below.refl _ _⟩
set_option maxRecDepth 100000 in
set_option maxHeartbeats 4000000 in
theorem agrees_err (a b c pa pb : ByteArray) (e1 e2 : Int) (w : World) (h : a.size + b.size + c.size ≤ 5000) (hL : LibOk w) (hT : Tab w)
    (hp : pubV a = .tuple #[.string pa, .int .i64 e1]) (hq : pubV b = .tuple #[.string pb, .int .i64 e2]) (he : ¬ (e1 = 0 ∧ e2 = 0)) : Calls Tryz.prog 14 #[.string a, .string b, .string c] w fun e w' => e = .returned (.bool true) ∧ Below w.heap.size w w' := by
  have hi : ¬ (5000 : Int) < (a.size : Int) + (b.size : Int) + (c.size : Int) := by omega
  have h1 : a.size ≤ 5000 := by omega
  have h2 : b.size ≤ 5000 := by omega
  have h3 : c.size ≤ 5000 := by omega
  have ham : a.size ≤ maxLen := by unfold maxLen; omega
  have hbm : b.size ≤ maxLen := by unfold maxLen; omega
  have HP := Lib.hid (fun W (h : LibOk W) => pub_any a W ham h)
  have HQ := Lib.hid (fun W (h : LibOk W) => pub_any b W hbm h)
  rw [hp] at HP; rw [hq] at HQ
  have HW := Lib.hid (fun W (h : LibOk W) (k : Tab W) => works_any W h k)
  have HL := Lib.hid hL
  have HT := Lib.hid hT
  clear hp hq hL hT ham hbm h
  have go : ∀ b1 b2 : Bool, (e1 != 0) = b1 → (e2 != 0) = b2 → (b1 || b2) = true → Calls Tryz.prog 14 #[.string a, .string b, .string c] w fun e w' => e = .returned (.bool true) ∧ Below w.heap.size w w' := by
    intro b1 b2 q1 q2 hb
    clear he
    cases b1 <;> cases b2 <;> first | (simp at hb; done) | skip
    all_goals
      clear hb
      go_enter Tryz.func14, Tryz.ntmps14
      go_wp2_with (first
        | (have hq := B3; (go_at_call 31; (with_reducible refine Calls.mono (HQ.out _ L3.out) ?_); rintro e w4 ⟨rfl, hb⟩; have B4 : Hid (Below w.heap.size w w4) := B3.out.trans (hb.mono B3.out.size); have L4 := Lib.hid (HL.out.below B4.out); clear hb hq))
        | (go_at_call 31; (with_reducible refine Calls.mono (HP.out _ HL.out) ?_); rintro e w3 ⟨rfl, hb⟩; have B3 : Hid (Below w.heap.size w w3) := hb; have L3 := Lib.hid (HL.out.below B3.out); clear hb)
        | (go_at_call 12; (with_reducible refine Calls.mono (HW.out _ L4.out (HT.out.below B4.out)) ?_); rintro e w5 ⟨rfl, hb⟩; have B5 : Hid (Below w.heap.size w w5) := B4.out.trans (hb.mono B4.out.size); clear hb))
      go_ret
      exact ⟨rfl, B5.out⟩
  refine go _ _ rfl rfl ?_
  by_cases g1 : e1 = 0
  · have g2 : e2 ≠ 0 := fun g2 => he ⟨g1, g2⟩
    simp [g2]
  · simp [g1]
set_option maxRecDepth 100000 in
set_option maxHeartbeats 8000000 in
theorem agrees_no (a b c pa pb : ByteArray) (x y : ByteArray) (g h : Int) (oa ob : UInt8) (la lb : List UInt8) (w : World) (hz : a.size + b.size + c.size ≤ 5000) (hL : LibOk w) (hT : Tab w)
    (hp : pubV a = .tuple #[.string pa, .int .i64 0]) (hq : pubV b = .tuple #[.string pb, .int .i64 0]) (hpa : pa.data.toList = oa :: la) (hpb : pb.data.toList = ob :: lb)
    (hx : agreeV a pb = .tuple #[.string x, .int .i64 g]) (hy : agreeV b pa = .tuple #[.string y, .int .i64 h]) (hg : ob ≠ 80 → g = 10) (hh : oa ≠ 80 → h = 10) (hno : ¬ (oa = 80 ∧ ob = 80)) (hpaz : pa.size ≤ 32768) (hpbz : pb.size ≤ 32768) :
    Calls Tryz.prog 14 #[.string a, .string b, .string c] w fun e w' => e = .returned (.bool true) ∧ Below w.heap.size w w' := by
  have hi : ¬ (5000 : Int) < (a.size : Int) + (b.size : Int) + (c.size : Int) := by omega
  have h1 : a.size ≤ 5000 := by omega
  have h2 : b.size ≤ 5000 := by omega
  have h3 : c.size ≤ 5000 := by omega
  have ham : a.size ≤ maxLen := by unfold maxLen; omega
  have hbm : b.size ≤ maxLen := by unfold maxLen; omega
  have hpam : pa.size ≤ maxLen := by unfold maxLen; omega
  have hpbm : pb.size ≤ maxLen := by unfold maxLen; omega
  have HP := Lib.hid (fun W (h : LibOk W) => pub_any a W ham h)
  have HQ := Lib.hid (fun W (h : LibOk W) => pub_any b W hbm h)
  have HX := Lib.hid (fun W (h : LibOk W) => agree_any a pb W hpbm ham h)
  have HY := Lib.hid (fun W (h : LibOk W) => agree_any b pa W hpam hbm h)
  rw [hp] at HP; rw [hq] at HQ; rw [hx] at HX; rw [hy] at HY
  have HW := Lib.hid (fun W (h : LibOk W) (k : Tab W) => works_any W h k)
  have HL := Lib.hid hL
  have HT := Lib.hid hT
  obtain ⟨p0, hca⟩ := byte_at pa 0 oa la hpa
  obtain ⟨p1, hcb⟩ := byte_at pb 0 ob lb hpb
  have p0i : (0 : Int) < (pa.size : Int) := by omega
  have p1i : (0 : Int) < (pb.size : Int) := by omega
  have n0 : (pa.toList == (⟨#[]⟩ : ByteArray).toList) = false := toList_ne (fun e => by rw [e] at p0; exact absurd p0 (by decide))
  have n1 : (pb.toList == (⟨#[]⟩ : ByteArray).toList) = false := toList_ne (fun e => by rw [e] at p1; exact absurd p1 (by decide))
  have n0' : pa.toList.isEmpty = false := by
    rw [ByteArray.toList_eq, hpa]; rfl
  have n1' : pb.toList.isEmpty = false := by
    rw [ByteArray.toList_eq, hpb]; rfl
  obtain ⟨za, hza⟩ : ∃ oz : Int, (oa.toNat : Int) = oz := ⟨_, rfl⟩
  obtain ⟨zb, hzb⟩ : ∃ oz : Int, (ob.toNat : Int) = oz := ⟨_, rfl⟩
  have eqz : ∀ (o : UInt8) (z : Int), (o.toNat : Int) = z → (z == 80) = decide (o = 80) := by
    intro o z e
    subst e
    by_cases q : o = 80
    · subst q; rfl
    · rw [decide_eq_false q, beq_eq_false_iff_ne]
      intro e'
      exact q (UInt8.toNat_inj.mp (by have : ((80 : UInt8).toNat : Int) = 80 := rfl; omega))
  have va := eqz oa za hza
  have vb := eqz ob zb hzb
  have go : ∀ ba bb bg bh : Bool, (za == 80) = ba → (zb == 80) = bb → (za != 80) = !ba → (zb != 80) = !bb → (g == 10) = bg → (h == 10) = bh → (ba && bb) = false → (bb || bg) = true → (ba || bh) = true → Calls Tryz.prog 14 #[.string a, .string b, .string c] w fun e w' => e = .returned (.bool true) ∧ Below w.heap.size w w' := by
    clear va vb eqz hp hq hx hy hL hT ham hbm hpam hpbm hz hpa hpb hg hh hno
    intro ba bb bg bh q1 q2 q1' q2' q3 q4 hh1 hh2 hh3
    cases ba <;> cases bb <;> cases bg <;> cases bh <;> first | (simp at hh1; done) | (simp at hh2; done) | (simp at hh3; done) | skip
    all_goals
      simp only [Bool.not_true, Bool.not_false] at q1' q2'
      clear hh1 hh2 hh3
      go_enter Tryz.func14, Tryz.ntmps14
      go_wp2_with (first
        | (have hq := B2; (go_at_call 31; (with_reducible refine Calls.mono (HQ.out _ L2.out) ?_); rintro e w3 ⟨rfl, hb⟩; have B3 : Hid (Below w.heap.size w w3) := B2.out.trans (hb.mono B2.out.size); have L3 := Lib.hid (HL.out.below B3.out); clear hb hq))
        | (go_at_call 31; (with_reducible refine Calls.mono (HP.out _ HL.out) ?_); rintro e w2 ⟨rfl, hb⟩; have B2 : Hid (Below w.heap.size w w2) := hb; have L2 := Lib.hid (HL.out.below B2.out); clear hb)
        | (have hq := B4; (go_at_call 34; (with_reducible refine Calls.mono (HY.out _ L4.out) ?_); rintro e w5 ⟨rfl, hb⟩; have B5 : Hid (Below w.heap.size w w5) := B4.out.trans (hb.mono B4.out.size); have L5 := Lib.hid (HL.out.below B5.out); clear hb hq))
        | (go_at_call 34; (with_reducible refine Calls.mono (HX.out _ L3.out) ?_); rintro e w4 ⟨rfl, hb⟩; have B4 : Hid (Below w.heap.size w w4) := B3.out.trans (hb.mono B3.out.size); have L4 := Lib.hid (HL.out.below B4.out); clear hb)
        | (go_at_call 12; (with_reducible refine Calls.mono (HW.out _ L5.out (HT.out.below B5.out)) ?_); rintro e w6 ⟨rfl, hb⟩; have B6 : Hid (Below w.heap.size w w6) := B5.out.trans (hb.mono B5.out.size); clear hb))
      go_ret
      exact ⟨rfl, B6.out⟩
  refine go _ _ _ _ va vb (by rw [← va]; rfl) (by rw [← vb]; rfl) rfl rfl ?_ ?_ ?_
  · by_cases q : oa = 80
    · have : ob ≠ 80 := fun e => hno ⟨q, e⟩
      simp [this]
    · simp [q]
  · by_cases q : ob = 80
    · simp [q]
    · simp [hg q]
  · by_cases q : oa = 80
    · simp [q]
    · simp [hh q]
set_option maxRecDepth 100000 in
set_option maxHeartbeats 8000000 in
theorem agrees_p (a b c pa pb : ByteArray) (x z : ByteArray) (g i : Int) (la lb : List UInt8) (w : World) (hz : a.size + b.size + c.size ≤ 5000) (hL : LibOk w) (hT : Tab w)
    (hp : pubV a = .tuple #[.string pa, .int .i64 0]) (hq : pubV b = .tuple #[.string pb, .int .i64 0]) (hpa : pa.data.toList = 80 :: la) (hpb : pb.data.toList = 80 :: lb)
    (hx : agreeV a pb = .tuple #[.string x, .int .i64 g]) (hy : agreeV b pa = .tuple #[.string x, .int .i64 g]) (hc : agreeV c pb = .tuple #[.string z, .int .i64 i]) (hinj : i = 0 → g = 0 → (z = x ↔ c = a)) (hpaz : pa.size ≤ 32768) (hpbz : pb.size ≤ 32768) :
    Calls Tryz.prog 14 #[.string a, .string b, .string c] w fun e w' => e = .returned (.bool true) ∧ Below w.heap.size w w' := by
  have hi : ¬ (5000 : Int) < (a.size : Int) + (b.size : Int) + (c.size : Int) := by omega
  have h1 : a.size ≤ 5000 := by omega
  have h2 : b.size ≤ 5000 := by omega
  have h3 : c.size ≤ 5000 := by omega
  have ham : a.size ≤ maxLen := by unfold maxLen; omega
  have hbm : b.size ≤ maxLen := by unfold maxLen; omega
  have hcm : c.size ≤ maxLen := by unfold maxLen; omega
  have hpam : pa.size ≤ maxLen := by unfold maxLen; omega
  have hpbm : pb.size ≤ maxLen := by unfold maxLen; omega
  have HP := Lib.hid (fun W (h : LibOk W) => pub_any a W ham h)
  have HQ := Lib.hid (fun W (h : LibOk W) => pub_any b W hbm h)
  have HX := Lib.hid (fun W (h : LibOk W) => agree_any a pb W hpbm ham h)
  have HY := Lib.hid (fun W (h : LibOk W) => agree_any b pa W hpam hbm h)
  have HZ := Lib.hid (fun W (h : LibOk W) => agree_any c pb W hpbm hcm h)
  rw [hp] at HP; rw [hq] at HQ; rw [hx] at HX; rw [hy] at HY; rw [hc] at HZ
  have HW := Lib.hid (fun W (h : LibOk W) (k : Tab W) => works_any W h k)
  have HL := Lib.hid hL
  have HT := Lib.hid hT
  obtain ⟨p0, hca⟩ := byte_at pa 0 80 la hpa
  obtain ⟨p1, hcb⟩ := byte_at pb 0 80 lb hpb
  have p0i : (0 : Int) < (pa.size : Int) := by omega
  have p1i : (0 : Int) < (pb.size : Int) := by omega
  have n0' : pa.toList.isEmpty = false := by
    rw [ByteArray.toList_eq, hpa]; rfl
  have n1' : pb.toList.isEmpty = false := by
    rw [ByteArray.toList_eq, hpb]; rfl
  have go : ∀ bi bg be : Bool, (i != 0) = bi → (g != 0) = bg → ((bi || bg) = false → (z.toList == x.toList) = be) → ((bi || bg) = false → (c.toList == a.toList) = be) → Calls Tryz.prog 14 #[.string a, .string b, .string c] w fun e w' => e = .returned (.bool true) ∧ Below w.heap.size w w' := by
    clear hp hq hx hy hc hL hT ham hbm hcm hpam hpbm hz hpa hpb hinj
    intro bi bg be q1 q2 q3 q4
    cases bi <;> cases bg <;> cases be
    all_goals
      (try have q3 := q3 rfl)
      (try have q4 := q4 rfl)
      (try clear q3 q4)
      go_enter Tryz.func14, Tryz.ntmps14
      go_wp2_with (first
        | (have hq := B2; (go_at_call 31; (with_reducible refine Calls.mono (HQ.out _ L2.out) ?_); rintro e w3 ⟨rfl, hb⟩; have B3 : Hid (Below w.heap.size w w3) := B2.out.trans (hb.mono B2.out.size); have L3 := Lib.hid (HL.out.below B3.out); clear hb hq))
        | (go_at_call 31; (with_reducible refine Calls.mono (HP.out _ HL.out) ?_); rintro e w2 ⟨rfl, hb⟩; have B2 : Hid (Below w.heap.size w w2) := hb; have L2 := Lib.hid (HL.out.below B2.out); clear hb)
        | (have hq := B5; (go_at_call 34; (with_reducible refine Calls.mono (HZ.out _ L5.out) ?_); rintro e w6 ⟨rfl, hb⟩; have B6 : Hid (Below w.heap.size w w6) := B5.out.trans (hb.mono B5.out.size); have L6 := Lib.hid (HL.out.below B6.out); clear hb hq))
        | (have hq := B4; (go_at_call 34; (with_reducible refine Calls.mono (HY.out _ L4.out) ?_); rintro e w5 ⟨rfl, hb⟩; have B5 : Hid (Below w.heap.size w w5) := B4.out.trans (hb.mono B4.out.size); have L5 := Lib.hid (HL.out.below B5.out); clear hb hq))
        | (go_at_call 34; (with_reducible refine Calls.mono (HX.out _ L3.out) ?_); rintro e w4 ⟨rfl, hb⟩; have B4 : Hid (Below w.heap.size w w4) := B3.out.trans (hb.mono B3.out.size); have L4 := Lib.hid (HL.out.below B4.out); clear hb)
        | (go_at_call 12; (with_reducible refine Calls.mono (HW.out _ L6.out (HT.out.below B6.out)) ?_); rintro e w7 ⟨rfl, hb⟩; have B7 : Hid (Below w.heap.size w w7) := B6.out.trans (hb.mono B6.out.size); clear hb))
      go_ret
      exact ⟨rfl, B7.out⟩
  have beq : ∀ u v : ByteArray, (u.toList == v.toList) = decide (u = v) := by
    intro u v
    by_cases e : u = v
    · rw [decide_eq_true e, e]; simp
    · rw [decide_eq_false e]; exact toList_ne e
  refine go _ _ (decide (c = a)) rfl rfl (fun h => ?_) (fun _ => beq _ _)
  rw [beq, decide_eq_decide]
  simp at h
  exact hinj h.1 h.2
theorem agrees_any (a b c : ByteArray) (w : World) (ha : a.size ≤ maxLen) (hb : b.size ≤ maxLen) (hc : c.size ≤ maxLen) (ar : a.size ≤ 140737488351232) (br : b.size ≤ 140737488351232) (cr : c.size ≤ 140737488351232) (hL : LibOk w) (hT : Tab w) : Calls Tryz.prog 14 #[.string a, .string b, .string c] w fun e w' => e = .returned (.bool true) ∧ Below w.heap.size w w' := by
  by_cases h : 5000 < a.size + b.size + c.size
  · exact agrees_long a b c w ha hb hc ar br cr h
  · obtain ⟨pa, e1, hp⟩ := pubV_form a
    obtain ⟨pb, e2, hq⟩ := pubV_form b
    by_cases he : e1 = 0 ∧ e2 = 0
    · obtain ⟨rfl, rfl⟩ := he
      obtain ⟨ra, rfl, rpa⟩ := pubV_ok hp
      obtain ⟨rb, rfl, rpb⟩ := pubV_ok hq
      obtain ⟨oa, la, ea, ya, na⟩ := agreeV_key ra rpa
      obtain ⟨ob, lb, eb, yb, nb⟩ := agreeV_key rb rpb
      have za := keyS_size a ra
      have zb := keyS_size b rb
      by_cases hno : oa = 80 ∧ ob = 80
      · obtain ⟨rfl, rfl⟩ := hno
        obtain ⟨x, g, hx⟩ := agreeW_form a b
        obtain ⟨z, i, hz⟩ := agreeW_form c b
        exact agrees_p a b c _ _ x z g i la lb w (by omega) hL hT hp hq ea eb ((yb rfl a).trans hx) ((ya rfl b).trans ((agreeW_comm b a).trans hx)) ((yb rfl c).trans hz) (fun hi hg => by subst hi; subst hg; exact agreeW_inj hx hz) za zb
      · obtain ⟨x, g, hx⟩ := agreeV_form a (keyS b)
        obtain ⟨y, h', hy⟩ := agreeV_form b (keyS a)
        exact agrees_no a b c _ _ x y g h' oa ob la lb w (by omega) hL hT hp hq ea eb hx hy (fun q => by rw [nb q] at hx; unfold errTerm at hx; simp at hx; exact hx.2.symm) (fun q => by rw [na q] at hy; unfold errTerm at hy; simp at hy; exact hy.2.symm) hno za zb
    · exact agrees_err a b c pa pb e1 e2 w (by omega) hL hT hp hq he
end Go.Proofs.YtlheoipengndnabGreatDoor
