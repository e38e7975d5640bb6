/- term: TermAgrees. -/
import Derived.Test.YtbdimlppnhcicaaGreatDoorWa
import Derived.Test.YtbdimlppnhcicaaGreatDoorPlainD
import Derived.Test.YtbdimlppnhcicaaGreatDoorAgree
namespace Go.Proofs.YtbdimlppnhcicaaGreatDoor
set_option linter.unusedVariables false
open Go.RowKit
/-- what Agree answers -/
def agreeV (p t : ByteArray) : Value := match readP t.data.toList with
  | some x => if x.op = 80 then agreeW p ⟨(nth x.kids 0).toArray⟩ else errTerm
  | none => errTerm
theorem agree_any (p t : ByteArray) (w : World) (hm : t.size ≤ maxLen) (hpm : p.size ≤ maxLen) (hL : LibOk w) : Calls Tryz.prog 118 #[.string p, .string t] w fun e w' => e = .returned (agreeV p t) ∧ Below w.heap.size w w' := by
  unfold agreeV
  cases hx : readP t.data.toList with
  | none => exact agree_none p t w hm hL hx
  | some x =>
    by_cases h : x.op = 80
    · simp only [h, if_true]
      exact agree_80 p t w x hm hpm hL hx h
    · simp only [h, if_false]
      exact agree_other p t w x hm hL hx h
theorem bytesLess_asymm : ∀ a b : List UInt8, Op.bytesLess a b = true → Op.bytesLess b a = true → False
  | [], [], h, _ => by cases h
  | [], _ :: _, _, h => by cases h
  | _ :: _, [], h, _ => by cases h
  | x :: a, y :: b, h, h' => by
    simp only [Op.bytesLess, Bool.or_eq_true, decide_eq_true_eq, Bool.and_eq_true, beq_iff_eq] at h h'
    rcases h with h | ⟨rfl, h⟩
    · rcases h' with h' | ⟨rfl, h'⟩
      · rw [UInt8.lt_iff_toNat_lt] at h h'; omega
      · rw [UInt8.lt_iff_toNat_lt] at h; omega
    · rcases h' with h' | ⟨_, h'⟩
      · rw [UInt8.lt_iff_toNat_lt] at h'; omega
      · exact bytesLess_asymm a b h h'
theorem bytesLess_tri : ∀ a b : List UInt8, Op.bytesLess a b = false → Op.bytesLess b a = false → a = b
  | [], [], _, _ => rfl
  | [], _ :: _, h, _ => by cases h
  | _ :: _, [], _, h => by cases h
  | x :: a, y :: b, h, h' => by
    simp only [Op.bytesLess, Bool.or_eq_false_iff, decide_eq_false_iff_not, Bool.and_eq_false_iff, beq_eq_false_iff_ne] at h h'
    have e : x = y := by
      have h1 := h.1
      have h2 := h'.1
      rw [UInt8.lt_iff_toNat_lt] at h1 h2
      exact UInt8.toNat_inj.mp (by omega)
    subst e
    rw [bytesLess_tri a b (h.2.resolve_left (fun x => x rfl)) (h'.2.resolve_left (fun x => x rfl))]
theorem toList_inj' {a b : ByteArray} (h : a.toList = b.toList) : a = b := by
  rw [ByteArray.toList_eq, ByteArray.toList_eq] at h
  exact ba_ext h
theorem agreeW_comm (a b : ByteArray) : agreeW a b = agreeW b a := by
  unfold agreeW
  cases h1 : Op.bytesLess b.toList a.toList with
  | true =>
    cases h2 : Op.bytesLess a.toList b.toList with
    | true => exact (bytesLess_asymm _ _ h1 h2).elim
    | false => simp
  | false =>
    cases h2 : Op.bytesLess a.toList b.toList with
    | true => simp
    | false => rw [toList_inj' (bytesLess_tri _ _ h1 h2)]
theorem agreeW_form (p k : ByteArray) : ∃ s n, agreeW p k = .tuple #[.string s, .int .i64 n] := by
  unfold agreeW
  split
  · exact buildV_tuple _ _
  · exact buildV_tuple _ _
theorem agreeV_form (p k : ByteArray) : ∃ s n, agreeV p k = .tuple #[.string s, .int .i64 n] := by
  unfold agreeV
  split
  · split
    · exact agreeW_form _ _
    · exact ⟨_, _, rfl⟩
  · exact ⟨_, _, rfl⟩
theorem agreeW_inj {a b c x z : ByteArray} (h : agreeW a b = .tuple #[.string x, .int .i64 0]) (h' : agreeW c b = .tuple #[.string z, .int .i64 0]) : z = x ↔ c = a := by
  refine ⟨fun e => ?_, fun e => ?_⟩
  · subst e
    unfold agreeW at h h'
    split at h <;> split at h'
    · obtain ⟨r1, r2, e1, _⟩ := built_two (op := 88) (by rfl) h
      obtain ⟨s1, s2, e2, _⟩ := built_two (op := 88) (by rfl) h'
      rw [e1] at e2
      obtain ⟨f1, f2⟩ := pair_inj r1 s1 (List.cons.inj e2).2
      exact (ba_ext f2).symm
    · obtain ⟨r1, r2, e1, _⟩ := built_two (op := 88) (by rfl) h
      obtain ⟨s1, s2, e2, _⟩ := built_two (op := 88) (by rfl) h'
      rw [e1] at e2
      obtain ⟨f1, f2⟩ := pair_inj r1 s1 (List.cons.inj e2).2
      exact ba_ext (f1.symm.trans f2.symm)
    · obtain ⟨r1, r2, e1, _⟩ := built_two (op := 88) (by rfl) h
      obtain ⟨s1, s2, e2, _⟩ := built_two (op := 88) (by rfl) h'
      rw [e1] at e2
      obtain ⟨f1, f2⟩ := pair_inj r1 s1 (List.cons.inj e2).2
      exact ba_ext (f2.symm.trans f1.symm)
    · obtain ⟨r1, r2, e1, _⟩ := built_two (op := 88) (by rfl) h
      obtain ⟨s1, s2, e2, _⟩ := built_two (op := 88) (by rfl) h'
      rw [e1] at e2
      obtain ⟨f1, f2⟩ := pair_inj r1 s1 (List.cons.inj e2).2
      exact (ba_ext f1).symm
  · subst e
    rw [h] at h'
    simp at h'; exact h'.symm
/-- a public key's head, and what Agree makes of it -/
theorem agreeV_key {a : ByteArray} (ha : rt a = true) (hk : rt (keyS a) = true) : ∃ c l, (keyS a).data.toList = c :: l ∧ (c = 80 → ∀ k, agreeV k (keyS a) = agreeW k a) ∧ (c ≠ 80 → ∀ k, agreeV k (keyS a) = errTerm) := by
  obtain ⟨y, hy⟩ := right_read hk
  obtain ⟨l, e⟩ := read_head hy
  refine ⟨y.op, l, e, fun h k => ?_, fun h k => ?_⟩
  · unfold agreeV
    rw [hy]
    simp only [h, if_true]
    obtain ⟨x, hx⟩ := right_read ha
    have hkb : (keyS a).data.toList = keyB a.data.toList := by unfold keyS; rw [ba_list]
    have n86 : x.op ≠ 86 := by intro h86; rw [hkb, keyB_86 hx h86, h] at e; simp at e
    have n75 : x.op ≠ 75 := by intro h75; rw [hkb, keyB_75 hx h75, h] at e; simp at e
    rw [keyB_else hx n86 n75] at hkb
    have f := read_flat hy (k := 1) (by rw [h]; rfl)
    have g := read_arity hy 1 (by rw [h]; rfl)
    obtain ⟨k0, hk0⟩ := List.length_eq_one_iff.1 g
    rw [hk0] at f
    rw [hkb, h] at f
    simp at f
    rw [hk0]
    simp only [nth, List.getD_cons_zero]
    rw [← f, ba_back]
  · unfold agreeV
    rw [hy]
    simp only [h, if_false]
end Go.Proofs.YtbdimlppnhcicaaGreatDoor
