/- term: what is made, as values. No walk here. -/
import Derived.Test.YtbdimlppnhcicaaGreatDoorPlainC
import Derived.Test.YtbdimlppnhcicaaGreatDoorVa
import Derived.Test.YtbdimlppnhcicaaGreatDoorBa
namespace Go.Proofs.YtbdimlppnhcicaaGreatDoor
set_option linter.unusedVariables false
def errTerm : Value := .tuple #[.string ⟨#[]⟩, .int .i64 10]
theorem empty_list : (⟨#[]⟩ : ByteArray).toList = [] := by rw [ByteArray.toList_eq]
theorem ba_ext {a b : ByteArray} (h : a.data.toList = b.data.toList) : a = b := ByteArray.ext (Array.toList_inj.1 h)
theorem ba_list (l : List UInt8) : (⟨l.toArray⟩ : ByteArray).data.toList = l := by simp
theorem ba_back (a : ByteArray) : (⟨a.data.toList.toArray⟩ : ByteArray) = a := by apply ByteArray.ext; simp
theorem buildL_two (c : UInt8) (a b : ByteArray) : buildL ⟨#[c]⟩ [a, b] = c :: (a.data.toList ++ b.data.toList) := by simp [buildL]
theorem wholeV_form (t : ByteArray) : ∃ s n, wholeV t = .tuple #[.string s, .int .i64 n] := by
  unfold wholeV
  split
  · exact ⟨_, _, rfl⟩
  · exact ⟨_, _, rfl⟩
theorem wholeV_ok {t s : ByteArray} (h : wholeV t = .tuple #[.string s, .int .i64 0]) : rt t = true ∧ s = t := by
  unfold wholeV at h
  cases hr : rt t with
  | true => rw [hr] at h; simp at h; exact ⟨rfl, h.symm⟩
  | false => rw [hr] at h; simp at h
theorem wholeV_yes {t : ByteArray} (h : rt t = true) : wholeV t = .tuple #[.string t, .int .i64 0] := by
  unfold wholeV; rw [if_pos h]
theorem wholeV_no {t : ByteArray} (h : rt t = false) : wholeV t = .tuple #[.string ⟨#[]⟩, .int .i64 3] := by
  unfold wholeV; rw [if_neg (by rw [h]; decide)]
theorem buildV_ok {head s : ByteArray} {vs : List ByteArray} (h : buildV head vs = .tuple #[.string s, .int .i64 0]) : (∀ v ∈ vs, rt v = true) ∧ s = ⟨(buildL head vs).toArray⟩ ∧ rightB (buildL head vs) = true := by
  unfold buildV at h
  split at h
  · rename_i ha
    obtain ⟨h1, h2⟩ := wholeV_ok h
    refine ⟨List.all_eq_true.1 ha, h2, ?_⟩
    unfold rt at h1
    rw [ba_list] at h1; exact h1
  · simp at h
theorem buildV_right {head : ByteArray} {vs : List ByteArray} (h : ∀ v ∈ vs, rt v = true) : buildV head vs = wholeV ⟨(buildL head vs).toArray⟩ := by
  unfold buildV; rw [if_pos (List.all_eq_true.2 h)]
theorem buildV_wrong {head : ByteArray} {vs : List ByteArray} (h : ∃ v ∈ vs, rt v = false) : buildV head vs = .tuple #[.string ⟨#[]⟩, .int .i64 10] := by
  unfold buildV
  rw [if_neg]
  intro ha
  obtain ⟨v, hv, e⟩ := h
  rw [List.all_eq_true.1 ha v hv] at e; cases e
theorem pubV_form (t : ByteArray) : ∃ s n, pubV t = .tuple #[.string s, .int .i64 n] := by
  unfold pubV
  split
  · exact wholeV_form _
  · exact ⟨_, _, rfl⟩
theorem pubV_ok {t s : ByteArray} (h : pubV t = .tuple #[.string s, .int .i64 0]) : rt t = true ∧ s = keyS t ∧ rt (keyS t) = true := by
  unfold pubV at h
  split at h
  · rename_i hr
    obtain ⟨h1, h2⟩ := wholeV_ok h
    exact ⟨hr, h2, h1⟩
  · simp at h
/-- what was built of two opens as those two -/
theorem built_two {op : UInt8} {a b s : ByteArray} (har : arity op = some 2) (h : buildV ⟨#[op]⟩ [a, b] = .tuple #[.string s, .int .i64 0]) :
    rt a = true ∧ rt b = true ∧ s.data.toList = op :: (a.data.toList ++ b.data.toList) ∧ readP s.data.toList = some ⟨op, 0, [], [a.data.toList, b.data.toList], max (deepN a.data.toList + 1) (max (deepN b.data.toList + 1) 1)⟩ := by
  obtain ⟨h1, rfl, h3⟩ := buildV_ok h
  have ra := h1 a (by simp)
  have rb := h1 b (by simp)
  rw [ba_list]
  rw [buildL_two] at h3 ⊢
  exact ⟨ra, rb, rfl, made_two har ra rb h3⟩
theorem unboxO_of {k a b s : ByteArray} {d : Nat} (h : readP s.data.toList = some ⟨66, 0, [], [a.data.toList, b.data.toList], d⟩) : unboxO k s = if a = k then some b else none := by
  unfold unboxO
  rw [h]
  simp only [nth, List.getD_cons_zero, List.getD_cons_succ, true_and]
  by_cases e : a = k
  · rw [if_pos e, if_pos (by rw [e]), ba_back]
  · rw [if_neg e, if_neg (fun x => e (ba_ext x))]
theorem verifyB_of {p q a b s : ByteArray} {op : UInt8} {d : Nat} (h : readP s.data.toList = some ⟨op, 0, [], [a.data.toList, b.data.toList], d⟩) : verifyB p q s = (decide (op = 83) && decide (b = q ∧ keyS a = p)) := by
  unfold verifyB
  rw [h]
  simp only [nth, List.getD_cons_zero, List.getD_cons_succ]
  congr 1
  rw [decide_eq_decide]
  refine and_congr ⟨fun e => ba_ext e, fun e => by rw [e]⟩ ⟨fun e => ?_, fun e => ?_⟩
  · apply ba_ext; unfold keyS; rw [ba_list]; exact e
  · rw [← e]; unfold keyS; rw [ba_list]
theorem keyS_inj {a b : ByteArray} (ha : rt a = true) (hb : rt b = true) (h : keyS a = keyS b) : a = b := by
  apply ba_ext
  refine key_inj _ _ _ (Nat.le_refl _) ha hb ?_
  have := congrArg (fun x : ByteArray => x.data.toList) h
  unfold keyS at this
  simpa using this
end Go.Proofs.YtbdimlppnhcicaaGreatDoor
