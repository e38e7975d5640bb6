/- onion: the document's numbers -/
import Derived.Test.YtbdimlppnhcicaaGreatDoorOnB
import Derived.Deep.CutBlock
namespace Go.Proofs.YtbdimlppnhcicaaGreatDoor
set_option linter.unusedVariables false
open Go.RowKit
theorem good_of {s : ByteArray} (h1 : s.data.toList.all isDig = true) (h0 : 0 < s.size) (h2 : 1 < s.size → s[0] ≠ 48) : goodB s.data.toList = true := by
  obtain ⟨⟨l⟩⟩ := s
  cases l with
  | nil => exact absurd h0 (by decide)
  | cons c l =>
    simp only [List.all_cons, Bool.and_eq_true] at h1
    refine good_mk h1.1 h1.2 (fun hl => h2 ?_)
    show 1 < (c :: l).length
    rw [List.length_cons]
    have := List.length_pos_iff.2 hl
    omega
theorem not_good {s : ByteArray} {i : Nat} (hi : i < s.size) (h : isDig s[i] = false) (most : Nat) : numN s.data.toList most = none := by
  unfold numN
  have : goodB s.data.toList = false := by
    cases hg : goodB s.data.toList with
    | false => rfl
    | true =>
      unfold goodB at hg
      simp only [Bool.and_eq_true] at hg
      have := List.all_eq_true.1 hg.1.2 s[i] (by
        have : s[i] = s.data.toList[i]'(by rw [list_size]; exact hi) := rfl
        rw [this]; exact List.getElem_mem _)
      rw [h] at this; cases this
  rw [this, Bool.false_and, if_neg (by decide)]
theorem not_good0 {s : ByteArray} (hi : 1 < s.size) (h : s[0] = 48) (most : Nat) : numN s.data.toList most = none := by
  unfold numN
  have : goodB s.data.toList = false := by
    cases hg : goodB s.data.toList with
    | false => rfl
    | true =>
      obtain ⟨⟨l⟩⟩ := s
      cases l with
      | nil => exact absurd hi (by decide)
      | cons c l =>
        obtain ⟨_, _, h3⟩ := good_cons hg
        have hl : l ≠ [] := fun e => by subst e; exact absurd (show 1 < 1 from hi) (Nat.lt_irrefl 1)
        exact absurd h (h3 hl)
  rw [this, Bool.false_and, if_neg (by decide)]
end Go.Proofs.YtbdimlppnhcicaaGreatDoor
