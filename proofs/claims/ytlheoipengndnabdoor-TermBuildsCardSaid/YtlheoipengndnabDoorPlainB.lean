/- term: the key of a right term, plain. -/
import Derived.Test.YtlheoipengndnabDoorPlainA
namespace Go.Proofs.YtlheoipengndnabDoor
set_option linter.unusedVariables false
theorem nth_mem {ks : List (List UInt8)} {i : Nat} (h : i < ks.length) : nth ks i ∈ ks := by
  unfold nth
  rw [List.getD_eq_getElem?_getD, List.getElem?_eq_getElem h]
  exact List.getElem_mem h
theorem keyF_enough : ∀ f l, l.length < f → ∀ g, l.length < g → keyF f l = keyF g l
  | 0, l, h, g, hg => by omega
  | f + 1, l, h, 0, hg => by omega
  | f + 1, l, h, g + 1, hg => by
    unfold keyF
    split
    · rfl
    · rename_i x hx
      have hk := read_kids hx
      split
      · rename_i h86
        have hn := read_arity hx 2 (by rw [h86]; rfl)
        have k0 := (hk _ (nth_mem (i := 0) (by omega))).2
        have k1 := (hk _ (nth_mem (i := 1) (by omega))).2
        rw [keyF_enough f _ (by omega) g (by omega), keyF_enough f (nth x.kids 1) (by omega) g (by omega)]
      · split
        · rename_i h75
          have hn := read_arity hx 2 (by rw [h75]; rfl)
          have k0 := (hk _ (nth_mem (i := 0) (by omega))).2
          rw [keyF_enough f _ (by omega) g (by omega)]
        · rfl
theorem keyB_86 {l : List UInt8} {x : Sh} (hx : readP l = some x) (h : x.op = 86) : keyB l = 87 :: (keyB (nth x.kids 0) ++ keyB (nth x.kids 1)) := by
  have hk := read_kids hx
  have hn := read_arity hx 2 (by rw [h]; rfl)
  have k0 := (hk _ (nth_mem (i := 0) (by omega))).2
  have k1 := (hk _ (nth_mem (i := 1) (by omega))).2
  unfold keyB
  rw [keyF, hx]
  simp only []
  rw [if_pos h, keyF_enough l.length _ k0 _ (Nat.lt_succ_self _), keyF_enough l.length _ k1 _ (Nat.lt_succ_self _)]
theorem keyB_75 {l : List UInt8} {x : Sh} (hx : readP l = some x) (h : x.op = 75) : keyB l = 76 :: (keyB (nth x.kids 0) ++ nth x.kids 1) := by
  have hk := read_kids hx
  have hn := read_arity hx 2 (by rw [h]; rfl)
  have k0 := (hk _ (nth_mem (i := 0) (by omega))).2
  unfold keyB
  rw [keyF, hx]
  simp only []
  rw [if_neg (by rw [h]; decide), if_pos h, keyF_enough l.length _ k0 _ (Nat.lt_succ_self _)]
theorem keyB_else {l : List UInt8} {x : Sh} (hx : readP l = some x) (h : x.op ≠ 86) (h' : x.op ≠ 75) : keyB l = 80 :: l := by
  unfold keyB
  rw [keyF, hx]
  simp only []
  rw [if_neg h, if_neg h']
/-- a key is no longer than its term and one byte for each -/
theorem keyB_length : ∀ n l, l.length ≤ n → rightB l = true → (keyB l).length ≤ 2 * l.length := by
  intro n
  induction n with
  | zero =>
    intro l hn hr
    obtain ⟨x, hx⟩ := right_read hr
    obtain ⟨l', e⟩ := read_head hx
    rw [e] at hn; simp at hn
  | succ n ih =>
    intro l hn hr
    obtain ⟨x, hx⟩ := right_read hr
    obtain ⟨l', e⟩ := read_head hx
    have hpos : 1 ≤ l.length := by rw [e]; simp
    have hk := read_kids hx
    obtain ⟨_, ⟨c, e2⟩, _⟩ := parse_kids (R := 63) (read_parse hx).1
    have hl := congrArg List.length e2
    rw [List.length_cons, List.length_append, List.append_nil] at hl
    have two : ∀ ks : List (List UInt8), ks.length = 2 → (nth ks 0).length + (nth ks 1).length = ks.flatten.length := by
      intro ks h2
      obtain ⟨a, b, rfl⟩ := len_two h2
      simp [nth]
    by_cases h86 : x.op = 86
    · have h2 := read_arity hx 2 (by rw [h86]; rfl)
      have t2 := two _ h2
      have k0 := hk _ (nth_mem (i := 0) (by omega))
      have k1 := hk _ (nth_mem (i := 1) (by omega))
      have i0 := ih _ (by omega) k0.1
      have i1 := ih _ (by omega) k1.1
      rw [keyB_86 hx h86, List.length_cons, List.length_append]; omega
    · by_cases h75 : x.op = 75
      · have h2 := read_arity hx 2 (by rw [h75]; rfl)
        have t2 := two _ h2
        have k0 := hk _ (nth_mem (i := 0) (by omega))
        have i0 := ih _ (by omega) k0.1
        rw [keyB_75 hx h75, List.length_cons, List.length_append]; omega
      · rw [keyB_else hx h86 h75, List.length_cons]; omega
end Go.Proofs.YtlheoipengndnabDoor
