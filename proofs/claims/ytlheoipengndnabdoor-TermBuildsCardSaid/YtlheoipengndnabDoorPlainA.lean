/- term: the parts of a right term are right terms, and shorter. No program in sight. -/
import Derived.Test.YtlheoipengndnabDoorTermM
namespace Go.Proofs.YtlheoipengndnabDoor
set_option linter.unusedVariables false
theorem parse_kids {R : Nat} {l : List UInt8} {x : Sh} {r : List UInt8} (h : parse (R + 1) l = some (x, r)) :
    (∀ c ∈ x.kids, ∃ y, parse R c = some (y, [])) ∧ (∃ c, l = x.op :: (c ++ (x.kids.flatten ++ r))) ∧ (∀ k, arity x.op = some k → x.kids.length = k) ∧ fitsB x.op x.kids = true := by
  cases l with
  | nil => rw [parse_nil] at h; cases h
  | cons op l =>
    simp only [parse] at h
    split at h
    · rename_i h1
      split at h
      · cases h
      · rename_i n t hn
        cases h
        obtain ⟨c, rfl, _⟩ := num_front 59 l _ _ hn
        subst h1
        exact ⟨fun c hc => (by cases hc), ⟨c, by simp⟩, fun k hk => by simp [arity] at hk, rfl⟩
    · rename_i h1
      split at h
      · rename_i h2
        split at h
        · cases h
        · rename_i n t hn
          split at h
          · rename_i hb
            cases h
            obtain ⟨c, rfl, _⟩ := num_front 58 l n t hn
            subst h2
            exact ⟨fun c hc => (by cases hc), ⟨c ++ t.take n, by simp⟩, fun k hk => by simp [arity] at hk, rfl⟩
          · cases h
      · rename_i h2
        split at h
        · cases h
        · rename_i k t hk
          split at h
          · cases h
          · rename_i ks d u hu
            split at h
            · rename_i hf
              cases h
              obtain ⟨c, rfl, _⟩ := many_front op l _ _ hk
              obtain ⟨e1, e2, e3⟩ := kids_each (parse R) (parse_front R) k t ks d _ hu
              refine ⟨fun z hz => (e3 z hz).imp fun y hy => hy.1, ⟨c, by rw [e2]⟩, fun k' hk' => ?_, hf⟩
              have h84 : op ≠ 84 := by intro e; rw [e] at hk'; simp [arity] at hk'
              unfold many at hk
              rw [if_neg h84, hk'] at hk
              simp only [Option.some.injEq, Prod.mk.injEq] at hk
              rw [e1]; exact hk.1.symm
            · cases h
theorem read_parse {l : List UInt8} {x : Sh} (h : readP l = some x) : parse 64 l = some (x, []) ∧ l.length ≤ 16384 := by
  unfold readP at h
  split at h
  · rename_i hl
    refine ⟨?_, hl⟩
    split at h
    · cases h; assumption
    · cases h
  · cases h
theorem mem_flatten_le {k : List UInt8} : ∀ {ks : List (List UInt8)}, k ∈ ks → k.length ≤ ks.flatten.length
  | [], h => by cases h
  | a :: ks, h => by
    rw [List.flatten_cons, List.length_append]
    rcases List.mem_cons.1 h with rfl | h
    · omega
    · have := mem_flatten_le h; omega
/-- the parts of a right term are right, and shorter -/
theorem read_kids {l : List UInt8} {x : Sh} (h : readP l = some x) : ∀ k ∈ x.kids, rightB k = true ∧ k.length < l.length := by
  obtain ⟨hp, hl⟩ := read_parse h
  obtain ⟨e1, ⟨c, e2⟩, _⟩ := parse_kids (R := 63) hp
  intro k hk
  have hlen : k.length < l.length := by
    have := mem_flatten_le hk
    have := congrArg List.length e2
    rw [List.length_cons, List.length_append, List.length_append] at this
    omega
  obtain ⟨y, hy⟩ := e1 k hk
  refine ⟨?_, hlen⟩
  unfold rightB readP
  rw [if_pos (by omega), parse_le (by omega) hy]
  rfl
theorem right_read {l : List UInt8} (h : rightB l = true) : ∃ x, readP l = some x := Option.isSome_iff_exists.1 h
theorem read_head {l : List UInt8} {x : Sh} (h : readP l = some x) : ∃ l', l = x.op :: l' := by
  obtain ⟨_, ⟨c, e⟩, _⟩ := parse_kids (R := 63) (read_parse h).1
  exact ⟨_, e⟩
theorem read_arity {l : List UInt8} {x : Sh} (h : readP l = some x) (k : Nat) (hk : arity x.op = some k) : x.kids.length = k := (parse_kids (R := 63) (read_parse h).1).2.2.1 k hk
/-- the key of a right term, by room -/
def keyF : Nat → List UInt8 → List UInt8
  | 0, _ => []
  | f + 1, l => match readP l with
    | none => []
    | some x =>
      if x.op = 86 then 87 :: (keyF f (nth x.kids 0) ++ keyF f (nth x.kids 1))
      else if x.op = 75 then 76 :: (keyF f (nth x.kids 0) ++ nth x.kids 1)
      else 80 :: l
def keyB (l : List UInt8) : List UInt8 := keyF (l.length + 1) l
end Go.Proofs.YtlheoipengndnabDoor
