/- term: what is made of two right terms opens as those two; keys are terms, and unlike for unlike secrets. No program in sight. -/
import Derived.Test.YtbdimlppnhcicaaGreatDoorKa
namespace Go.Proofs.YtbdimlppnhcicaaGreatDoor
set_option linter.unusedVariables false
theorem front_app {R : Nat} {a : List UInt8} {x : Sh} (h : parse R a = some (x, [])) (z : List UInt8) : parse R (a ++ z) = some (x, z) := by
  obtain ⟨c, e, hz⟩ := parse_front R a x [] h
  rw [List.append_nil] at e
  rw [e]; exact hz z
theorem front_back {R : Nat} {a z : List UInt8} {x : Sh} (h : parse R (a ++ z) = some (x, z)) : parse R a = some (x, []) := by
  obtain ⟨c, e, hz⟩ := parse_front R _ x z h
  have := hz []
  rw [List.append_nil] at this
  rw [List.append_cancel_right e]; exact this
theorem parse_same {R S : Nat} {l : List UInt8} {y y' : Sh × List UInt8} (h : parse R l = some y) (h' : parse S l = some y') : y = y' := by
  have h1 := parse_le (Nat.le_max_left R S) h
  have h2 := parse_le (Nat.le_max_right R S) h'
  rw [h1] at h2; exact Option.some.inj h2
theorem take_len (a z : List UInt8) : (a ++ z).take ((a ++ z).length - z.length) = a := by
  have : (a ++ z).length - z.length = a.length := by simp
  rw [this]; simp
theorem kidsP_one {R : Nat} {a z : List UInt8} {xa : Sh} (ha : parse R a = some (xa, [])) : kidsP (parse R) 1 (a ++ z) = some ([a], max (xa.deep + 1) 1, z) := by
  simp only [kidsP, front_app ha, take_len]
theorem kidsP_two {R : Nat} {a b z : List UInt8} {xa xb : Sh} (ha : parse R a = some (xa, [])) (hb : parse R b = some (xb, [])) : kidsP (parse R) 2 (a ++ (b ++ z)) = some ([a, b], max (xa.deep + 1) (max (xb.deep + 1) 1), z) := by
  simp only [kidsP, front_app ha, front_app hb, take_len]
theorem kidsP_two_back {R S : Nat} {a b : List UInt8} {xa xb : Sh} (ha : parse S a = some (xa, [])) (hb : parse S b = some (xb, [])) {ks : List (List UInt8)} {d : Nat} {u : List UInt8} (h : kidsP (parse R) 2 (a ++ b) = some (ks, d, u)) :
    parse R a = some (xa, []) ∧ parse R b = some (xb, []) := by
  simp only [kidsP] at h
  split at h
  · cases h
  · rename_i x t hx
    have e := parse_same hx (front_app ha b)
    cases e
    have hra := front_back hx
    split at h
    · cases h
    · rename_i ks' d' u' hk
      split at hk
      · cases hk
      · rename_i y v hy
        have e := parse_same hy hb
        cases e
        exact ⟨hra, hy⟩
theorem arity_two {op : UInt8} {k : Nat} (h : arity op = some k) : op ≠ 110 ∧ op ≠ 116 ∧ op ≠ 84 :=
  ⟨fun e => by rw [e] at h; simp [arity] at h, fun e => by rw [e] at h; simp [arity] at h, fun e => by rw [e] at h; simp [arity] at h⟩
theorem parse_arity {op : UInt8} {k R : Nat} (h : arity op = some k) (l : List UInt8) : parse (R + 1) (op :: l) = match kidsP (parse R) k l with
    | none => none
    | some (ks, d, u) => if fitsB op ks then some (⟨op, 0, [], ks, d⟩, u) else none := by
  obtain ⟨h1, h2, h3⟩ := arity_two h
  simp only [parse, if_neg h1, if_neg h2, many, if_neg h3, h]
  cases kidsP (parse R) k l <;> rfl
theorem parse_two {op : UInt8} {R : Nat} {a b : List UInt8} {xa xb : Sh} (har : arity op = some 2) (ha : parse R a = some (xa, [])) (hb : parse R b = some (xb, [])) (hf : fitsB op [a, b] = true) :
    parse (R + 1) (op :: (a ++ b)) = some (⟨op, 0, [], [a, b], max (xa.deep + 1) (max (xb.deep + 1) 1)⟩, []) := by
  have h := kidsP_two (z := []) ha hb
  rw [List.append_nil] at h
  rw [parse_arity har, h]; simp only [hf, if_true]
theorem parse_one {op : UInt8} {R : Nat} {a : List UInt8} {xa : Sh} (har : arity op = some 1) (ha : parse R a = some (xa, [])) (hf : fitsB op [a] = true) :
    parse (R + 1) (op :: a) = some (⟨op, 0, [], [a], max (xa.deep + 1) 1⟩, []) := by
  have h := kidsP_one (z := []) ha
  rw [List.append_nil] at h
  rw [parse_arity har, h]; simp only [hf, if_true]
theorem parse_two_back {op : UInt8} {R S : Nat} {a b : List UInt8} {xa xb : Sh} {y : Sh × List UInt8} (har : arity op = some 2) (ha : parse S a = some (xa, [])) (hb : parse S b = some (xb, [])) (h : parse (R + 1) (op :: (a ++ b)) = some y) :
    y = (⟨op, 0, [], [a, b], max (xa.deep + 1) (max (xb.deep + 1) 1)⟩, []) ∧ fitsB op [a, b] = true ∧ parse R a = some (xa, []) ∧ parse R b = some (xb, []) := by
  rw [parse_arity har] at h
  split at h
  · cases h
  · rename_i ks d u hk
    obtain ⟨h1, h2⟩ := kidsP_two_back ha hb hk
    have e := kidsP_two (z := []) h1 h2
    rw [List.append_nil, hk] at e
    cases e
    split at h
    · rename_i hf
      cases h
      exact ⟨rfl, hf, h1, h2⟩
    · cases h
theorem deep_of {l : List UInt8} {x : Sh} (h : readP l = some x) : deepN l = x.deep := by unfold deepN; rw [h]
theorem made_two {op : UInt8} {a b : List UInt8} (har : arity op = some 2) (ha : rightB a = true) (hb : rightB b = true) (h : rightB (op :: (a ++ b)) = true) :
    readP (op :: (a ++ b)) = some ⟨op, 0, [], [a, b], max (deepN a + 1) (max (deepN b + 1) 1)⟩ := by
  obtain ⟨xa, hxa⟩ := right_read ha
  obtain ⟨xb, hxb⟩ := right_read hb
  obtain ⟨x, hx⟩ := right_read h
  obtain ⟨e, _⟩ := parse_two_back (R := 63) har (read_parse hxa).1 (read_parse hxb).1 (read_parse hx).1
  cases e
  rw [hx, deep_of hxa, deep_of hxb]
theorem num_two (z : List UInt8) : num 58 (50 :: 58 :: z) = some (2, z) := by simp [num, numTail]
theorem made_pair {a b : List UInt8} (ha : rightB a = true) (hb : rightB b = true) (h : rightB (84 :: 50 :: 58 :: (a ++ b)) = true) :
    readP (84 :: 50 :: 58 :: (a ++ b)) = some ⟨84, 0, [], [a, b], max (deepN a + 1) (max (deepN b + 1) 1)⟩ := by
  obtain ⟨xa, hxa⟩ := right_read ha
  obtain ⟨xb, hxb⟩ := right_read hb
  obtain ⟨x, hx⟩ := right_read h
  have hp := (read_parse hx).1
  have e : parse (63 + 1) (84 :: 50 :: 58 :: (a ++ b)) = match kidsP (parse 63) 2 (a ++ b) with
    | none => none
    | some (ks, d, u) => if fitsB 84 ks then some (⟨84, 0, [], ks, d⟩, u) else none := by
    simp only [parse, if_neg (show ¬ (84 : UInt8) = 110 by decide), if_neg (show ¬ (84 : UInt8) = 116 by decide), many, if_pos, num_two, if_pos (show (2 : Nat) ≤ 32 by decide)]
    cases kidsP (parse 63) 2 (a ++ b) <;> rfl
  have hp' : parse (63 + 1) (84 :: 50 :: 58 :: (a ++ b)) = some (x, []) := hp
  rw [e] at hp'
  split at hp'
  · cases hp'
  · rename_i ks d u hk
    obtain ⟨h1, h2⟩ := kidsP_two_back (read_parse hxa).1 (read_parse hxb).1 hk
    have e := kidsP_two (z := []) h1 h2
    rw [List.append_nil, hk] at e
    cases e
    split at hp'
    · cases hp'
      rw [hx, deep_of hxa, deep_of hxb]
    · cases hp'
/-- two pairs of right terms, side by side, are the same pair -/
theorem pair_inj {a b a' b' : List UInt8} (ha : rightB a = true) (ha' : rightB a' = true) (h : a ++ b = a' ++ b') : a = a' ∧ b = b' := by
  obtain ⟨xa, hxa⟩ := right_read ha
  obtain ⟨xb, hxb⟩ := right_read ha'
  have h1 := front_app (read_parse hxa).1 b
  have h2 := front_app (read_parse hxb).1 b'
  rw [h, h2] at h1
  cases h1
  exact ⟨List.append_cancel_right h, rfl⟩
/-- what a right term with an op of so many parts is made of -/
theorem read_flat {l : List UInt8} {x : Sh} {k : Nat} (h : readP l = some x) (hk : arity x.op = some k) : l = x.op :: x.kids.flatten := by
  obtain ⟨l', e⟩ := read_head h
  have hp : parse (63 + 1) l = some (x, []) := (read_parse h).1
  rw [e, parse_arity hk] at hp
  split at hp
  · cases hp
  · rename_i ks d u hu
    split at hp
    · have h2 := (kids_each (parse 63) (parse_front 63) k _ _ _ _ hu).2.1
      simp only [Option.some.injEq, Prod.mk.injEq] at hp
      obtain ⟨e1, rfl⟩ := hp
      have e2 : x.kids = ks := by rw [← e1]
      rw [e, e2, h2, List.append_nil]
    · cases hp
theorem pub_cons (c : UInt8) (l : List UInt8) (h : c = 80 ∨ c = 87 ∨ c = 76) : isPub (c :: l) = true := by
  rcases h with rfl | rfl | rfl <;> rfl
theorem keyB_pub {l : List UInt8} (h : rightB l = true) : isPub (keyB l) = true := by
  obtain ⟨x, hx⟩ := right_read h
  by_cases h86 : x.op = 86
  · rw [keyB_86 hx h86]; exact pub_cons _ _ (by decide)
  · by_cases h75 : x.op = 75
    · rw [keyB_75 hx h75]; exact pub_cons _ _ (by decide)
    · rw [keyB_else hx h86 h75]; exact pub_cons _ _ (by decide)
theorem nth_two {ks : List (List UInt8)} (h : ks.length = 2) : ks = [nth ks 0, nth ks 1] := by
  obtain ⟨a, b, rfl⟩ := len_two h; rfl
/-- the parts' depths -/
theorem read_kids_deep {l : List UInt8} {x : Sh} (h : readP l = some x) : ∀ k ∈ x.kids, ∀ y, readP k = some y → y.deep + 1 ≤ x.deep := by
  intro k hk y hy
  obtain ⟨h1, h2, h3⟩ := parse_deep 64 l x [] (read_parse h).1
  obtain ⟨d, hd⟩ : ∃ d, x.deep = d + 1 := ⟨x.deep - 1, by omega⟩
  rw [hd] at h3
  obtain ⟨z, hz⟩ := (parse_kids h3).1 k hk
  have e := parse_same hz (read_parse hy).1
  cases e
  have := (parse_deep d k y [] hz).2.1
  omega
/-- a key is a term, one deeper at most -/
theorem key_parse : ∀ (n : Nat) (l : List UInt8), l.length ≤ n → ∀ x, readP l = some x → ∃ y, parse (x.deep + 1) (keyB l) = some (y, []) := by
  intro n
  induction n with
  | zero =>
    intro l hn x hx
    obtain ⟨l', e⟩ := read_head hx
    rw [e] at hn; simp at hn
  | succ n ih =>
    intro l hn x hx
    have hk := read_kids hx
    have hkd := read_kids_deep hx
    obtain ⟨h1, h2, h3⟩ := parse_deep 64 l x [] (read_parse hx).1
    by_cases h86 : x.op = 86
    · have hl := read_arity hx 2 (by rw [h86]; rfl)
      have m0 := nth_mem (ks := x.kids) (i := 0) (by omega)
      have m1 := nth_mem (ks := x.kids) (i := 1) (by omega)
      obtain ⟨x0, hx0⟩ := right_read (hk _ m0).1
      obtain ⟨x1, hx1⟩ := right_read (hk _ m1).1
      obtain ⟨y0, hy0⟩ := ih _ (by have := (hk _ m0).2; omega) x0 hx0
      obtain ⟨y1, hy1⟩ := ih _ (by have := (hk _ m1).2; omega) x1 hx1
      have d0 := hkd _ m0 _ hx0
      have d1 := hkd _ m1 _ hx1
      rw [keyB_86 hx h86]
      refine ⟨_, parse_two (by rfl) (parse_le (by omega) hy0) (parse_le (by omega) hy1) ?_⟩
      simp [fitsB, nth]
      have := keyB_pub (hk _ m0).1
      have := keyB_pub (hk _ m1).1
      simp_all [nth]
    · by_cases h75 : x.op = 75
      · have hl := read_arity hx 2 (by rw [h75]; rfl)
        have m0 := nth_mem (ks := x.kids) (i := 0) (by omega)
        have m1 := nth_mem (ks := x.kids) (i := 1) (by omega)
        obtain ⟨x0, hx0⟩ := right_read (hk _ m0).1
        obtain ⟨x1, hx1⟩ := right_read (hk _ m1).1
        obtain ⟨y0, hy0⟩ := ih _ (by have := (hk _ m0).2; omega) x0 hx0
        have d0 := hkd _ m0 _ hx0
        have d1 := hkd _ m1 _ hx1
        have g1 := (parse_deep 64 _ x1 [] (read_parse hx1).1).2.2
        rw [keyB_75 hx h75]
        refine ⟨_, parse_two (by rfl) (parse_le (by omega) hy0) (parse_le (by omega) g1) ?_⟩
        have := keyB_pub (hk _ m0).1
        simp_all [nth, fitsB]
      · rw [keyB_else hx h86 h75]
        obtain ⟨l', e⟩ := read_head hx
        refine ⟨_, parse_one (by rfl) h3 ?_⟩
        rw [e]
        simp [fitsB, nth, h86, h75]
/-- unlike secrets have unlike keys -/
theorem key_inj : ∀ (n : Nat) (l l' : List UInt8), l.length ≤ n → rightB l = true → rightB l' = true → keyB l = keyB l' → l = l' := by
  intro n
  induction n with
  | zero =>
    intro l l' hn hr
    obtain ⟨x, hx⟩ := right_read hr
    obtain ⟨l', e⟩ := read_head hx
    rw [e] at hn; simp at hn
  | succ n ih =>
    intro l l' hn hr hr' h
    obtain ⟨x, hx⟩ := right_read hr
    obtain ⟨x', hx'⟩ := right_read hr'
    have hk := read_kids hx
    have hk' := read_kids hx'
    have keyeq : ∀ a b a' b', a.length ≤ n → rightB a = true → rightB a' = true → keyB a ++ b = keyB a' ++ b' → a = a' ∧ b = b' := by
      intro a b a' b' hn ha ha' h
      obtain ⟨y, hy⟩ := right_read ha
      obtain ⟨y', hy'⟩ := right_read ha'
      obtain ⟨z, hz⟩ := key_parse _ _ (Nat.le_refl _) y hy
      obtain ⟨z', hz'⟩ := key_parse _ _ (Nat.le_refl _) y' hy'
      have h1 := front_app hz b
      have h2 := front_app hz' b'
      rw [h] at h1
      have e := parse_same h1 h2
      cases e
      exact ⟨ih _ _ hn ha ha' (List.append_cancel_right h), rfl⟩
    by_cases h86 : x.op = 86
    · have hl := read_arity hx 2 (by rw [h86]; rfl)
      have m0 := nth_mem (ks := x.kids) (i := 0) (by omega)
      rw [keyB_86 hx h86] at h
      by_cases h86' : x'.op = 86
      · have hl' := read_arity hx' 2 (by rw [h86']; rfl)
        have m0' := nth_mem (ks := x'.kids) (i := 0) (by omega)
        rw [keyB_86 hx' h86'] at h
        simp only [List.cons.injEq, true_and] at h
        obtain ⟨e0, e1⟩ := keyeq _ _ _ _ (by have := (hk _ m0).2; omega) (hk _ m0).1 (hk' _ m0').1 h
        have m1 := nth_mem (ks := x.kids) (i := 1) (by omega)
        have m1' := nth_mem (ks := x'.kids) (i := 1) (by omega)
        have e1' := ih _ _ (by have := (hk _ m1).2; omega) (hk _ m1).1 (hk' _ m1').1 e1
        rw [read_flat hx (k := 2) (by rw [h86]; rfl), read_flat hx' (k := 2) (by rw [h86']; rfl), nth_two hl, nth_two hl', e0, e1', h86, h86']
      · by_cases h75' : x'.op = 75
        · rw [keyB_75 hx' h75'] at h; simp at h
        · rw [keyB_else hx' h86' h75'] at h; simp at h
    · by_cases h75 : x.op = 75
      · have hl := read_arity hx 2 (by rw [h75]; rfl)
        have m0 := nth_mem (ks := x.kids) (i := 0) (by omega)
        rw [keyB_75 hx h75] at h
        by_cases h86' : x'.op = 86
        · rw [keyB_86 hx' h86'] at h; simp at h
        · by_cases h75' : x'.op = 75
          · have hl' := read_arity hx' 2 (by rw [h75']; rfl)
            have m0' := nth_mem (ks := x'.kids) (i := 0) (by omega)
            rw [keyB_75 hx' h75'] at h
            simp only [List.cons.injEq, true_and] at h
            obtain ⟨e0, e1⟩ := keyeq _ _ _ _ (by have := (hk _ m0).2; omega) (hk _ m0).1 (hk' _ m0').1 h
            rw [read_flat hx (k := 2) (by rw [h75]; rfl), read_flat hx' (k := 2) (by rw [h75']; rfl), nth_two hl, nth_two hl', e0, e1, h75, h75']
          · rw [keyB_else hx' h86' h75'] at h; simp at h
      · rw [keyB_else hx h86 h75] at h
        by_cases h86' : x'.op = 86
        · rw [keyB_86 hx' h86'] at h; simp at h
        · by_cases h75' : x'.op = 75
          · rw [keyB_75 hx' h75'] at h; simp at h
          · rw [keyB_else hx' h86' h75'] at h
            simpa using h
end Go.Proofs.YtbdimlppnhcicaaGreatDoor
