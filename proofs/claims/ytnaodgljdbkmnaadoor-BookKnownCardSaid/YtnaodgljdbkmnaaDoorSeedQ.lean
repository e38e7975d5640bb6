/- seed: secrets out of a seed, and a store of what was heard. No program in sight. -/
import Derived.Test.YtnaodgljdbkmnaaDoorSeedP
import Derived.Test.YtnaodgljdbkmnaaDoorKeysP
namespace Go.Proofs.YtnaodgljdbkmnaaDoor
set_option linter.unusedVariables false
/-- the label of a bit, as a term's bytes -/
def labL (b : Nat) : List UInt8 := if b < 10 then [116, 49, 58, UInt8.ofNat (48 + b)] else [116, 50, 58, 49, UInt8.ofNat (38 + b)]
theorem lab_all : ((List.range 20).all fun b => rightB (labL b) && decide (deepN (labL b) = 1) && decide ((labL b).length ≤ 5)) = true := by decide +kernel
theorem lab_is {b : Nat} (h : b < 20) : rightB (labL b) = true ∧ deepN (labL b) = 1 ∧ (labL b).length ≤ 5 := by
  have := List.all_eq_true.1 lab_all b (List.mem_range.2 h)
  simp only [Bool.and_eq_true, decide_eq_true_eq] at this
  exact ⟨this.1.1, this.1.2, this.2⟩
def childL (t : List UInt8) (b : Nat) : List UInt8 := 68 :: (t ++ labL b)
def childO (t : List UInt8) (b : Nat) : Option (List UInt8) := if rightB (childL t b) = true then some (childL t b) else none
/-- from a secret on, by the lowest k bits of a place -/
def onO : List UInt8 → Nat → Nat → Option (List UInt8)
  | t, _, 0 => some t
  | t, i, k + 1 => if bitP i k = true then (match childO t k with | some u => onO u i k | none => none) else onO t i k
theorem child_some {t u : List UInt8} {b : Nat} (h : childO t b = some u) : u = childL t b ∧ rightB u = true := by
  unfold childO at h
  split at h
  · cases h; exact ⟨rfl, ‹_›⟩
  · cases h
theorem on_right : ∀ (k : Nat) (t : List UInt8) (i : Nat) (u : List UInt8), rightB t = true → onO t i k = some u → rightB u = true
  | 0, t, i, u, ht, h => by simp only [onO, Option.some.injEq] at h; rw [← h]; exact ht
  | k + 1, t, i, u, ht, h => by
    simp only [onO] at h
    split at h
    · split at h
      · exact on_right k _ i u (child_some ‹_›).2 h
      · cases h
    · exact on_right k _ i u ht h
theorem on_zero : ∀ (k : Nat) (t : List UInt8) (j : Nat), (∀ c, c < k → bitP j c = false) → onO t j k = some t
  | 0, t, j, h => rfl
  | k + 1, t, j, h => by
    simp only [onO]
    rw [if_neg (by rw [h k (by omega)]; decide)]
    exact on_zero k t j (fun c hc => h c (by omega))
theorem on_split : ∀ (d b : Nat) (t : List UInt8) (i j : Nat), (∀ c, b ≤ c → c < b + d → bitP i c = bitP j c) → (∀ c, c < b → bitP j c = false) →
    onO t i (b + d) = (onO t j (b + d)).bind fun u => onO u i b
  | 0, b, t, i, j, h1, h2 => by rw [Nat.add_zero, on_zero b t j h2]; rfl
  | d + 1, b, t, i, j, h1, h2 => by
    have ih := fun t => on_split d b t i j (fun c h h' => h1 c h (by omega)) h2
    rw [show b + (d + 1) = (b + d) + 1 by omega]
    simp only [onO]
    rw [h1 (b + d) (by omega) (by omega)]
    split
    · split
      · exact ih _
      · rfl
    · exact ih _
/-- two places of one block: the second's secret comes out of the first's -/
theorem on_block {b k : Nat} (hbk : b ≤ k) (t : List UInt8) (i j : Nat) (hj : j % 2 ^ b = 0) (h : inB b j i) : onO t i k = (onO t j k).bind fun u => onO u i b := by
  obtain ⟨d, rfl⟩ := Nat.exists_eq_add_of_le hbk
  exact on_split d b t i j (fun c hc _ => (bit_same hc h).symm) (fun c hc => bit_low hc hj)
/-! ### a seed's secrets are there if the deepest is -/
theorem child_there {t : List UInt8} {b : Nat} (ht : rightB t = true) (hb : b < 20) : childO t b = some (childL t b) ↔ t.length + (labL b).length + 1 ≤ 16384 ∧ deepN t ≤ 63 := by
  obtain ⟨l1, l2, l3⟩ := lab_is hb
  constructor
  · intro h
    obtain ⟨_, hr⟩ := child_some h
    have hm := made_two (op := 68) (by rfl) ht l1 hr
    have hl := (read_parse hm).2
    rw [List.length_cons, List.length_append] at hl
    have hd := (parse_deep 64 _ _ _ (read_parse hm).1).2.1
    simp only [] at hd
    omega
  · intro ⟨h1, h2⟩
    have := (make_two (op := 68) (by rfl) ht l1 h2 (by omega) (by omega) rfl).1
    unfold childO
    rw [if_pos (show rightB (childL t b) = true from this)]
theorem child_deep {t : List UInt8} {b : Nat} (ht : rightB t = true) (hb : b < 20) (h : rightB (childL t b) = true) : deepN (childL t b) = max (deepN t + 1) 2 := by
  obtain ⟨l1, l2, l3⟩ := lab_is hb
  have hm := made_two (op := 68) (by rfl) ht l1 h
  unfold childL
  rw [deep_of hm, l2]
  simp only []
  omega
theorem on_mono : ∀ (k : Nat) (t t' : List UInt8) (i j : Nat), k ≤ 20 → rightB t = true → rightB t' = true → t'.length ≤ t.length → deepN t' ≤ deepN t → (∀ c, c < k → bitP i c = true → bitP j c = true) → ∀ u, onO t j k = some u → ∃ u', onO t' i k = some u'
  | 0, t, t', i, j, _, _, _, _, _, _, u, _ => ⟨t', rfl⟩
  | k + 1, t, t', i, j, hk, ht, ht', hl, hd, hb, u, h => by
    have hbs := fun c (hc : c < k) => hb c (by omega)
    simp only [onO] at h ⊢
    by_cases hj : bitP j k = true
    · rw [if_pos hj] at h
      split at h
      · rename_i v hv
        obtain ⟨rfl, hvr⟩ := child_some hv
        have hth := (child_there ht (by omega)).1 hv
        have hvd := child_deep ht (by omega) hvr
        by_cases hi : bitP i k = true
        · rw [if_pos hi]
          have h' := (child_there ht' (b := k) (by omega)).2 ⟨by omega, by omega⟩
          rw [h']
          have hr' := (child_some h').2
          have hvd' := child_deep ht' (by omega) hr'
          exact on_mono k _ _ i j (by omega) hvr hr' (by simp only [childL, List.length_cons, List.length_append]; omega) (by rw [hvd, hvd']; omega) hbs u h
        · rw [if_neg hi]
          exact on_mono k _ _ i j (by omega) hvr ht' (by simp only [childL, List.length_cons, List.length_append]; omega) (by rw [hvd]; omega) hbs u h
      · cases h
    · rw [if_neg hj] at h
      have hi : ¬ bitP i k = true := fun x => hj (hb k (by omega) x)
      rw [if_neg hi]
      exact on_mono k t t' i j (by omega) ht ht' hl hd hbs u h
/-! ### what was heard -/
def TOP : Nat := 1048575
/-- the secret at a place -/
def valP (H : List (List UInt8)) (p : Nat) : List UInt8 := H.getD (TOP - p) []
/-- the lowest place that was heard -/
def lowest (H : List (List UInt8)) : Nat := TOP + 1 - H.length
structure Good (H : List (List UInt8)) : Prop where
  many : H.length ≤ TOP + 1
  right : ∀ p, lowest H ≤ p → p ≤ TOP → rightB (valP H p) = true
  makes : ∀ p, lowest H ≤ p → p ≤ TOP → keptP (lowest H) p → ∀ q, q ≤ TOP → inB (lowP p) p q → onO (valP H p) q (lowP p) = some (valP H q)
/-- does a secret make what is kept of its block? -/
def Makes (H : List (List UInt8)) (i : Nat) (t : List UInt8) : Prop := ∀ p, lowest H ≤ p → p ≤ TOP → keptP (lowest H) p → inB (lowP i) i p → onO t p (lowP i) = some (valP H p)
theorem good_nil : Good [] := ⟨Nat.zero_le _, fun p h1 h2 => by simp only [lowest, List.length_nil] at h1; omega, fun p h1 h2 => by simp only [lowest, List.length_nil] at h1; omega⟩
theorem val_old (H : List (List UInt8)) (t : List UInt8) (p : Nat) (h : lowest H ≤ p) (hp : p ≤ TOP) : valP (H ++ [t]) p = valP H p := by
  unfold valP
  have : TOP - p < H.length := by simp only [lowest] at h; omega
  rw [List.getD_eq_getElem?_getD, List.getElem?_append_left this, ← List.getD_eq_getElem?_getD]
theorem val_new (H : List (List UInt8)) (t : List UInt8) (hl : H.length ≤ TOP) : valP (H ++ [t]) (TOP - H.length) = t := by
  unfold valP
  rw [show TOP - (TOP - H.length) = H.length by omega, List.getD_eq_getElem?_getD, List.getElem?_append_right (Nat.le_refl _)]
  simp
theorem lowest_snoc (H : List (List UInt8)) (t : List UInt8) (hl : H.length ≤ TOP) : lowest (H ++ [t]) = TOP - H.length ∧ lowest H = TOP - H.length + 1 := by
  unfold lowest
  rw [List.length_append]
  simp only [List.length_cons, List.length_nil]
  omega
theorem good_snoc {H : List (List UInt8)} {t : List UInt8} (hG : Good H) (hl : H.length ≤ TOP) (ht : rightB t = true) (hM : Makes H (TOP - H.length) t) : Good (H ++ [t]) := by
  obtain ⟨e1, e2⟩ := lowest_snoc H t hl
  obtain ⟨i, hi⟩ : ∃ i, TOP - H.length = i := ⟨_, rfl⟩
  have hnew := val_new H t hl
  rw [hi] at e1 e2 hM hnew
  have hval : ∀ p, i < p → p ≤ TOP → valP (H ++ [t]) p = valP H p := fun p h1 h2 => val_old H t p (by omega) h2
  refine ⟨by rw [List.length_append]; simp only [List.length_cons, List.length_nil]; omega, fun p h1 h2 => ?_, fun p h1 h2 hk q hq hb => ?_⟩
  · rw [e1] at h1
    rcases Nat.eq_or_lt_of_le h1 with e | e
    · rw [← e, hnew]; exact ht
    · rw [hval p e h2]; exact hG.right p (by omega) h2
  · rw [e1] at h1 hk
    have hpq := (inB_iff (low_mod p)).1 hb
    rcases Nat.eq_or_lt_of_le h1 with e | e
    · subst e
      rw [hnew]
      rcases Nat.eq_or_lt_of_le hpq.1 with e | e
      · rw [← e, hnew]
        exact on_zero _ _ _ (fun c hc => bit_low hc (low_mod i))
      · rw [hval q e hq]
        obtain ⟨p', p1, p2, p3, p4⟩ := kept_covers (lowest H) q (by omega)
        have hb' : inB (lowP i) i p' := (inB_iff (low_mod i)).2 ⟨by omega, by omega⟩
        have hlow := low_lt (i := i) (j := p') (by omega) (by omega)
        have hm := hM p' p1 (by omega) p3 hb'
        rw [on_block (Nat.le_of_lt hlow) t q p' (low_mod p') p4, hm]
        exact hG.makes p' p1 (by omega) p3 q hq p4
    · rw [hval p e h2, hval q (by omega) hq]
      exact hG.makes p (by omega) h2 ((kept_next (by omega)).1 hk |>.1 |> fun h => by rw [e2]; exact h) q hq hb
/-! ### the spots of the program's store -/
def SpOk (sp : Nat → Option Nat) (m : Nat) : Prop := ∀ b, b ≤ 20 → ∀ p, sp b = some p ↔ (m ≤ p ∧ p ≤ TOP ∧ keptP m p ∧ lowP p = b)
theorem sp_nil : SpOk (fun _ => none) (TOP + 1) := fun b _ p => Iff.intro (fun h => by cases h) (fun h => by have h1 := h.1; have h2 := h.2.1; omega)
theorem sp_snoc {sp : Nat → Option Nat} {i : Nat} (hS : SpOk sp (i + 1)) (hi : i ≤ TOP) : SpOk (fun b => if b < lowP i then none else if b = lowP i then some i else sp b) i := by
  intro b hb p
  have hT : TOP + 1 = 2 ^ 20 := by decide
  -- a kept one behind i has more bits that are 0
  have far : ∀ p, i < p → p ≤ TOP → keptP i p → lowP i < lowP p := fun p h1 h2 h3 => by
    have hn := h3 i (Nat.le_refl _) h1
    refine low_gt h3 ?_ (by omega)
    rcases Nat.lt_or_ge p (i + 2 ^ lowP i) with h | h
    · exact absurd ((inB_iff (low_mod i)).2 ⟨by omega, h⟩).symm hn
    · exact h
  show (if b < lowP i then none else if b = lowP i then some i else sp b) = some p ↔ _
  by_cases h1 : b < lowP i
  · rw [if_pos h1]
    refine ⟨fun h => (by cases h), fun ⟨g1, g2, g3, g4⟩ => ?_⟩
    rcases Nat.eq_or_lt_of_le g1 with e | e
    · rw [e] at h1; omega
    · have := far p e g2 g3; omega
  · rw [if_neg h1]
    by_cases h2 : b = lowP i
    · rw [if_pos h2]
      constructor
      · intro h; cases h
        exact ⟨Nat.le_refl _, hi, kept_self i, h2.symm⟩
      · intro ⟨g1, g2, g3, g4⟩
        rcases Nat.eq_or_lt_of_le g1 with e | e
        · rw [e]
        · have := far p e g2 g3; omega
    · rw [if_neg h2, hS b hb p]
      constructor
      · intro ⟨g1, g2, g3, g4⟩
        refine ⟨by omega, g2, (kept_next g1).2 ⟨g3, fun hb' => ?_⟩, g4⟩
        have := (inB_iff (low_mod i)).1 hb'.symm
        have := low_lt (i := i) (j := p) (by omega) this.2
        omega
      · intro ⟨g1, g2, g3, g4⟩
        rcases Nat.eq_or_lt_of_le g1 with e | e
        · rw [e] at h2; omega
        · exact ⟨by omega, g2, ((kept_next (by omega)).1 g3).1, g4⟩
/-! ### how many are kept -/
def keptB (m i : Nat) : Bool := (List.range i).all fun j => decide (j < m) || !decide (i / 2 ^ lowP j = j / 2 ^ lowP j)
theorem keptB_iff (m i : Nat) : keptB m i = true ↔ keptP m i := by
  unfold keptB keptP inB
  rw [List.all_eq_true]
  constructor
  · intro h j h1 h2
    have := h j (List.mem_range.2 h2)
    simp only [Bool.or_eq_true, decide_eq_true_eq, Bool.not_eq_true', decide_eq_false_iff_not] at this
    exact this.resolve_left (by omega)
  · intro h j hj
    have hj := List.mem_range.1 hj
    simp only [Bool.or_eq_true, decide_eq_true_eq, Bool.not_eq_true', decide_eq_false_iff_not]
    rcases Nat.lt_or_ge j m with h' | h'
    · exact .inl h'
    · exact .inr (h j h' hj)
def keptN (H : List (List UInt8)) : Nat := ((List.range H.length).filter fun i => keptB (lowest H) (TOP - i)).length
theorem filterMap_some {f : Nat → Option Nat} : ∀ l : List Nat, (l.filterMap f).length = (l.filter fun b => (f b).isSome).length
  | [] => rfl
  | b :: l => by
    rw [List.filterMap_cons, List.filter_cons]
    cases f b with
    | none => simpa using filterMap_some l
    | some p => simpa using filterMap_some l
theorem nodup_filterMap {f : Nat → Option Nat} : ∀ l : List Nat, (∀ a ∈ l, ∀ b ∈ l, ∀ p, f a = some p → f b = some p → a = b) → l.Nodup → (l.filterMap f).Nodup
  | [], _, _ => List.nodup_nil
  | b :: l, hinj, h => by
    rw [List.nodup_cons] at h
    have hi : ∀ a ∈ l, ∀ b ∈ l, ∀ p, f a = some p → f b = some p → a = b := fun a ha b hb => hinj a (List.mem_cons_of_mem _ ha) b (List.mem_cons_of_mem _ hb)
    rw [List.filterMap_cons]
    cases hb : f b with
    | none => exact nodup_filterMap l hi h.2
    | some p =>
      refine List.nodup_cons.2 ⟨fun hm => ?_, nodup_filterMap l hi h.2⟩
      obtain ⟨c, hc, hcp⟩ := List.mem_filterMap.1 hm
      exact h.1 (hinj b (List.mem_cons_self ..) c (List.mem_cons_of_mem _ hc) p hb hcp ▸ hc)
theorem kept_count {sp : Nat → Option Nat} {H : List (List UInt8)} (hl : H.length ≤ TOP + 1) (hS : SpOk sp (lowest H)) : keptN H = ((List.range 21).filter fun b => (sp b).isSome).length := by
  rw [← filterMap_some]
  unfold keptN
  have e : ((List.range H.length).filter fun i => keptB (lowest H) (TOP - i)).length = (((List.range H.length).filter fun i => keptB (lowest H) (TOP - i)).map fun i => TOP - i).length := by rw [List.length_map]
  rw [e]
  apply List.Perm.length_eq
  have hlow : lowest H = TOP + 1 - H.length := rfl
  rw [List.perm_ext_iff_of_nodup]
  · intro p
    simp only [List.mem_map, List.mem_filter, List.mem_range, List.mem_filterMap]
    constructor
    · intro ⟨i, ⟨hi, hk⟩, hp⟩
      refine ⟨lowP p, by have := low_le p; omega, (hS _ (low_le p) p).2 ⟨by omega, by omega, ?_, rfl⟩⟩
      rw [← hp]; exact (keptB_iff _ _).1 hk
    · intro ⟨b, hb, hp⟩
      obtain ⟨h1, h2, h3, h4⟩ := (hS b (by omega) p).1 hp
      refine ⟨TOP - p, ⟨by omega, ?_⟩, by omega⟩
      rw [show TOP - (TOP - p) = p by omega]
      exact (keptB_iff _ _).2 h3
  · exact List.pairwise_map.2 (List.Pairwise.imp_of_mem (fun {a b} ha hb hne => by
      have ha := (List.mem_filter.1 ha).1
      have hb := (List.mem_filter.1 hb).1
      rw [List.mem_range] at ha hb
      omega) (List.Pairwise.filter _ List.nodup_range))
  · refine nodup_filterMap _ (fun a ha b hb p h1 h2 => ?_) List.nodup_range
    have ha := List.mem_range.1 ha
    have hb := List.mem_range.1 hb
    have g1 := ((hS a (by omega) p).1 h1).2.2.2
    have g2 := ((hS b (by omega) p).1 h2).2.2.2
    omega
theorem kept_21 {sp : Nat → Option Nat} {H : List (List UInt8)} (hl : H.length ≤ TOP + 1) (hS : SpOk sp (lowest H)) : keptN H ≤ 21 := by
  rw [kept_count hl hS]
  have := List.length_filter_le (fun b => (sp b).isSome) (List.range 21)
  rw [List.length_range] at this
  exact this
/-! ### a seed's own secrets -/
/-- the first n secrets of a seed -/
def secs (s : List UInt8) (n : Nat) : List (List UInt8) := (List.range n).map fun i => (onO s (TOP - i) 20).getD []
theorem secs_len (s : List UInt8) (n : Nat) : (secs s n).length = n := by unfold secs; rw [List.length_map, List.length_range]
theorem secs_succ (s : List UInt8) (n : Nat) : secs s (n + 1) = secs s n ++ [(onO s (TOP - n) 20).getD []] := by
  unfold secs; rw [List.range_succ, List.map_append]; rfl
theorem bit_top {c : Nat} (hc : c < 20) : bitP TOP c = true := by
  have : ((List.range 20).all fun c => bitP TOP c) = true := by decide
  exact List.all_eq_true.1 this c (List.mem_range.2 hc)
theorem sec_there {s u : List UInt8} (hs : rightB s = true) (h : onO s TOP 20 = some u) (i : Nat) : ∃ t, onO s i 20 = some t ∧ rightB t = true := by
  obtain ⟨t, ht⟩ := on_mono 20 s s i TOP (Nat.le_refl _) hs hs (Nat.le_refl _) (Nat.le_refl _) (fun c hc _ => bit_top hc) u h
  exact ⟨t, ht, on_right 20 s i t hs ht⟩
theorem sec_val {s u : List UInt8} (hs : rightB s = true) (h : onO s TOP 20 = some u) {n p : Nat} (hn : n ≤ TOP + 1) (h1 : TOP + 1 - n ≤ p) (h2 : p ≤ TOP) : onO s p 20 = some (valP (secs s n) p) := by
  obtain ⟨t, ht, _⟩ := sec_there hs h p
  unfold valP secs
  rw [List.getD_eq_getElem?_getD, List.getElem?_map, List.getElem?_range (by omega)]
  simp only [Option.map_some, Option.getD_some]
  rw [show TOP - (TOP - p) = p by omega, ht]; rfl
/-- a seed's secret makes what is kept of its block -/
theorem sec_makes {s u : List UInt8} (hs : rightB s = true) (h : onO s TOP 20 = some u) {n : Nat} (hn : n ≤ TOP) : Makes (secs s n) (TOP - n) ((onO s (TOP - n) 20).getD []) := by
  intro p h1 h2 _ hb
  obtain ⟨t, ht, _⟩ := sec_there hs h (TOP - n)
  rw [ht]
  have e := on_block (low_le (TOP - n)) s p (TOP - n) (low_mod _) hb
  rw [ht, sec_val hs h (n := n) (by omega) (by simpa [lowest, secs_len] using h1) h2] at e
  exact e.symm
theorem secs_good {s u : List UInt8} (hs : rightB s = true) (h : onO s TOP 20 = some u) : ∀ n, n ≤ TOP + 1 → Good (secs s n)
  | 0, _ => good_nil
  | n + 1, hn => by
    rw [secs_succ]
    obtain ⟨t, ht, htr⟩ := sec_there hs h (TOP - n)
    have hM := sec_makes hs h (n := n) (by omega)
    rw [ht] at hM ⊢
    refine good_snoc (secs_good hs h n (by omega)) (by rw [secs_len]; omega) htr ?_
    rw [secs_len]; exact hM
/-- another one makes not what is kept: at a place that is even, the one above -/
theorem wrong_makes {s u wr : List UInt8} (hs : rightB s = true) (h : onO s TOP 20 = some u) {n : Nat} (hn : n ≤ TOP) (hodd : n % 2 = 1) (hne : wr ≠ (onO s (TOP - n) 20).getD []) : ¬ Makes (secs s n) (TOP - n) wr := by
  intro hM
  obtain ⟨i, hi⟩ : ∃ i, TOP - n = i := ⟨_, rfl⟩
  rw [hi] at hM hne
  have hT : TOP = 1048575 := rfl
  have hev : i % 2 = 0 := by omega
  have hlow : 1 ≤ lowP i := low_ge (by omega) (by simpa using hev)
  have hpl : lowP (i + 1) = 0 := low_eq (by omega) (by simp [Nat.mod_one]) (fun _ => by unfold bitP; simp; omega)
  have hp2 : 2 ≤ 2 ^ lowP i := by
    have := Nat.pow_le_pow_right (show 0 < 2 by omega) hlow
    simpa using this
  have hlo : lowest (secs s n) = i + 1 := by unfold lowest; rw [secs_len]; omega
  have hb : inB (lowP i) i (i + 1) := (inB_iff (low_mod i)).2 ⟨by omega, by omega⟩
  have hm := hM (i + 1) (by omega) (by omega) (by rw [hlo]; exact kept_self _) hb
  have hr := sec_makes hs h hn (i + 1) (by omega) (by omega) (by rw [hlo]; exact kept_self _) (by rw [hi]; exact hb)
  rw [hi] at hr
  -- only the lowest bit is there
  have key : ∀ t v, onO t (i + 1) (lowP i) = some v → v = childL t 0 := by
    intro t v hv
    have e := on_split (lowP i - 1) 1 t (i + 1) i (fun c hc hc2 => by
      obtain ⟨d, rfl⟩ := Nat.exists_eq_add_of_le hc
      unfold bitP
      rw [div_pow, div_pow, show (i + 1) / 2 ^ 1 = i / 2 ^ 1 by simp only [Nat.pow_one]; omega]) (fun c hc => bit_low (show c < 1 from hc) (by simpa using hev))
    rw [show 1 + (lowP i - 1) = lowP i by omega, on_zero (lowP i) t i (fun c hc => bit_low hc (low_mod i))] at e
    rw [e] at hv
    simp only [Option.bind_some, onO] at hv
    rw [if_pos (by unfold bitP; simp; omega)] at hv
    split at hv
    · rename_i w hw
      rw [(child_some hw).1] at hv
      exact (Option.some.inj hv).symm
    · cases hv
  have e1 := key _ _ hm
  have e2 := key _ _ hr
  rw [e1] at e2
  unfold childL at e2
  have := (List.cons.inj e2).2
  exact hne (List.append_cancel_right this)
end Go.Proofs.YtnaodgljdbkmnaaDoor
