/- onion: what is built for a route, how it peels, the way back; no program in sight -/
import Derived.Test.YtbdimlppnhcicaaGreatDoorOnM
import Derived.Test.YtbdimlppnhcicaaGreatDoorOnG
namespace Go.Proofs.YtbdimlppnhcicaaGreatDoor
set_option linter.unusedVariables false
/-! onion: names, texts, tuples, keys as they open. No program in sight. -/
theorem numTail_dig (e : UInt8) (he : isDig e = false) : ∀ (l : List UInt8) (n : Nat) (z : List UInt8), l.all isDig = true → (l ≠ [] → n ≠ 0) → decF n l ≤ 9223372036854775807 → numTail e n (l ++ e :: z) = some (decF n l, z)
  | [], n, z, _, _, _ => by simp [numTail, decF]
  | c :: l, n, z, h, hn, hm => by
    simp only [List.all_cons, Bool.and_eq_true] at h
    have hc := of_decide_eq_true h.1
    have hce : ¬ c = e := fun x => by rw [x, he] at h; exact absurd h.1 (by simp)
    rw [decF_cons] at hm ⊢
    have h0 := hn (by simp)
    have h1 := decF_ge l (n * 10 + (c.toNat - 48))
    have h2 : n * 10 + (c.toNat - 48) ≤ decF (n * 10 + (c.toNat - 48)) l := Nat.le_trans (Nat.le_mul_of_pos_right _ (Nat.pow_pos (by omega))) h1
    rw [List.cons_append, numTail, if_neg hce, if_pos ⟨hc.1, hc.2, h0, by omega⟩]
    exact numTail_dig e he l _ z h.2 (fun _ => by omega) hm
theorem num_good (e : UInt8) (he : isDig e = false) {l : List UInt8} (h : goodB l = true) (hm : decV l ≤ 9223372036854775807) (z : List UInt8) : num e (l ++ e :: z) = some (decV l, z) := by
  cases l with
  | nil => simp [goodB] at h
  | cons c l =>
    obtain ⟨h1, h2, h3⟩ := good_cons h
    have hc := of_decide_eq_true h1
    have hv : decV (c :: l) = decF (c.toNat - 48) l := by unfold decV; rw [decF_cons, Nat.zero_mul, Nat.zero_add]
    rw [hv] at hm ⊢
    rw [List.cons_append, num, if_pos hc]
    exact numTail_dig e he l _ z h2 (fun hl h0 => h3 hl (UInt8.toNat_inj.1 (by have h48 : (48 : UInt8).toNat = 48 := rfl; omega))) hm
theorem num_dec (e : UInt8) (he : isDig e = false) (u : Nat) (hu : u ≤ 9223372036854775807) (z : List UInt8) : num e (Lib.decDigits u ++ e :: z) = some (u, z) := by
  obtain ⟨h1, h2, _⟩ := dec_good u
  have h := num_good e he h1 (by rw [h2]; exact hu) z
  rwa [h2] at h
theorem dec_len (u : Nat) (hu : u ≤ 9223372036854775807) : (Lib.decDigits u).length ≤ 21 := by
  have h := itoa_size (u : Int) (by omega) (by omega)
  rw [itoa_nat, ← list_size, ba_list] at h
  exact h
theorem nameS_list (u : Nat) : (nameS (u : Int)).data.toList = 110 :: (Lib.decDigits u ++ [59]) := by unfold nameS; rw [itoa_nat]; simp
theorem textS_list (s : ByteArray) : (textS s).data.toList = 116 :: (Lib.decDigits s.size ++ 58 :: s.data.toList) := by unfold textS; rw [itoa_nat]; simp
theorem headS_list (n : Nat) : (headS n).data.toList = 84 :: (Lib.decDigits n ++ [58]) := by unfold headS; rw [itoa_nat]; simp
theorem op4_of {l : List UInt8} {x : Sh} (h : readP l = some x) : op4 l = ⟨x.op.toNat, x.n, ⟨x.text.toArray⟩, x.kids.map (fun k => (⟨k.toArray⟩ : ByteArray)), true⟩ := by unfold op4; rw [h]
theorem kids_back (vs : List ByteArray) : (vs.map (fun v => v.data.toList)).map (fun k => (⟨k.toArray⟩ : ByteArray)) = vs := by
  rw [List.map_map]
  have e : ((fun k : List UInt8 => (⟨k.toArray⟩ : ByteArray)) ∘ fun v : ByteArray => v.data.toList) = id := by funext v; exact ba_back v
  rw [e, List.map_id]
/-- a right term of so many bytes, so deep at most -/
structure Rt (t : ByteArray) (n d : Nat) : Prop where
  r : rt t = true
  s : t.size ≤ n
  d : deepN t.data.toList ≤ d
theorem Rt.mono {t : ByteArray} {n d n' d' : Nat} (h : Rt t n d) (hn : n ≤ n') (hd : d ≤ d') : Rt t n' d' := ⟨h.r, Nat.le_trans h.s hn, Nat.le_trans h.d hd⟩
theorem Rt.parse {t : ByteArray} {n d : Nat} (h : Rt t n d) {R : Nat} (hR : d ≤ R) : ∃ x, parse R t.data.toList = some (x, []) ∧ x.deep ≤ d := by
  obtain ⟨x, hx⟩ := right_read h.r
  have hd := h.d
  rw [deep_of hx] at hd
  exact ⟨x, parse_le (Nat.le_trans hd hR) (parse_deep 64 _ x [] (read_parse hx).1).2.2, hd⟩
theorem rt_of_parse {t : ByteArray} {R n : Nat} {x : Sh} (hp : parse R t.data.toList = some (x, [])) (hR : R ≤ 64) (hn : t.size ≤ n) (hm : n ≤ 16384) (d : Nat) (hd : x.deep ≤ d) : Rt t n d ∧ readP t.data.toList = some x := by
  obtain ⟨h1, h2⟩ := right_of hR (by rw [list_size]; omega) hp
  exact ⟨⟨h1, hn, by rw [deep_of h2]; exact hd⟩, h2⟩
theorem parse_name (R u : Nat) (hu : u ≤ 9223372036854775807) : parse (R + 1) (nameS (u : Int)).data.toList = some (⟨110, u, [], [], 1⟩, []) := by
  rw [nameS_list, parse, if_pos rfl, num_dec 59 (by decide) u hu []]
theorem name_rt (u : Nat) (hu : u ≤ 9223372036854775807) : Rt (nameS (u : Int)) 23 1 ∧ readP (nameS (u : Int)).data.toList = some ⟨110, u, [], [], 1⟩ := by
  refine rt_of_parse (parse_name 63 u hu) (by omega) ?_ (by omega) 1 (Nat.le_refl _)
  rw [← list_size, nameS_list]
  have := dec_len u hu
  simp; omega
theorem name_op4 (u : Nat) (hu : u ≤ 9223372036854775807) : op4 (nameS (u : Int)).data.toList = ⟨110, u, e0, [], true⟩ := op4_of (name_rt u hu).2
theorem parse_text (R : Nat) (s : ByteArray) (hs : s.size ≤ 4096) : parse (R + 1) (textS s).data.toList = some (⟨116, 0, s.data.toList, [], 1⟩, []) := by
  rw [textS_list, parse, if_neg (by decide), if_pos rfl, num_dec 58 (by decide) s.size (by omega) _]
  have hl : s.data.toList.length = s.size := list_size s
  dsimp only
  rw [if_pos ⟨hs, by omega⟩, List.take_of_length_le (by omega), List.drop_of_length_le (by omega)]
theorem text_rt (s : ByteArray) (hs : s.size ≤ 4096) : Rt (textS s) (s.size + 23) 1 ∧ readP (textS s).data.toList = some ⟨116, 0, s.data.toList, [], 1⟩ := by
  refine rt_of_parse (parse_text 63 s hs) (by omega) ?_ (by omega) 1 (Nat.le_refl _)
  rw [← list_size, textS_list]
  have := dec_len s.size (by omega)
  have hl : s.data.toList.length = s.size := list_size s
  rw [List.length_cons, List.length_append, List.length_cons]
  omega
theorem text_op4 (s : ByteArray) (hs : s.size ≤ 4096) : op4 (textS s).data.toList = ⟨116, 0, s, [], true⟩ := by
  rw [op4_of (text_rt s hs).2]
  show (⟨116, 0, ⟨s.data.toList.toArray⟩, [], true⟩ : Op4) = _
  rw [ba_back]
theorem t0_rt : Rt t0 3 1 := ⟨by kernel_rfl, by decide, Nat.le_of_ble_eq_true (by kernel_rfl)⟩
theorem kidsP_all {R d : Nat} : ∀ (vs : List (List UInt8)) (z : List UInt8), (∀ v ∈ vs, ∃ x, parse R v = some (x, []) ∧ x.deep ≤ d) → ∃ D, kidsP (parse R) vs.length (vs.flatten ++ z) = some (vs, D, z) ∧ D ≤ d + 1
  | [], z, _ => ⟨1, rfl, by omega⟩
  | v :: vs, z, h => by
    obtain ⟨x, hx, hd⟩ := h v (by simp)
    obtain ⟨D, h1, h3⟩ := kidsP_all vs z (fun u hu => h u (by simp [hu]))
    refine ⟨max (x.deep + 1) D, ?_, by omega⟩
    rw [List.flatten_cons, List.append_assoc, List.length_cons]
    simp only [kidsP, front_app hx, h1, take_len]
theorem parse_tuple {R d : Nat} (vs : List (List UInt8)) (hl : vs.length ≤ 32) (h : ∀ v ∈ vs, ∃ x, parse R v = some (x, []) ∧ x.deep ≤ d) : ∃ D, parse (R + 1) (84 :: (Lib.decDigits vs.length ++ 58 :: vs.flatten)) = some (⟨84, 0, [], vs, D⟩, []) ∧ D ≤ d + 1 := by
  obtain ⟨D, h1, h3⟩ := kidsP_all vs [] h
  rw [List.append_nil] at h1
  refine ⟨D, ?_, h3⟩
  have hn := num_dec 58 (by decide) vs.length (by omega) vs.flatten
  simp only [parse, if_neg (show ¬ (84 : UInt8) = 110 by decide), if_neg (show ¬ (84 : UInt8) = 116 by decide), many, if_pos, hn, if_pos hl, h1]
  rfl
/-- a tuple, as bytes -/
def tupS (vs : List ByteArray) : ByteArray := ⟨(buildL (headS vs.length) vs).toArray⟩
theorem tupS_list (vs : List ByteArray) : (tupS vs).data.toList = 84 :: (Lib.decDigits vs.length ++ 58 :: (vs.map (fun v => v.data.toList)).flatten) := by
  unfold tupS buildL
  rw [ba_list, headS_list, List.flatMap_def]
  simp
theorem tuple_rt (vs : List ByteArray) (n d : Nat) (hl : vs.length ≤ 32) (h : ∀ v ∈ vs, rt v = true ∧ deepN v.data.toList ≤ d) (hd : d ≤ 63) (hs : (vs.map (fun v => v.data.toList)).flatten.length + 23 ≤ n) (hn : n ≤ 16384) :
    tupleP vs = (tupS vs, 0) ∧ Rt (tupS vs) n (d + 1) ∧ op4 (tupS vs).data.toList = ⟨84, 0, e0, vs, true⟩ := by
  have hk : ∀ v ∈ vs.map (fun v => v.data.toList), ∃ x, parse 63 v = some (x, []) ∧ x.deep ≤ d := by
    intro v hv
    obtain ⟨u, hu, rfl⟩ := List.mem_map.1 hv
    exact Rt.parse ⟨(h u hu).1, Nat.le_refl _, (h u hu).2⟩ hd
  obtain ⟨D, h1, h2⟩ := parse_tuple (vs.map (fun v => v.data.toList)) (by simpa using hl) hk
  rw [List.length_map, ← tupS_list] at h1
  obtain ⟨h3, h4⟩ := rt_of_parse (n := n) h1 (by omega) (by
    rw [← list_size, tupS_list]
    have := dec_len vs.length (by omega)
    rw [List.length_cons, List.length_append, List.length_cons]; omega) hn (d + 1) h2
  refine ⟨?_, h3, ?_⟩
  · unfold tupleP
    rw [if_neg (by omega)]
    unfold buildP
    rw [if_pos (List.all_eq_true.2 (fun v hv => (h v hv).1))]
    show wholeP (tupS vs) = _
    unfold wholeP
    rw [if_pos h3.r]
  · rw [op4_of h4]
    show (⟨84, 0, ⟨#[]⟩, (vs.map (fun v => v.data.toList)).map _, true⟩ : Op4) = _
    rw [kids_back]
    rfl
/-- what has two parts, as bytes -/
def twoS (op : UInt8) (a b : ByteArray) : ByteArray := ⟨(op :: (a.data.toList ++ b.data.toList)).toArray⟩
theorem twoS_list (op : UInt8) (a b : ByteArray) : (twoS op a b).data.toList = op :: (a.data.toList ++ b.data.toList) := ba_list _
theorem twoS_size (op : UInt8) (a b : ByteArray) : (twoS op a b).size = a.size + b.size + 1 := by
  rw [← list_size, twoS_list, List.length_cons, List.length_append, list_size, list_size]
theorem two_rt {op : UInt8} {a b : ByteArray} {n m d : Nat} (har : arity op = some 2) (ha : Rt a n d) (hb : Rt b m d) (hd : d ≤ 63) (hs : n + m + 1 ≤ 16384) (hf : fitsB op [a.data.toList, b.data.toList] = true) :
    buildP ⟨#[op]⟩ [a, b] = (twoS op a b, 0) ∧ Rt (twoS op a b) (n + m + 1) (d + 1) ∧ readP (twoS op a b).data.toList = some ⟨op, 0, [], [a.data.toList, b.data.toList], max (deepN a.data.toList + 1) (max (deepN b.data.toList + 1) 1)⟩ ∧ op4 (twoS op a b).data.toList = ⟨op.toNat, 0, e0, [a, b], true⟩ := by
  have la := list_size a
  have lb := list_size b
  have sa := ha.s
  have sb := hb.s
  have da := ha.d
  have db := hb.d
  obtain ⟨h1, h2⟩ := make_two har ha.r hb.r (by omega) (by omega) (by omega) hf
  rw [← twoS_list] at h1 h2
  refine ⟨?_, ⟨h1, by rw [twoS_size]; omega, by rw [deep_of h2]; dsimp only; omega⟩, h2, ?_⟩
  · unfold buildP
    rw [if_pos (by simp [ha.r, hb.r]), buildL_two]
    show wholeP (twoS op a b) = _
    unfold wholeP
    rw [if_pos (show rt (twoS op a b) = true from h1)]
  · rw [op4_of h2]
    simp only [List.map_cons, List.map_nil, ba_back]
    rfl
/-! keys of names, and what is agreed on -/
theorem keyS_name (u : Nat) (hu : u ≤ 9223372036854775807) : (keyS (nameS (u : Int))).data.toList = 80 :: (nameS (u : Int)).data.toList := by
  rw [keyS_list, keyB_else (name_rt u hu).2 (show (110 : UInt8) ≠ 86 by decide) (show (110 : UInt8) ≠ 75 by decide)]
theorem key_rt (u : Nat) (hu : u ≤ 9223372036854775807) : pubP (nameS (u : Int)) = (keyS (nameS (u : Int)), 0) ∧ Rt (keyS (nameS (u : Int))) 24 2 ∧ readP (keyS (nameS (u : Int))).data.toList = some ⟨80, 0, [], [(nameS (u : Int)).data.toList], 2⟩ ∧ op4 (keyS (nameS (u : Int))).data.toList = ⟨80, 0, e0, [nameS (u : Int)], true⟩ := by
  obtain ⟨h1, h2⟩ := name_rt u hu
  have hp : parse (1 + 1) (80 :: (nameS (u : Int)).data.toList) = some (⟨80, 0, [], [(nameS (u : Int)).data.toList], 2⟩, []) := by
    rw [parse_one (by rfl) (parse_name 0 u hu) (by rw [nameS_list]; rfl)]
    rfl
  rw [← keyS_name u hu] at hp
  obtain ⟨h3, h4⟩ := rt_of_parse (n := 24) hp (by omega) (by
    have := h1.s
    rw [← list_size] at this ⊢
    rw [keyS_name u hu, List.length_cons]; omega) (by omega) 2 (Nat.le_refl _)
  refine ⟨?_, h3, h4, ?_⟩
  · unfold pubP
    rw [if_pos h1.r]
    unfold wholeP
    rw [if_pos h3.r]
  · rw [op4_of h4]
    simp only [List.map_cons, List.map_nil, ba_back]
    rfl
/-- what two secrets agree on -/
def agS (p k : ByteArray) : ByteArray := if Op.bytesLess k.toList p.toList = true then twoS 88 k p else twoS 88 p k
theorem agS_comm (a b : ByteArray) : agS a b = agS b a := by
  unfold agS
  cases h1 : Op.bytesLess b.toList a.toList with
  | true =>
    cases h2 : Op.bytesLess a.toList b.toList with
    | true => exact (bytesLess_asymm _ _ h1 h2).elim
    | false => simp
  | false =>
    cases h2 : Op.bytesLess a.toList b.toList with
    | true => simp
    | false => rw [toList_inj' (bytesLess_tri _ _ h1 h2)]
theorem twoS_inj {op : UInt8} {a b c d : ByteArray} (ha : rt a = true) (hc : rt c = true) (h : twoS op a b = twoS op c d) : a = c ∧ b = d := by
  have e := congrArg (fun x : ByteArray => x.data.toList) h
  simp only [twoS_list, List.cons.injEq, true_and] at e
  obtain ⟨f1, f2⟩ := pair_inj ha hc e
  exact ⟨ba_ext f1, ba_ext f2⟩
theorem agS_inj {a b c : ByteArray} (ha : rt a = true) (hb : rt b = true) (hc : rt c = true) (h : agS a b = agS c b) : a = c := by
  unfold agS at h
  split at h <;> split at h
  · exact (twoS_inj hb hb h).2
  · obtain ⟨h1, h2⟩ := twoS_inj hb hc h
    exact h2.trans h1
  · obtain ⟨h1, h2⟩ := twoS_inj ha hb h
    exact h1.trans h2
  · exact (twoS_inj ha hc h).1
theorem ag_rt {p k t : ByteArray} {n m d D : Nat} (hp : Rt p n d) (hk : Rt k m d) (hd : d ≤ 63) (hs : n + m + 1 ≤ 16384) (ht : readP t.data.toList = some ⟨80, 0, [], [k.data.toList], D⟩) :
    agreeP p t = (agS p k, 0) ∧ Rt (agS p k) (n + m + 1) (d + 1) := by
  unfold agreeP agS
  rw [ht]
  dsimp only
  rw [if_pos rfl]
  simp only [nth, List.getD_cons_zero, ba_back]
  have hbl : ∀ a b : ByteArray, Op.bytesLess a.toList b.toList = true ∨ a = b → fitsB 88 [a.data.toList, b.data.toList] = true := by
    intro a b h
    show (!(bytesLt (nth [a.data.toList, b.data.toList] 1) (nth [a.data.toList, b.data.toList] 0))) = true
    show (!(bytesLt b.data.toList a.data.toList)) = true
    rw [← leq_not_lt]
    rcases h with h | rfl
    · rw [ByteArray.toList_eq, ByteArray.toList_eq] at h; rw [h]; rfl
    · simp
  cases h1 : Op.bytesLess k.toList p.toList with
  | true =>
    rw [if_pos rfl, if_pos rfl]
    obtain ⟨e1, e2, _⟩ := two_rt (op := 88) (by rfl) hk hp hd (by omega) (hbl k p (.inl h1))
    exact ⟨e1, e2.mono (by omega) (Nat.le_refl _)⟩
  | false =>
    rw [if_neg (by decide), if_neg (by decide)]
    obtain ⟨e1, e2, _⟩ := two_rt (op := 88) (by rfl) hp hk hd (by omega) (hbl p k (by
      cases h2 : Op.bytesLess p.toList k.toList with
      | true => exact .inl rfl
      | false => exact .inr (toList_inj' (bytesLess_tri _ _ h2 h1))))
    exact ⟨e1, e2⟩
/-! onion: one round of Build, and how a node peels what it made. No program in sight. -/
theorem itoa_l (u : Nat) : Lib.itoa (u : Int) = Lib.decDigits u := by unfold Lib.itoa; rw [if_neg (by omega), Int.toNat_natCast]
theorem num_text (a : Int) (most : Nat) (h0 : 0 ≤ a) (h1 : a ≤ (most : Int)) (hm : most ≤ 9223372036854775807) : numO (op4 (textS (decS a)).data.toList) most = some a.toNat := by
  obtain ⟨u, rfl⟩ := Int.eq_ofNat_of_zero_le h0
  have hs : (decS (u : Int)).size ≤ 4096 := Nat.le_trans (decS_le (by omega) (by omega)) (by omega)
  rw [text_op4 _ hs]
  unfold numO
  rw [if_pos (by rfl)]
  show numN (decS (u : Int)).data.toList most = _
  unfold decS
  rw [ba_list, itoa_l]
  obtain ⟨g1, g2, _⟩ := dec_good u
  unfold numN
  rw [g1, g2, if_pos (by simp; omega), Int.toNat_natCast]
theorem flat_two (a b : ByteArray) : (([a, b] : List ByteArray).map (fun v => v.data.toList)).flatten.length = a.size + b.size := by
  rw [← list_size, ← list_size]; simp
theorem flat_four (a b c d : ByteArray) : (([a, b, c, d] : List ByteArray).map (fun v => v.data.toList)).flatten.length = a.size + b.size + c.size + d.size := by
  rw [← list_size, ← list_size, ← list_size, ← list_size]; simp; omega
theorem two_tuple {a b : ByteArray} {n m d : Nat} (ha : Rt a n d) (hb : Rt b m d) (hd : d ≤ 63) (hs : n + m + 23 ≤ 16384) :
    tupleP [a, b] = (tupS [a, b], 0) ∧ Rt (tupS [a, b]) (n + m + 23) (d + 1) ∧ op4 (tupS [a, b]).data.toList = ⟨84, 0, e0, [a, b], true⟩ :=
  tuple_rt [a, b] (n + m + 23) d (by simp) (by intro v hv; simp at hv; rcases hv with rfl | rfl; exact ⟨ha.r, ha.d⟩; exact ⟨hb.r, hb.d⟩) hd (by rw [flat_two]; have := ha.s; have := hb.s; omega) hs
/-- what a hop is told, in a row -/
theorem lay_of {nm of p : ByteArray} {a e : Int} (hn : nm.size ≤ 100) (ha : 0 ≤ a) (ha' : a ≤ 2100000000000000000) (he : 0 ≤ e) (he' : e < 2147483648) (hl : nm = e0 → p = t0) (ho : nm ≠ e0 → of = t0) :
    layP (op4 (textS nm).data.toList) (op4 (textS (decS a)).data.toList) (op4 (textS (decS e)).data.toList) of p = some (if nm = e0 then ⟨e0, a, e, of, e0, true⟩ else ⟨nm, a, e, e0, p, false⟩) := by
  have h1 := num_text a 2100000000000000000 ha (by omega) (by omega)
  have h2 := num_text e 2147483647 he (by omega) (by omega)
  unfold layP
  rw [h1, h2, text_op4 nm (by omega)]
  show (if 100 < nm.size then none else if nm = e0 then (if p = t0 then some (Lay.mk nm ((a.toNat : Nat) : Int) ((e.toNat : Nat) : Int) of e0 true) else none) else if of = t0 then some (Lay.mk nm ((a.toNat : Nat) : Int) ((e.toNat : Nat) : Int) e0 p false) else none) = _
  rw [if_neg (by omega), Int.toNat_of_nonneg ha, Int.toNat_of_nonneg he]
  by_cases h : nm = e0
  · rw [if_pos h, if_pos h, if_pos (hl h), h]
  · rw [if_neg h, if_neg h, if_pos (ho h)]
structure StepP (c v : Nat) (P K : ByteArray) (X : Lay) : Prop where
  peel : ∀ mem, peelE (nameS (c : Int)) P mem = if memHas mem (keyS (nameS (v : Int))) = true then (221, lay0, e0) else if memFull mem = true then (3, lay0, e0) else (0, X, K)
  fk : firstK P = keyS (nameS (v : Int))
  oth : ∀ o : Nat, o ≤ 9223372036854775807 → nameS (o : Int) ≠ nameS (c : Int) → peelE (nameS (o : Int)) P none = (220, lay0, e0)
theorem rnd_step {drawn : List ByteArray} {hs : List Hp} {pay p : ByteArray} {i c v m d : Nat} (hc : c ≤ 9223372036854775807) (hv : v ≤ 9223372036854775807)
    (hd : drawn.getD i ⟨#[]⟩ = nameS (v : Int)) (hnode : (hs.getD i hp0).node = keyS (nameS (c : Int))) (hok : HpOk (lastH hs i)) (hnm : (nameAt hs i).size ≤ 100)
    (hof : Rt (ofAt hs pay i) 10 2) (hp : Rt p m d) (h3 : 3 ≤ d) (hdd : d ≤ 61) (hm : m ≤ 16000) (hl : nameAt hs i = e0 → p = t0) (ho : nameAt hs i ≠ e0 → ofAt hs pay i = t0) :
    ∃ P, rnd drawn hs pay i p = ⟨P, agS (nameS (v : Int)) (nameS (c : Int)), false⟩ ∧ Rt P (m + 362) (d + 3) ∧
      StepP c v P (agS (nameS (v : Int)) (nameS (c : Int))) (if nameAt hs i = e0 then ⟨e0, (lastH hs i).amt, (lastH hs i).exp, ofAt hs pay i, e0, true⟩ else ⟨nameAt hs i, (lastH hs i).amt, (lastH hs i).exp, e0, p, false⟩) := by
  obtain ⟨nc, rc⟩ := name_rt c hc
  obtain ⟨nv, rv⟩ := name_rt v hv
  obtain ⟨kc0, kc, kc1, kc2⟩ := key_rt c hc
  obtain ⟨kv0, kv, kv1, kv2⟩ := key_rt v hv
  -- the payload
  obtain ⟨t1, _⟩ := text_rt (nameAt hs i) (by omega)
  have sa := decS_le (n := (lastH hs i).amt) (by have := hok.a0; omega) (by have := hok.a1; omega)
  have se := decS_le (n := (lastH hs i).exp) (by have := hok.e0; omega) (by have := hok.e1; omega)
  obtain ⟨t2, _⟩ := text_rt (decS (lastH hs i).amt) (by omega)
  obtain ⟨t3, _⟩ := text_rt (decS (lastH hs i).exp) (by omega)
  obtain ⟨q1, q2, q3⟩ := tuple_rt [textS (nameAt hs i), textS (decS (lastH hs i).amt), textS (decS (lastH hs i).exp), ofAt hs pay i] 244 2 (by simp)
    (by intro x hx; simp at hx; rcases hx with rfl | rfl | rfl | rfl; exact ⟨t1.r, Nat.le_trans t1.d (by omega)⟩; exact ⟨t2.r, Nat.le_trans t2.d (by omega)⟩; exact ⟨t3.r, Nat.le_trans t3.d (by omega)⟩; exact ⟨hof.r, hof.d⟩) (by omega)
    (by rw [flat_four]; have := t1.s; have := t2.s; have := t3.s; have := hof.s; omega) (by omega)
  generalize hT1 : tupS [textS (nameAt hs i), textS (decS (lastH hs i).amt), textS (decS (lastH hs i).exp), ofAt hs pay i] = T1 at q1 q2 q3
  have q1 : payP hs pay i = (T1, 0) := q1
  obtain ⟨w1, w2, w3⟩ := two_tuple (q2.mono (Nat.le_refl 244) (show 2 + 1 ≤ d by omega)) hp (by omega) (by omega)
  generalize hT2 : tupS [T1, p] = T2 at w1 w2 w3
  obtain ⟨g1, g2⟩ := ag_rt (t := keyS (nameS (c : Int))) nv nc (by omega) (by omega) kc1
  obtain ⟨b1, b2, b3, b4⟩ := two_rt (op := 66) (by rfl) (g2.mono (Nat.le_refl _) (show 1 + 1 ≤ d + 1 by omega)) w2 (by omega) (by omega) rfl
  generalize hK : agS (nameS (v : Int)) (nameS (c : Int)) = K at g1 g2 b1 b2 b3 b4
  generalize hB : twoS 66 K T2 = B at b1 b2 b3 b4
  obtain ⟨a1, a2, a3⟩ := two_tuple (kv.mono (Nat.le_refl _) (show 2 ≤ d + 1 + 1 by omega)) b2 (by omega) (by omega)
  generalize hP : tupS [keyS (nameS (v : Int)), B] = P at a1 a2 a3
  have f1 : firstK P = keyS (nameS (v : Int)) := by unfold firstK; rw [a3]; rfl
  have f2 : secK P = B := by unfold secK; rw [a3]; rfl
  have hlay : layO T2 = some (if nameAt hs i = e0 then ⟨e0, (lastH hs i).amt, (lastH hs i).exp, ofAt hs pay i, e0, true⟩ else ⟨nameAt hs i, (lastH hs i).amt, (lastH hs i).exp, e0, p, false⟩) := by
    rw [← lay_of hnm hok.a0 hok.a1 hok.e0 hok.e1 hl ho]
    unfold layO
    rw [w3]
    show (if isT (op4 T1.data.toList) 4 then _ else _) = _
    rw [q3]
    rfl
  have hpeel : ∀ (k : ByteArray) (mem : Option (List ByteArray)), rt k = true → peelE k P mem = peelQ k (keyS (nameS (v : Int))) B mem := by
    intro k mem hk
    unfold peelE
    have hT : isT (⟨84, 0, e0, [keyS (nameS (v : Int)), B], true⟩ : Op4) 2 = true := rfl
    rw [hk, if_neg (by decide), a3, hT, if_neg (by decide), f1, f2]
  have hQ : ¬ ((⟨80, 0, e0, [nameS (v : Int)], true⟩ : Op4).op ≠ 80 ∨ (⟨UInt8.toNat 66, 0, e0, [K, T2], true⟩ : Op4).op ≠ 66) := fun h => by rcases h with h | h <;> exact h rfl
  refine ⟨P, ?_, a2.mono (by omega) (by omega), ?_, f1, ?_⟩
  · unfold rnd
    rw [hd, hnode, q1, g1, kv0]
    dsimp only
    rw [w1]
    dsimp only
    rw [b1]
    dsimp only
    rw [a1]
    rfl
  · intro mem
    obtain ⟨u1, u2⟩ := ag_rt (t := keyS (nameS (v : Int))) nc nv (by omega) (by omega) kv1
    rw [hpeel _ _ nc.r]
    unfold peelQ
    rw [kv2, b4, if_neg hQ]
    unfold peelB
    rw [u1, agS_comm, hK, unboxO_of b3, if_pos rfl]
    dsimp only
    rw [hlay]
    rfl
  · intro o ho hne
    obtain ⟨no, ro⟩ := name_rt o ho
    obtain ⟨u1, u2⟩ := ag_rt (t := keyS (nameS (v : Int))) no nv (by omega) (by omega) kv1
    rw [hpeel _ _ no.r]
    unfold peelQ
    rw [kv2, b4, if_neg hQ]
    unfold peelB
    have hK2 : ¬ K = agS (nameS (o : Int)) (nameS (v : Int)) := fun h => by
      rw [← hK, agS_comm] at h
      exact hne (agS_inj nc.r nv.r no.r h).symm
    rw [u1, unboxO_of b3]
    dsimp only
    rw [if_neg hK2]
    rfl
/-! the route of a row of numbers -/
def hn9 : ByteArray := ⟨#[72, 110, 57, 59]⟩
def rHop (i v : Nat) : Hp := ⟨⟨#[99, UInt8.ofNat (97 + i)]⟩, keyS (nameS ((100 + i : Nat) : Int)), (v : Int) * 1000, ((v % 100000 : Nat) : Int)⟩
def rHops (l : List Nat) : List Hp := l.mapIdx rHop
def rDrawn (l : List Nat) : List ByteArray := l.map (fun v : Nat => nameS (v : Int))
def rKey (i v : Nat) : ByteArray := agS (nameS (v : Int)) (nameS ((100 + i : Nat) : Int))
def rKeys (l : List Nat) : List ByteArray := l.mapIdx rKey
theorem rHops_len (l : List Nat) : (rHops l).length = l.length := by simp [rHops]
theorem rDrawn_len (l : List Nat) : (rDrawn l).length = l.length := by simp [rDrawn]
theorem rKeys_len (l : List Nat) : (rKeys l).length = l.length := by simp [rKeys]
theorem rHops_at {l : List Nat} {i v : Nat} (h : l[i]? = some v) : (rHops l)[i]? = some (rHop i v) := by unfold rHops; rw [List.getElem?_mapIdx, h]; rfl
theorem rDrawn_at {l : List Nat} {i v : Nat} (h : l[i]? = some v) : (rDrawn l)[i]? = some (nameS (v : Int)) := by unfold rDrawn; rw [List.getElem?_map, h]; rfl
theorem rKeys_at {l : List Nat} {i v : Nat} (h : l[i]? = some v) : (rKeys l)[i]? = some (rKey i v) := by unfold rKeys; rw [List.getElem?_mapIdx, h]; rfl
theorem rHop_ok (i v : Nat) (hv : v ≤ 4294967295) : HpOk (rHop i v) := by
  have h5 : v % 100000 < 100000 := Nat.mod_lt _ (by omega)
  refine ⟨by show 2 ≤ 100; omega, by show (0 : Int) ≤ (v : Int) * 1000; omega, by show (v : Int) * 1000 ≤ _; omega, by show (0 : Int) ≤ ((v % 100000 : Nat) : Int); omega, ?_⟩
  show ((v % 100000 : Nat) : Int) < 2147483648
  omega
theorem hn9_rt : Rt hn9 10 2 := ⟨by kernel_rfl, by decide, Nat.le_of_ble_eq_true (by kernel_rfl)⟩
/-- the packet behind so many rounds -/
def rPk (l : List Nat) (k : Nat) : ByteArray := match goB (rDrawn l) (rHops l) hn9 k with
  | some (p, _) => p
  | none => e0
/-- what the hop of a number is told -/
def rLay (l : List Nat) (i : Nat) : Lay :=
  if i + 1 < l.length then ⟨nameAt (rHops l) i, (lastH (rHops l) i).amt, (lastH (rHops l) i).exp, e0, rPk l (l.length - 1 - i), false⟩ else ⟨e0, (lastH (rHops l) i).amt, (lastH (rHops l) i).exp, hn9, e0, true⟩
theorem goB_route {l : List Nat} (h20 : l.length ≤ 20) (hv : ∀ v ∈ l, v ≤ 4294967295) : ∀ k, k ≤ l.length →
    goB (rDrawn l) (rHops l) hn9 k = some (rPk l k, (rKeys l).drop (l.length - k)) ∧ Rt (rPk l k) (3 + 362 * k) (3 + 3 * k) ∧ (k = 0 → rPk l k = t0) ∧
      (∀ j v, k = j + 1 → l[l.length - 1 - j]? = some v → StepP (100 + (l.length - 1 - j)) v (rPk l k) (rKey (l.length - 1 - j) v) (rLay l (l.length - 1 - j)))
  | 0, _ => by
    have e : rPk l 0 = t0 := rfl
    refine ⟨?_, ?_, fun _ => e, fun j v h => by omega⟩
    · rw [e, show (rKeys l).drop (l.length - 0) = [] from List.drop_of_length_le (by rw [rKeys_len]; omega)]; rfl
    · rw [e]; exact t0_rt.mono (by omega) (by omega)
  | k + 1, hk => by
    obtain ⟨h1, h2, h3, _⟩ := goB_route h20 hv k (by omega)
    have hj : l.length - 1 - k < l.length := by omega
    obtain ⟨v, hvi⟩ : ∃ v, l[l.length - 1 - k]? = some v := ⟨_, List.getElem?_eq_getElem hj⟩
    have hvv := hv v (List.mem_of_getElem? hvi)
    have hlast : ∃ i' v', v' ≤ 4294967295 ∧ lastH (rHops l) (l.length - 1 - k) = rHop i' v' := by
      unfold lastH
      rw [rHops_len]
      by_cases hh : l.length - 1 - k + 1 < l.length
      · obtain ⟨u, hu⟩ : ∃ u, l[l.length - 1 - k + 1]? = some u := ⟨_, List.getElem?_eq_getElem hh⟩
        rw [if_pos hh, getD_of (rHops_at hu)]
        exact ⟨_, _, hv u (List.mem_of_getElem? hu), rfl⟩
      · rw [if_neg hh, getD_of (rHops_at hvi)]
        exact ⟨_, _, hvv, rfl⟩
    have hname : (l.length - 1 - k + 1 < l.length → nameAt (rHops l) (l.length - 1 - k) ≠ e0 ∧ (nameAt (rHops l) (l.length - 1 - k)).size ≤ 100 ∧ ofAt (rHops l) hn9 (l.length - 1 - k) = t0) ∧ (¬ l.length - 1 - k + 1 < l.length → nameAt (rHops l) (l.length - 1 - k) = e0 ∧ ofAt (rHops l) hn9 (l.length - 1 - k) = hn9) := by
      unfold nameAt ofAt
      rw [rHops_len]
      refine ⟨fun hh => ?_, fun hh => ?_⟩
      · obtain ⟨u, hu⟩ : ∃ u, l[l.length - 1 - k + 1]? = some u := ⟨_, List.getElem?_eq_getElem hh⟩
        rw [if_pos hh, if_pos hh, getD_of (rHops_at hu)]
        refine ⟨fun h => ?_, by show 2 ≤ 100; omega, rfl⟩
        have := congrArg ByteArray.size h
        exact absurd this (by show ¬ (2 = 0); omega)
      · rw [if_neg hh, if_neg hh]
        exact ⟨rfl, rfl⟩
    obtain ⟨i', v', hv', hlast⟩ := hlast
    have hok : HpOk (lastH (rHops l) (l.length - 1 - k)) := by rw [hlast]; exact rHop_ok _ _ hv'
    obtain ⟨P, e1, e2, e3⟩ := rnd_step (drawn := rDrawn l) (hs := rHops l) (pay := hn9) (p := rPk l k) (i := l.length - 1 - k) (c := 100 + (l.length - 1 - k)) (v := v) (m := 3 + 362 * k) (d := 3 + 3 * k) (by omega) (by omega)
      (getDS_of (rDrawn_at hvi)) (by rw [getD_of (rHops_at hvi)]; rfl) hok
      (by by_cases hh : l.length - 1 - k + 1 < l.length
          · exact (hname.1 hh).2.1
          · rw [(hname.2 hh).1]; exact Nat.zero_le _)
      (by by_cases hh : l.length - 1 - k + 1 < l.length
          · rw [(hname.1 hh).2.2]; exact t0_rt.mono (by omega) (by omega)
          · rw [(hname.2 hh).2]; exact hn9_rt)
      h2 (by omega) (by omega) (by omega)
      (fun he => h3 (by
        by_cases hh : l.length - 1 - k + 1 < l.length
        · exact absurd he (hname.1 hh).1
        · omega))
      (fun hne => by
        by_cases hh : l.length - 1 - k + 1 < l.length
        · exact (hname.1 hh).2.2
        · exact absurd (hname.2 hh).1 hne)
    have hg : goB (rDrawn l) (rHops l) hn9 (k + 1) = some (P, (rKeys l).drop (l.length - (k + 1))) := by
      have hx := goB_next (drawn := rDrawn l) (hs := rHops l) (pay := hn9) h1 (by rw [rHops_len, e1])
      rw [hx, rHops_len, e1]
      dsimp only
      congr 2
      have hd := List.drop_eq_getElem_cons (l := rKeys l) (i := l.length - (k + 1)) (by rw [rKeys_len]; omega)
      rw [hd, show l.length - (k + 1) + 1 = l.length - k by omega]
      congr 1
      have hki := rKeys_at hvi
      rw [List.getElem?_eq_getElem (by rw [rKeys_len]; omega)] at hki
      have := Option.some.inj hki
      rw [show rKey (l.length - 1 - k) v = agS (nameS (v : Int)) (nameS ((100 + (l.length - 1 - k) : Nat) : Int)) from rfl] at this
      rw [← this]
      congr 1
      omega
    have hpk : rPk l (k + 1) = P := by unfold rPk; rw [hg]
    refine ⟨by rw [hg, hpk], by rw [hpk]; exact e2.mono (by omega) (by omega), fun h => by omega, fun j v0 hj0 hv0 => ?_⟩
    obtain rfl : j = k := by omega
    rw [hvi] at hv0
    cases hv0
    rw [hpk]
    have hl' : rLay l (l.length - 1 - j) = (if nameAt (rHops l) (l.length - 1 - j) = e0 then ⟨e0, (lastH (rHops l) (l.length - 1 - j)).amt, (lastH (rHops l) (l.length - 1 - j)).exp, ofAt (rHops l) hn9 (l.length - 1 - j), e0, true⟩ else ⟨nameAt (rHops l) (l.length - 1 - j), (lastH (rHops l) (l.length - 1 - j)).amt, (lastH (rHops l) (l.length - 1 - j)).exp, e0, rPk l j, false⟩) := by
      unfold rLay
      by_cases hh : l.length - 1 - j + 1 < l.length
      · rw [if_pos hh, if_neg (hname.1 hh).1, show l.length - 1 - (l.length - 1 - j) = j by omega]
      · rw [if_neg hh, if_pos (hname.2 hh).1, (hname.2 hh).2]
    rw [hl']
    exact e3
/-- what Build answers for a route -/
theorem build_route {l : List Nat} (h1 : 1 ≤ l.length) (h20 : l.length ≤ 20) (hv : ∀ v ∈ l, v ≤ 4294967295) : buildR (rDrawn l) (rHops l) hn9 = (rPk l l.length, rKeys l, 0) := by
  unfold buildR
  rw [rHops_len, rDrawn_len, if_neg (by omega)]
  have hE : hopsE (rDrawn l) (rHops l) = 0 := by
    unfold hopsE
    refine hopsF_no _ _ fun k _ hk => ?_
    rw [rHops_len] at hk
    obtain ⟨v, hvi⟩ : ∃ v, l[k]? = some v := ⟨_, List.getElem?_eq_getElem (by omega)⟩
    have hvv := hv v (List.mem_of_getElem? hvi)
    unfold hopAt
    rw [getD_of (rHops_at hvi), getDS_of (rDrawn_at hvi)]
    have ho := rHop_ok k v hvv
    unfold hopE
    rw [if_neg, if_neg, if_neg]
    · rw [name_op4 v (by omega)]
      show ¬ (_ ∨ _ ∨ _ ∨ (op4 (keyS (nameS ((100 + k : Nat) : Int))).data.toList).op ≠ 80)
      rw [(key_rt (100 + k) (by omega)).2.2.2]
      rintro (h | h | h | h)
      · cases h
      · exact absurd (show (110 : Nat) = _ from h) (by decide)
      · exact absurd (show (110 : Nat) = _ from h) (by decide)
      · exact h rfl
    · have := ho.a0; have := ho.a1; omega
    · have h2 := ho.c
      have h3 := ho.e0
      have h4 := ho.e1
      rintro (h | ⟨h, _⟩ | h | h)
      · omega
      · have := congrArg ByteArray.size h
        exact absurd this (by show ¬ (2 = 0); omega)
      · omega
      · omega
  rw [hE, if_neg (by decide), if_neg (by rw [hn9_rt.r]; decide), (goB_route h20 hv l.length (Nat.le_refl _)).1, Nat.sub_self]
  rfl
/-! onion: failures made, wrapped, read. No program in sight. -/
def tback : ByteArray := ⟨#[116, 52, 58, 98, 97, 99, 107]⟩
def tfail : ByteArray := ⟨#[116, 52, 58, 102, 97, 105, 108]⟩
def backP (s : ByteArray) : ByteArray × Int := buildP ⟨#[68]⟩ [s, tback]
def boxP (k f : ByteArray) : ByteArray × Int := buildP ⟨#[66]⟩ [k, f]
def wrapP (s f : ByteArray) : ByteArray × Int :=
  if rt s = false ∨ rt f = false then (e0, 10)
  else if (backP s).2 ≠ 0 ∨ (boxP (backP s).1 f).2 ≠ 0 then (e0, 3) else ((boxP (backP s).1 f).1, 0)
def failP (s why : ByteArray) : ByteArray × Int :=
  if rt s = false then (e0, 10) else if 4096 < why.size then (e0, 3) else wrapP s (tupS [tfail, textS why])
/-- what a failure that was taken out of its box says, where it says something -/
def sayO (t : ByteArray) : Option ByteArray :=
  if isT (op4 t.data.toList) 2 = true ∧ (op4 t.data.toList).vs.getD 0 e0 = tfail ∧ isX (op4 ((op4 t.data.toList).vs.getD 1 e0).data.toList) = true then some (op4 ((op4 t.data.toList).vs.getD 1 e0).data.toList).u else none
def rdE : List ByteArray → Nat → ByteArray → Nat × ByteArray × Int
  | [], _, _ => (0, e0, 220)
  | s :: r, i, f => match unboxO (backP s).1 f with
    | none => (0, e0, 220)
    | some t => match sayO t with
      | some u => (i, u, 0)
      | none => rdE r (i + 1) t
theorem tback_rt : Rt tback 7 1 := ⟨by kernel_rfl, by decide, Nat.le_of_ble_eq_true (by kernel_rfl)⟩
theorem tfail_rt : Rt tfail 7 1 := ⟨by kernel_rfl, by decide, Nat.le_of_ble_eq_true (by kernel_rfl)⟩
def bkS (s : ByteArray) : ByteArray := twoS 68 s tback
theorem back_rt {s : ByteArray} (h : Rt s 47 2) : backP s = (bkS s, 0) ∧ Rt (bkS s) 55 3 := by
  obtain ⟨h1, h2, _⟩ := two_rt (op := 68) (by rfl) h (tback_rt.mono (Nat.le_refl 7) (show 1 ≤ 2 by omega)) (by omega) (by omega) rfl
  exact ⟨h1, h2⟩
theorem box_rt {s f : ByteArray} {m d : Nat} (h : Rt s 47 2) (hf : Rt f m d) (hd : d ≤ 63) (h3 : 3 ≤ d) (hm : m ≤ 16000) :
    wrapP s f = (twoS 66 (bkS s) f, 0) ∧ Rt (twoS 66 (bkS s) f) (m + 56) (d + 1) ∧ (∀ k, unboxO k (twoS 66 (bkS s) f) = if bkS s = k then some f else none) ∧ (op4 (twoS 66 (bkS s) f).data.toList).op = 66 := by
  obtain ⟨b1, b2⟩ := back_rt h
  obtain ⟨e1, e2, e3, e4⟩ := two_rt (op := 66) (by rfl) (b2.mono (Nat.le_refl 55) h3) hf hd (by omega) rfl
  refine ⟨?_, e2.mono (by omega) (Nat.le_refl _), fun k => unboxO_of e3, by rw [e4]; rfl⟩
  unfold wrapP boxP
  rw [h.r, hf.r, if_neg (by decide), b1]
  dsimp only
  rw [e1, if_neg (by simp)]
theorem say_no {t : ByteArray} (h : (op4 t.data.toList).op = 66) : sayO t = none := by
  unfold sayO
  rw [if_neg]
  rintro ⟨h1, _⟩
  unfold isT at h1
  rw [h] at h1
  simp at h1
theorem tfail_text : textS ⟨#[102, 97, 105, 108]⟩ = tfail := by kernel_rfl
theorem say_yes {why : ByteArray} (h : why.size ≤ 4096) : Rt (tupS [tfail, textS why]) (why.size + 60) 2 ∧ tupleP [tfail, textS why] = (tupS [tfail, textS why], 0) ∧ sayO (tupS [tfail, textS why]) = some why := by
  obtain ⟨t1, _⟩ := text_rt why h
  obtain ⟨h1, h2, h3⟩ := two_tuple tfail_rt t1 (by omega) (by omega)
  refine ⟨h2.mono (by omega) (Nat.le_refl _), h1, ?_⟩
  unfold sayO
  rw [h3]
  have hx : isX (op4 (textS why).data.toList) = true := by rw [text_op4 why h]; rfl
  rw [if_pos ⟨rfl, rfl, hx⟩]
  show some (op4 (textS why).data.toList).u = some why
  rw [text_op4 why h]
/-- the failure of a hop, and as it is behind so many hops ahead of it -/
def bkF (l : List Nat) (why : ByteArray) (k : Nat) : Nat → ByteArray
  | 0 => twoS 66 (bkS ((rKeys l).getD k e0)) (tupS [tfail, textS why])
  | j + 1 => twoS 66 (bkS ((rKeys l).getD (k - 1 - j) e0)) (bkF l why k j)
theorem rKey_rt {l : List Nat} (h20 : l.length ≤ 20) (hv : ∀ v ∈ l, v ≤ 4294967295) {i : Nat} (hi : i < l.length) : Rt ((rKeys l).getD i e0) 47 2 := by
  obtain ⟨v, hvi⟩ : ∃ v, l[i]? = some v := ⟨_, List.getElem?_eq_getElem hi⟩
  have hvv := hv v (List.mem_of_getElem? hvi)
  rw [List.getD_eq_getElem?_getD, rKeys_at hvi]
  exact (ag_rt (name_rt v (by omega)).1 (name_rt (100 + i) (by omega)).1 (by omega) (by omega) (key_rt (100 + i) (by omega)).2.2.1).2
theorem drop_getD {ks : List ByteArray} {i : Nat} (h : i < ks.length) : ks.drop i = ks.getD i e0 :: ks.drop (i + 1) := by
  rw [List.drop_eq_getElem_cons h]
  congr 1
  rw [List.getD_eq_getElem?_getD, List.getElem?_eq_getElem h]; rfl
theorem rd_chain {l : List Nat} {why : ByteArray} {k : Nat} (h20 : l.length ≤ 20) (hv : ∀ v ∈ l, v ≤ 4294967295) (hw : why.size ≤ 1000) (hk : k < l.length) : ∀ j, j ≤ k →
    rdE ((rKeys l).drop (k - j)) (k - j) (bkF l why k j) = (k, why, 0) ∧ rdE (((rKeys l).take k).drop (k - j)) (k - j) (bkF l why k j) = (0, e0, 220) ∧
      Rt (bkF l why k j) (1116 + 56 * j) (4 + j) ∧ (op4 (bkF l why k j).data.toList).op = 66 ∧
      (j = 0 → failP ((rKeys l).getD k e0) why = (bkF l why k 0, 0)) ∧ (∀ j', j = j' + 1 → wrapP ((rKeys l).getD (k - 1 - j') e0) (bkF l why k j') = (bkF l why k j, 0))
  | 0, _ => by
    have hkr := rKey_rt h20 hv hk
    obtain ⟨y1, y2, y3⟩ := say_yes (why := why) (by omega)
    obtain ⟨b1, b2, b3, b4⟩ := box_rt hkr (y1.mono (show why.size + 60 ≤ 1060 by omega) (show 2 ≤ 3 by omega)) (by omega) (by omega) (by omega)
    refine ⟨?_, ?_, b2, b4, fun _ => ?_, fun j' h => by omega⟩
    · rw [Nat.sub_zero, drop_getD (by rw [rKeys_len]; exact hk)]
      unfold rdE
      rw [(back_rt hkr).1]
      show (match unboxO (bkS ((rKeys l).getD k e0)) (twoS 66 (bkS ((rKeys l).getD k e0)) (tupS [tfail, textS why])) with | none => _ | some t => _) = _
      rw [b3, if_pos rfl]
      dsimp only
      rw [y3]
    · rw [Nat.sub_zero, List.drop_of_length_le (by rw [List.length_take]; omega)]
      rfl
    · unfold failP
      rw [hkr.r, if_neg (by decide), if_neg (by omega), b1]
      rfl
  | j + 1, hj => by
    obtain ⟨h1, h2, h3, h4, _⟩ := rd_chain h20 hv hw hk j (by omega)
    have hkr := rKey_rt h20 hv (i := k - 1 - j) (by omega)
    obtain ⟨b1, b2, b3, b4⟩ := box_rt hkr h3 (by omega) (by omega) (by omega)
    have e1 : k - (j + 1) = k - 1 - j := by omega
    have e2 : k - 1 - j + 1 = k - j := by omega
    have hgo : ∀ r : List ByteArray, rdE ((rKeys l).getD (k - 1 - j) e0 :: r) (k - 1 - j) (bkF l why k (j + 1)) = rdE r (k - j) (bkF l why k j) := by
      intro r
      rw [rdE, (back_rt hkr).1]
      show (match unboxO (bkS ((rKeys l).getD (k - 1 - j) e0)) (twoS 66 (bkS ((rKeys l).getD (k - 1 - j) e0)) (bkF l why k j)) with | none => _ | some t => _) = _
      rw [b3, if_pos rfl]
      dsimp only
      rw [say_no h4, e2]
    refine ⟨?_, ?_, b2.mono (by omega) (by omega), b4, fun h => by omega, fun j' hj' => ?_⟩
    · rw [e1, drop_getD (by rw [rKeys_len]; omega), hgo, e2]
      exact h1
    · rw [e1, drop_getD (by rw [List.length_take, rKeys_len]; omega)]
      have : ((rKeys l).take k).getD (k - 1 - j) e0 = (rKeys l).getD (k - 1 - j) e0 := by
        rw [List.getD_eq_getElem?_getD, List.getD_eq_getElem?_getD, List.getElem?_take_of_lt (by omega)]
      rw [this, hgo, e2]
      exact h2
    · obtain rfl : j' = j := by omega
      exact b1
end Go.Proofs.YtbdimlppnhcicaaGreatDoor
