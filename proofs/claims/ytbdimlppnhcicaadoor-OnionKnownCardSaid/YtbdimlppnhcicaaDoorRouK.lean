/- onion: packets with a large pay; no program in sight -/
import Derived.Test.YtbdimlppnhcicaaDoorRou
namespace Go.Proofs.YtbdimlppnhcicaaDoor
set_option linter.unusedVariables false
/-! onion: packets with a large pay. No program in sight. -/
theorem rnd_big {drawn : List ByteArray} {hs : List Hp} {pay p : ByteArray} {i c v m d n1 n2 n3 n4 nv nc : Nat} (hc : c ≤ 9223372036854775807) (hv : v ≤ 9223372036854775807)
    (hd : drawn.getD i ⟨#[]⟩ = nameS (v : Int)) (hnode : (hs.getD i hp0).node = keyS (nameS (c : Int)))
    (t1 : Rt (textS (nameAt hs i)) n1 1) (t2 : Rt (textS (decS (lastH hs i).amt)) n2 1) (t3 : Rt (textS (decS (lastH hs i).exp)) n3 1)
    (hof : Rt (ofAt hs pay i) n4 2) (sv : (nameS (v : Int)).size ≤ nv) (sc : (nameS (c : Int)).size ≤ nc) (hp : Rt p m d) (h3 : 3 ≤ d) (hdd : d ≤ 61) (hm : m + (n1 + n2 + n3 + n4 + 2 * nv + nc + 72) ≤ 16384) :
    ∃ P, rnd drawn hs pay i p = ⟨P, agS (nameS (v : Int)) (nameS (c : Int)), false⟩ ∧ Rt P (m + (n1 + n2 + n3 + n4 + 2 * nv + nc + 72)) (d + 3) := by
  obtain ⟨nc0, rc⟩ := name_rt c hc
  obtain ⟨nv0, rv⟩ := name_rt v hv
  have nc' : Rt (nameS (c : Int)) nc 1 := ⟨nc0.r, sc, nc0.d⟩
  have nv' : Rt (nameS (v : Int)) nv 1 := ⟨nv0.r, sv, nv0.d⟩
  obtain ⟨kc0, kc, kc1, kc2⟩ := key_rt c hc
  obtain ⟨kv0, kv, kv1, kv2⟩ := key_rt v hv
  have ksz : (keyS (nameS (v : Int))).size ≤ nv + 1 := by
    rw [← list_size, keyS_name v hv, List.length_cons, list_size]; omega
  have kv' : Rt (keyS (nameS (v : Int))) (nv + 1) 2 := ⟨kv.r, ksz, kv.d⟩
  obtain ⟨q1, q2, q3⟩ := tuple_rt [textS (nameAt hs i), textS (decS (lastH hs i).amt), textS (decS (lastH hs i).exp), ofAt hs pay i] (n1 + n2 + n3 + n4 + 23) 2 (by simp)
    (by intro x hx; simp at hx; rcases hx with rfl | rfl | rfl | rfl; exact ⟨t1.r, Nat.le_trans t1.d (by omega)⟩; exact ⟨t2.r, Nat.le_trans t2.d (by omega)⟩; exact ⟨t3.r, Nat.le_trans t3.d (by omega)⟩; exact ⟨hof.r, hof.d⟩) (by omega)
    (by rw [flat_four]; have := t1.s; have := t2.s; have := t3.s; have := hof.s; omega) (by omega)
  generalize hT1 : tupS [textS (nameAt hs i), textS (decS (lastH hs i).amt), textS (decS (lastH hs i).exp), ofAt hs pay i] = T1 at q1 q2 q3
  have q1 : payP hs pay i = (T1, 0) := q1
  obtain ⟨w1, w2, w3⟩ := two_tuple (q2.mono (Nat.le_refl _) (show 2 + 1 ≤ d by omega)) hp (by omega) (by omega)
  generalize hT2 : tupS [T1, p] = T2 at w1 w2 w3
  obtain ⟨g1, g2⟩ := ag_rt (t := keyS (nameS (c : Int))) nv' nc' (by omega) (by omega) kc1
  obtain ⟨b1, b2, b3, b4⟩ := two_rt (op := 66) (by rfl) (g2.mono (Nat.le_refl _) (show 1 + 1 ≤ d + 1 by omega)) w2 (by omega) (by omega) rfl
  generalize hK : agS (nameS (v : Int)) (nameS (c : Int)) = K at g1 g2 b1 b2 b3 b4
  generalize hB : twoS 66 K T2 = B at b1 b2 b3 b4
  obtain ⟨a1, a2, a3⟩ := two_tuple (kv'.mono (Nat.le_refl _) (show 2 ≤ d + 1 + 1 by omega)) b2 (by omega) (by omega)
  generalize hP : tupS [keyS (nameS (v : Int)), B] = P at a1 a2 a3
  refine ⟨P, ?_, a2.mono (by omega) (by omega)⟩
  unfold rnd
  rw [hd, hnode, q1, g1, kv0]
  dsimp only
  rw [w1]
  dsimp only
  rw [b1]
  dsimp only
  rw [a1]
  rfl
theorem hopsE_route {l : List Nat} (hv : ∀ v ∈ l, v ≤ 4294967295) (hl : l.length ≤ 1000) : hopsE (rDrawn l) (rHops l) = 0 := by
  unfold hopsE
  refine hopsF_no _ _ fun k _ hk => ?_
  rw [rHops_len] at hk
  obtain ⟨v, hvi⟩ : ∃ v, l[k]? = some v := ⟨_, List.getElem?_eq_getElem (by omega)⟩
  have hvv := hv v (List.mem_of_getElem? hvi)
  unfold hopAt
  rw [getD_of (rHops_at hvi), getDS_of (rDrawn_at hvi)]
  have ho := rHop_ok k v hvv
  unfold hopE
  rw [if_neg, if_neg, if_neg]
  · rw [name_op4 v (by omega)]
    show ¬ (_ ∨ _ ∨ _ ∨ (op4 (keyS (nameS ((100 + k : Nat) : Int))).data.toList).op ≠ 80)
    rw [(key_rt (100 + k) (by omega)).2.2.2]
    rintro (h | h | h | h)
    · cases h
    · exact absurd (show (110 : Nat) = _ from h) (by decide)
    · exact absurd (show (110 : Nat) = _ from h) (by decide)
    · exact h rfl
  · have := ho.a0; have := ho.a1; omega
  · have h2 := ho.c
    have h3 := ho.e0
    have h4 := ho.e1
    rintro (h | ⟨h, _⟩ | h | h)
    · omega
    · have := congrArg ByteArray.size h
      exact absurd this (by show ¬ (2 = 0); omega)
    · omega
    · omega
/-! sizes of what could be made -/
theorem whole_size {t : ByteArray} (h : (wholeP t).2 = 0) : (wholeP t).1 = t := by
  unfold wholeP at h ⊢
  by_cases hr : rt t = true
  · rw [if_pos hr]
  · rw [if_neg hr] at h; cases h
theorem built_size {head : ByteArray} {vs : List ByteArray} (h : (buildP head vs).2 = 0) : (buildP head vs).1 = ⟨(buildL head vs).toArray⟩ := by
  unfold buildP at h ⊢
  by_cases hr : vs.all rt = true
  · rw [if_pos hr] at h ⊢; exact whole_size h
  · rw [if_neg hr] at h; cases h
theorem tuple_size {vs : List ByteArray} (h : (tupleP vs).2 = 0) : (tupleP vs).1 = tupS vs := by
  unfold tupleP at h ⊢
  by_cases hr : 32 < vs.length
  · rw [if_pos hr] at h; cases h
  · rw [if_neg hr] at h ⊢; exact built_size h
theorem two_size {op : UInt8} {a b : ByteArray} (h : (buildP ⟨#[op]⟩ [a, b]).2 = 0) : (buildP ⟨#[op]⟩ [a, b]).1.size = a.size + b.size + 1 := by
  rw [built_size h, buildL_two]
  exact twoS_size op a b
theorem dec_pos (u : Nat) : 1 ≤ (Lib.decDigits u).length := by
  have h := (dec_good u).1
  cases hl : Lib.decDigits u with
  | nil => rw [hl] at h; cases h
  | cons c l => simp
theorem tupS_ge (vs : List ByteArray) : (vs.map (fun v => v.data.toList)).flatten.length + 3 ≤ (tupS vs).size := by
  rw [← list_size, tupS_list, List.length_cons, List.length_append, List.length_cons]
  have := dec_pos vs.length
  omega
theorem textS_ge (s : ByteArray) : s.size + 3 ≤ (textS s).size := by
  rw [← list_size (textS s), textS_list, List.length_cons, List.length_append, List.length_cons, list_size]
  have := dec_pos s.size
  omega
theorem rnd_ge {drawn : List ByteArray} {hs : List Hp} {pay p : ByteArray} {i : Nat} (h : (rnd drawn hs pay i p).bad = false) : p.size + (ofAt hs pay i).size + 19 ≤ (rnd drawn hs pay i p).packet.size := by
  unfold rnd at h ⊢
  dsimp only at h ⊢
  unfold bad6 at h
  simp only [Bool.or_eq_false_iff, decide_eq_false_iff_not, ne_eq, Decidable.not_not] at h
  obtain ⟨⟨⟨⟨⟨h1, h2⟩, h3⟩, h4⟩, h5⟩, h6⟩ := h
  rw [tuple_size h6]
  have e6 := tupS_ge [(pubP (drawn.getD i ⟨#[]⟩)).1, (buildP ⟨#[66]⟩ [(agreeP (drawn.getD i ⟨#[]⟩) (hs.getD i hp0).node).1, (tupleP [(payP hs pay i).1, p]).1]).1]
  rw [flat_two, two_size h4, tuple_size h3] at e6
  rw [tuple_size h3]
  have e3 := tupS_ge [(payP hs pay i).1, p]
  rw [flat_two] at e3
  have e1 : (payP hs pay i).1 = _ := tuple_size h1
  rw [e1] at e3
  have e4 := tupS_ge [textS (nameAt hs i), textS (decS (lastH hs i).amt), textS (decS (lastH hs i).exp), ofAt hs pay i]
  rw [flat_four] at e4
  have g1 := textS_ge (nameAt hs i)
  have g2 := textS_ge (decS (lastH hs i).amt)
  have g3 := textS_ge (decS (lastH hs i).exp)
  rw [e1] at e6
  rw [e1]
  omega
theorem goB_ge {drawn : List ByteArray} {hs : List Hp} {pay : ByteArray} : ∀ {k : Nat} {p : ByteArray} {ks : List ByteArray}, goB drawn hs pay (k + 1) = some (p, ks) → k + 1 ≤ hs.length → pay.size + 22 * k ≤ p.size
  | k, p, ks, h, hk => by
    cases hg : goB drawn hs pay k with
    | none => rw [goB_none hg 1] at h; cases h
    | some x =>
      obtain ⟨q, qs⟩ := x
      cases hb : (rnd drawn hs pay (hs.length - 1 - k) q).bad with
      | true => rw [goB_bad hg hb (Nat.lt_succ_self k)] at h; cases h
      | false =>
        rw [goB_next hg hb] at h
        cases h
        have hr := rnd_ge hb
        cases k with
        | zero =>
          have ho : ofAt hs pay (hs.length - 1 - 0) = pay := by unfold ofAt; rw [if_neg (by omega)]
          rw [ho] at hr
          omega
        | succ k =>
          have ih := goB_ge hg (by omega)
          have ho : ofAt hs pay (hs.length - 1 - (k + 1)) = t0 := by unfold ofAt; rw [if_pos (by omega)]; rfl
          have h3 : t0.size = 3 := rfl
          rw [ho] at hr
          omega
/-! twenty noughts -/
def z20 : List Nat := List.replicate 20 0
theorem z20_len : z20.length = 20 := rfl
theorem z20_small : ∀ v ∈ z20, v ≤ 4294967295 := fun v hv => by have := List.eq_of_mem_replicate hv; omega
theorem z20_at {i : Nat} (hi : i < 20) : z20[i]? = some 0 := by
  rw [List.getElem?_eq_getElem (by rw [z20_len]; exact hi)]
  congr 1
  exact List.eq_of_mem_replicate (List.getElem_mem _)
theorem names20 : ∀ i, i < 20 → (nameS ((100 + i : Nat) : Int)).size ≤ 5 := fun i hi => by
  have h : (List.range 20).all (fun i => decide ((nameS ((100 + i : Nat) : Int)).size ≤ 5)) = true := by decide +kernel
  exact of_decide_eq_true (List.all_eq_true.1 h i (List.mem_range.2 hi))
theorem zero_dec : decS 0 = ⟨#[48]⟩ := by kernel_rfl
theorem goB_zero {pay : ByteArray} {np : Nat} (hpay : Rt pay np 2) (hnp : 3 ≤ np) (hn : np + 3400 ≤ 16384) : ∀ k, k ≤ 20 → ∃ p ks, goB (rDrawn z20) (rHops z20) pay k = some (p, ks) ∧ Rt p (3 + (if k = 0 then 0 else np) + 165 * k) (3 + 3 * k)
  | 0, _ => ⟨t0, [], rfl, t0_rt.mono (by simp) (by omega)⟩
  | k + 1, hk => by
    obtain ⟨p, ks, h1, h2⟩ := goB_zero hpay hnp hn k (by omega)
    have hl : (rHops z20).length = 20 := by rw [rHops_len, z20_len]
    have hat := z20_at (i := 19 - k) (by omega)
    have hlast : ∃ i', lastH (rHops z20) (19 - k) = rHop i' 0 := by
      unfold lastH
      rw [hl]
      by_cases hh : 19 - k + 1 < 20
      · rw [if_pos hh, getD_of (rHops_at (z20_at hh))]; exact ⟨_, rfl⟩
      · rw [if_neg hh, getD_of (rHops_at hat)]; exact ⟨_, rfl⟩
    obtain ⟨i', hlast⟩ := hlast
    have hnm : (nameAt (rHops z20) (19 - k)).size ≤ 2 := by
      unfold nameAt
      rw [hl]
      by_cases hh : 19 - k + 1 < 20
      · rw [if_pos hh, getD_of (rHops_at (z20_at hh))]; exact Nat.le_refl _
      · rw [if_neg hh]; exact Nat.zero_le _
    have hof : Rt (ofAt (rHops z20) pay (19 - k)) (if k = 0 then np else 3) 2 := by
      unfold ofAt
      rw [hl]
      by_cases hh : 19 - k + 1 < 20
      · rw [if_pos hh, if_neg (by omega)]; exact t0_rt.mono (Nat.le_refl _) (by omega)
      · rw [if_neg hh, if_pos (by omega)]; exact hpay
    have t1 := (text_rt (nameAt (rHops z20) (19 - k)) (by omega)).1.mono (show _ ≤ 25 by omega) (Nat.le_refl _)
    have ta : Rt (textS (decS (lastH (rHops z20) (19 - k)).amt)) 24 1 := by rw [hlast]; exact (text_rt (decS 0) (by rw [zero_dec]; decide)).1.mono (by rw [zero_dec]; decide) (Nat.le_refl _)
    have te : Rt (textS (decS (lastH (rHops z20) (19 - k)).exp)) 24 1 := by rw [hlast]; exact (text_rt (decS 0) (by rw [zero_dec]; decide)).1.mono (by rw [zero_dec]; decide) (Nat.le_refl _)
    have hsv : (nameS ((0 : Nat) : Int)).size ≤ 3 := Nat.le_of_ble_eq_true (by kernel_rfl)
    obtain ⟨P, e1, e2⟩ := rnd_big (drawn := rDrawn z20) (hs := rHops z20) (pay := pay) (p := p) (i := 19 - k) (c := 100 + (19 - k)) (v := 0) (by omega) (by omega) (getDS_of (rDrawn_at hat)) (by rw [getD_of (rHops_at hat)]; rfl) t1 ta te hof hsv (names20 _ (by omega)) h2 (by omega) (by omega) (by by_cases hk0 : k = 0 <;> simp only [hk0, if_true, if_false] <;> omega)
    have hi : (rHops z20).length - 1 - k = 19 - k := by rw [hl]
    have hx := goB_next (drawn := rDrawn z20) (hs := rHops z20) (pay := pay) h1 (by rw [hi, e1])
    rw [hi, e1] at hx
    refine ⟨_, _, hx, e2.mono ?_ (by omega)⟩
    rw [if_neg (show ¬ k + 1 = 0 by omega)]
    by_cases hk0 : k = 0
    · rw [if_pos hk0, if_pos hk0]; omega
    · rw [if_neg hk0, if_neg hk0]; omega
theorem build_big {pay : ByteArray} {np : Nat} (hpay : Rt pay np 2) (hnp : 3 ≤ np) (hn : np + 3400 ≤ 16384) : (buildR (rDrawn z20) (rHops z20) pay).2.2 = 0 := by
  unfold buildR
  rw [rHops_len, rDrawn_len, z20_len, if_neg (by omega), hopsE_route z20_small (by rw [z20_len]; omega), if_neg (by decide), if_neg (by rw [hpay.r]; decide)]
  obtain ⟨p, ks, h, _⟩ := goB_zero hpay hnp hn 20 (Nat.le_refl _)
  rw [h]
theorem build_wide {pay : ByteArray} (hpay : rt pay = true) (hn : 16200 ≤ pay.size) : buildR (rDrawn z20) (rHops z20) pay = (⟨#[]⟩, [], 3) := by
  unfold buildR
  rw [rHops_len, rDrawn_len, z20_len, if_neg (by omega), hopsE_route z20_small (by rw [z20_len]; omega), if_neg (by decide), if_neg (by rw [hpay]; decide)]
  cases hg : goB (rDrawn z20) (rHops z20) pay 20 with
  | none => rfl
  | some x =>
    obtain ⟨p, ks⟩ := x
    have h1 := goB_ge (k := 19) hg (by rw [rHops_len, z20_len]; omega)
    have h2 := goB_le hg
    omega
/-- texts of noughts -/
def zS (n : Nat) : ByteArray := ⟨(List.replicate n (0 : UInt8)).toArray⟩
theorem zS_size (n : Nat) : (zS n).size = n := by unfold zS; rw [← list_size, ba_list, List.length_replicate]
def zLong : ByteArray := textS (zS 4096)
def zWide : ByteArray := tupS [zLong, zLong, zLong]
def zWider : ByteArray := tupS [zLong, zLong, zLong, textS (zS 3900)]
theorem zLong_rt : Rt zLong 4102 1 := by
  have h := (text_rt (zS 4096) (by rw [zS_size]; omega)).1
  refine ⟨h.r, ?_, h.d⟩
  unfold zLong
  rw [← list_size, textS_list, List.length_cons, List.length_append, List.length_cons, list_size, zS_size]
  have : (Lib.decDigits 4096).length = 4 := by decide +kernel
  omega
theorem zLast_rt : Rt (textS (zS 3900)) 3906 1 := by
  have h := (text_rt (zS 3900) (by rw [zS_size]; omega)).1
  refine ⟨h.r, ?_, h.d⟩
  rw [← list_size, textS_list, List.length_cons, List.length_append, List.length_cons, list_size, zS_size]
  have : (Lib.decDigits 3900).length = 4 := by decide +kernel
  omega
theorem flat_three (a b c : ByteArray) : (([a, b, c] : List ByteArray).map (fun v => v.data.toList)).flatten.length = a.size + b.size + c.size := by
  rw [← list_size, ← list_size, ← list_size]; simp; omega
theorem zWide_rt : tupleP [zLong, zLong, zLong] = (zWide, 0) ∧ Rt zWide 12329 2 := by
  have h := zLong_rt
  obtain ⟨h1, h2, _⟩ := tuple_rt [zLong, zLong, zLong] 12329 1 (by simp) (by intro v hv; simp at hv; subst hv; exact ⟨h.r, h.d⟩) (by omega) (by rw [flat_three]; have := h.s; omega) (by omega)
  exact ⟨h1, h2⟩
theorem zWider_rt : tupleP [zLong, zLong, zLong, textS (zS 3900)] = (zWider, 0) ∧ rt zWider = true ∧ 16200 ≤ zWider.size ∧ zWider.size ≤ 16384 := by
  have h := zLong_rt
  have h' := zLast_rt
  obtain ⟨h1, h2, _⟩ := tuple_rt [zLong, zLong, zLong, textS (zS 3900)] 16384 1 (by simp) (by intro v hv; simp at hv; rcases hv with rfl | rfl; exact ⟨h.r, h.d⟩; exact ⟨h'.r, h'.d⟩) (by omega) (by rw [flat_four]; have := h.s; have := h'.s; omega) (by omega)
  refine ⟨h1, h2.r, ?_, h2.s⟩
  have hge := tupS_ge [zLong, zLong, zLong, textS (zS 3900)]
  rw [flat_four] at hge
  have g1 : 4096 + 6 ≤ zLong.size := by
    unfold zLong
    rw [← list_size, textS_list, List.length_cons, List.length_append, List.length_cons, list_size, zS_size]
    have : (Lib.decDigits 4096).length = 4 := by decide +kernel
    omega
  have g2 := textS_ge (zS 3900)
  rw [zS_size] at g2
  show 16200 ≤ (tupS [zLong, zLong, zLong, textS (zS 3900)]).size
  omega
end Go.Proofs.YtbdimlppnhcicaaDoor
