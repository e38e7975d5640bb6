/- OnionPeels, walked -/
import Derived.Test.YtbdimlppnhcicaaDoorOnS
import Derived.Test.YtbdimlppnhcicaaDoorOnO
import Derived.Test.YtbdimlppnhcicaaDoorOnN
namespace Go.Proofs.YtbdimlppnhcicaaDoor
set_option linter.unusedVariables false
open Go.RowKit
/-! onion: OnionPeels, walked -/
structure PS (w W : World) (sb mm db : Nat) (v : Value) (LS LD : List ByteArray) : Prop where
  s : SeenAt W w.heap.size sb mm LS
  d : DSn W w.heap.size db v LD
  b : Below w.heap.size w W
theorem PS.next {w W W' : World} {sb mm db : Nat} {v : Value} {LS LD : List ByteArray} (h : PS w W sb mm db v LS LD) (hb : Below W.heap.size W W') : PS w W' sb mm db v LS LD :=
  ⟨h.s.below hb, h.d.below hb, h.b.trans (hb.mono h.b.size)⟩
theorem fr_below {S : Nat → Prop} {w W W' : World} (h : Fr S W W') (hb : Below w.heap.size w W) (hs : ∀ k, S k → w.heap.size ≤ k) : Below w.heap.size w W' :=
  ⟨h.os.trans hb.os, h.tape.trans hb.tape, h.output.trans hb.output, Nat.le_trans hb.size h.size, fun k hk => (h.block k (Nat.lt_of_lt_of_le hk hb.size) (fun e => by have := hs k e; omega)).trans (hb.block k hk)⟩
theorem peelM_len (x p : ByteArray) (L : List ByteArray) : (peelM x p L).length ≤ L.length + 1 := by
  unfold peelM
  split
  · rw [List.length_append]; exact Nat.le_refl _
  · omega
def KeepR (W w' : World) : Prop := ∀ (k : Nat) (cs : Array Value) (t : TypeId) (f : Nat × Nat), W.heap[k]? = some (Obj.cells cs t f) → t ≠ 24 → t ≠ 39 → w'.heap[k]? = some (Obj.cells cs t f)
theorem ps_op {w W : World} {sb mm db : Nat} {v : Value} {LS LD : List ByteArray} (h : PS w W sb mm db v LS LD) (x p : ByteArray) (hx : x.size ≤ maxLen) (hp : p.size ≤ maxLen) (hl : LS.length ≤ 4096) (hL : LibOk w) (hT : Tab w) : Calls Tryd.prog 18 #[.string x, .string p, .pointer (some ⟨sb, 0, none⟩)] W fun e w' => e = .returned (peelV (peelE x p (some LS))) ∧ PS w w' sb mm db v (peelM x p LS) LD ∧ KeepR W w' :=
  (opeel_mem x p W w.heap.size sb mm LS h.s h.b.size (by omega) hx hp (hL.below h.b) (hT.below h.b)).mono fun e w' ⟨h1, h2, h3⟩ => by
    obtain ⟨es, c, hm, _⟩ := h.s.map
    have hdb : db ≠ mm := by intro e; have := h.d.s; rw [e, hm] at this; cases this
    have hrow : ∀ g, v.ownBlock = some g → g ≠ mm := by
      intro g hg e
      subst e
      rcases h.d.own.2 with ⟨hv, _⟩ | ⟨g', cap', cur, hv, _, hgg, _⟩
      · rw [hv] at hg; cases hg
      · rw [hv] at hg
        simp only [Value.ownBlock, Option.some.injEq] at hg
        subst hg
        rw [hm] at hgg; cases hgg
    exact ⟨h1, ⟨h3, h.d.far (h2.block db (lt_of_heap h.d.s) hdb) (fun g hg => h2.block g (h.d.own.lt g hg).2 (hrow g hg)), fr_below h2 h.b (fun k hk => by rw [hk]; exact h.s.h2)⟩, fun k cs t f hk _ _ => (h2.block k (lt_of_heap hk) (fun e => by rw [e, hm] at hk; cases hk)).trans hk⟩
theorem ps_dp {w W : World} {sb mm db : Nat} {v : Value} {LS LD : List ByteArray} (h : PS w W sb mm db v LS LD) (x p : ByteArray) (hx : x.size ≤ maxLen) (hp : p.size ≤ maxLen) (hl : LD.length ≤ 4096) : Calls Tryd.prog 19 #[.string x, .string p, .pointer (some ⟨db, 0, none⟩)] W fun e w' => e = .returned (peelV (peelE x p (some LD))) ∧ (∃ v', PS w w' sb mm db v' LS (peelM x p LD)) ∧ KeepR W w' := by
  obtain ⟨va, vc, rfl⟩ := own_slice h.d.own
  refine (dpeel_mem x p W w.heap.size db va vc LD h.d h.b.size hl hx hp).mono fun e w' ⟨h1, v', h2, h3, h4⟩ => ?_
  obtain ⟨es, c, hm, hk⟩ := h.s.map
  have hown : ∀ g, (Value.slice va LD.length vc).ownBlock = some g → w.heap.size ≤ g ∧ g ≠ mm ∧ g ≠ sb := by
    intro g hg
    refine ⟨(h.d.own.lt g hg).1, ?_, own_neT h.d.own h.s.s (by decide) g hg⟩
    intro e
    subst e
    rcases h.d.own.2 with ⟨hv, _⟩ | ⟨g', cap', cur, hv, _, hgg, _⟩
    · rw [hv] at hg; cases hg
    · rw [hv] at hg
      simp only [Value.ownBlock, Option.some.injEq] at hg
      subst hg
      rw [hm] at hgg; cases hgg
  have hsd : sb ≠ db := type_ne h.s.s h.d.s (by decide)
  have hmd : mm ≠ db := by intro e; have := h.d.s; rw [← e, hm] at this; cases this
  refine ⟨h1, ⟨v', h.s.blocks (h2.block sb (lt_of_heap h.s.s) (fun e => by rcases e with e | e; exact hsd e; exact (hown sb e).2.2 rfl)) (h2.block mm (lt_of_heap_map hm) (fun e => by rcases e with e | e; exact hmd e; exact (hown mm e).2.1 rfl)), h3, fr_below h2 h.b (fun k hk => by rcases hk with hk | hk; rw [hk]; exact h.d.h1; exact (hown k hk).1)⟩, fun k cs t f hk h24 h39 => (h2.block k (lt_of_heap hk) (fun e => ?_)).trans hk⟩
  rcases e with e | e
  · exact type_ne hk h.d.s h39 e
  · exact own_neT h.d.own hk h24 k e rfl
theorem SeenAt.base {w : World} {a b sb mm : Nat} {L : List ByteArray} (h : SeenAt w b sb mm L) (hab : a ≤ b) : SeenAt w a sb mm L := ⟨h.s, h.map, Nat.le_trans hab h.h1, Nat.le_trans hab h.h2⟩
set_option maxRecDepth 100000 in
set_option maxHeartbeats 16000000 in
theorem peels_any (ok : Option Addr) (K : List ByteArray) (ck : Nat) (op : Option Addr) (P : List ByteArray) (cp : Nat) (w : World) (hK : StrsAt ok K w) (hKs : ∀ v ∈ K, v.size ≤ 140737488351232) (hP : StrsAt op P w) (hPs : ∀ v ∈ P, v.size ≤ 140737488351232) (hKl : K.length ≤ 9223372036854775807) (hPl : P.length ≤ 9223372036854775807) (hL : LibOk w) (hT : Tab w) :
    Calls Tryd.prog 4 #[.slice ok K.length ck, .slice op P.length cp] w fun e w' => e = .returned (.bool true) ∧ Below w.heap.size w w' := by
  have HG1 : Hid (∀ W, Below w.heap.size w W → Calls Tryd.prog 11 #[.slice ok K.length ck, .slice none 0 0] W (LargeP K.length 0 W)) := fun W hW => large_any ok K ck none [] 0 W (hK.below hW) hKs (.inl rfl) (by simp) hKl (by simp)
  have HG2 : Hid (∀ W, Below w.heap.size w W → Calls Tryd.prog 11 #[.slice op P.length cp, .slice none 0 0] W (LargeP P.length 0 W)) := fun W hW => large_any op P cp none [] 0 W (hP.below hW) hPs (.inl rfl) (by simp) hPl (by simp)
  have HW : Hid (∀ W, Below w.heap.size w W → Calls Tryd.prog 12 #[] W fun e w' => e = .returned (.bool true) ∧ Below W.heap.size W w') := fun W hW => works_onion W (hL.below hW) (hT.below hW)
  have HK := Lib.hid hK
  have HP := Lib.hid hP
  have HKS := Lib.hid hKs
  have HPS := Lib.hid hPs
  have HL := Lib.hid hL
  have HT := Lib.hid hT
  clear hK hP hKs hPs hL hT
  go_enter Tryd.func4, Tryd.ntmps4
  go_upto_region 1 with fail
  go_cut [27] from 17 to 27 (fun v wx => ∃ b, v = .bool b ∧ (b = false → P.length ≤ 30) ∧ Hid (Below w.heap.size w wx))
  case first =>
    go_wp2_with (first
      | (go_at_call 11; (with_reducible refine Calls.mono (HG1.out _ (Below.refl _ _)) ?_); rintro e w1 ⟨b1, rfl, _, hb⟩; have B1 := Lib.hid hb; clear hb)
      | (go_at_call 11; (with_reducible refine Calls.mono (HG2.out _ B1.out) ?_); rintro e w2 ⟨b2, rfl, _, hb⟩; have B2 := Lib.hid (B1.out.trans (hb.mono B1.out.size)); clear hb))
    all_goals go_meet
    all_goals first | exact ⟨true, rfl, (fun h => by cases h), B1.out⟩ | exact ⟨true, rfl, (fun h => by cases h), B2.out⟩ | exact ⟨_, rfl, (fun h => by have := of_decide_eq_false h; omega), B2.out⟩
  case rest =>
    obtain ⟨b, rfl, hp, HB⟩ := hcut
    cases b with
    | true =>
      go_wp2_with (go_at_call 12; (with_reducible refine Calls.mono (HW.out _ HB.out) ?_); rintro e w3 ⟨rfl, hb⟩; have B3 := Lib.hid (HB.out.trans (hb.mono HB.out.size)); clear hb)
      go_ret
      exact ⟨rfl, B3.out⟩
    | false =>
      have h30 := hp rfl
      clear hp
      go_upto_region 4 with (go_at_call 17; (with_reducible refine Calls.mono (seen_new _) ?_); rintro e w3 ⟨sb, mm, rfl, hs, hb⟩; have B3 := Lib.hid (HB.out.trans (hb.mono HB.out.size)); have S3 : Hid (SeenAt w3 w.heap.size sb mm []) := hs.base HB.out.size; clear hb hs)
      have b4 := below_new' w3 (.cells #[.slice none 0 0] 39)
      have B4 := Lib.hid (B3.out.trans (b4.mono B3.out.size))
      have S4 := Lib.hid (S3.out.below b4)
      have D4 : Hid (DSn (w3.alloc (.cells #[.slice none 0 0] 39)) w.heap.size w3.heap.size (.slice none 0 0) []) := ⟨heap_alloc_at w3 _, World.ownsRow_nil _ _ _ _, B3.out.size⟩
      clear b4
      generalize w3.alloc (.cells #[.slice none 0 0] 39) = w4 at B4 S4 D4 ⊢
      generalize w3.heap.size = db at D4 ⊢
      clear B3 S3
      go_wp2
      go_loopw [7] (fun iv wr => ∃ (i : Nat) (v : Value) (L : List ByteArray), i ≤ P.length ∧ iv = .int .i64 i ∧ L.length ≤ i ∧ Hid (SeenAt wr w.heap.size sb mm L) ∧ Hid (DSn wr w.heap.size db v L) ∧ Hid (Below w.heap.size w wr)) (fun iv _ => P.length - (intOf iv).toNat)
      case atStart => exact ⟨0, _, [], Nat.zero_le _, rfl, Nat.le_refl _, S4.out, D4.out, B4.out⟩
      case round =>
        obtain ⟨i, v, L, hi, rfl, hLi, HS, HD, HBl⟩ := hrel
        by_cases hgo : i < P.length ∧ 0 < K.length
        · obtain ⟨hlt, hk0⟩ := hgo
          obtain ⟨x, hx⟩ : ∃ x, K[i % K.length]? = some x := ⟨_, List.getElem?_eq_getElem (Nat.mod_lt _ hk0)⟩
          obtain ⟨p, hp⟩ : ∃ x, P[i]? = some x := ⟨_, List.getElem?_eq_getElem hlt⟩
          obtain ⟨kb, kf, rfl, hkc⟩ := (HK.out.below HBl.out).resolve_left (by intro h; rw [h] at hk0; simp at hk0)
          obtain ⟨pb, pf, rfl, hpc⟩ := (HP.out.below HBl.out).resolve_left (by intro h; rw [h] at hlt; simp at hlt)
          obtain ⟨pb', pf', hpe, hpw'⟩ := HP.out.resolve_left (by intro h; rw [h] at hlt; simp at hlt)
          cases hpe
          have HPW := Lib.hid (hpw' i p hp)
          clear hpw'
          have xk := hkc _ x hx
          have xp := hpc i p hp
          have hxs := HKS.out x (List.mem_of_getElem? hx)
          have hps := HPS.out p (List.mem_of_getElem? hp)
          have hii : (i : Int) < (P.length : Int) := by omega
          have hki : (0 : Int) < (K.length : Int) := by omega
          have hkz : ((K.length : Int) == 0) = false := beq_eq_false_iff_ne.2 (by omega)
          have hmod : Int.tmod (i : Int) (K.length : Int) = ((i % K.length : Nat) : Int) := (Int.ofNat_tmod i K.length).symm
          have hmlt : ((i % K.length : Nat) : Int) < (K.length : Int) := Int.ofNat_lt.2 (Nat.mod_lt i hk0)
          obtain ⟨j, hj⟩ : ∃ j, i % K.length = j := ⟨_, rfl⟩
          rw [hj] at xk hmod hmlt
          clear hkc hpc hx hp
          go_upto_region 8 with fail
          have hxm : x.size ≤ maxLen := by unfold maxLen; omega
          have hpm : p.size ≤ maxLen := by unfold maxLen; omega
          have PW : Hid (PS w wr sb mm db v L L) := ⟨HS.out, HD.out, HBl.out⟩
          have hL40 : L.length ≤ 4096 := by omega
          have hM40 := peelM_len x p L
          have HM40 := Lib.hid hM40
          obtain ⟨M, hM⟩ : ∃ M, peelM x p L = M := ⟨_, rfl⟩
          obtain ⟨⟨e1, ⟨c1, a1, x1, p1, i1, l1⟩, s1⟩, hr1⟩ : ∃ r, peelE x p (some L) = r := ⟨_, rfl⟩
          obtain ⟨⟨e2, ⟨c2, a2, x2, p2, i2, l2⟩, s2⟩, hr2⟩ : ∃ r, peelE x p none = r := ⟨_, rfl⟩
          have C1 : Hid (∀ W v, PS w W sb mm db v L L → Calls Tryd.prog 18 #[.string x, .string p, .pointer (some ⟨sb, 0, none⟩)] W fun e w' => e = .returned (.tuple #[.agg #[.string c1, .int .i64 a1, .int .i64 x1, .string p1, .string i1, .string s1, .bool l1], .int .i64 e1]) ∧ PS w w' sb mm db v M L ∧ KeepR W w') := fun W v h => (ps_op h x p hxm hpm hL40 HL.out HT.out).mono fun e w' hh => ⟨by rw [hh.1, hr1]; rfl, by rw [← hM]; exact hh.2⟩
          have C2 : Hid (∀ W v, PS w W sb mm db v M L → Calls Tryd.prog 19 #[.string x, .string p, .pointer (some ⟨db, 0, none⟩)] W fun e w' => e = .returned (.tuple #[.agg #[.string c1, .int .i64 a1, .int .i64 x1, .string p1, .string i1, .string s1, .bool l1], .int .i64 e1]) ∧ (∃ v', PS w w' sb mm db v' M M) ∧ KeepR W w') := fun W v h => (ps_dp h x p hxm hpm hL40).mono fun e w' hh => ⟨by rw [hh.1, hr1]; rfl, by rw [← hM]; rw [← hM] at hh; exact hh.2⟩
          have C3 : Hid (∀ W v, PS w W sb mm db v M M → Calls Tryd.prog 18 #[.string x, .string p, .pointer none] W fun e w' => e = .returned (.tuple #[.agg #[.string c2, .int .i64 a2, .int .i64 x2, .string p2, .string i2, .string s2, .bool l2], .int .i64 e2]) ∧ Below W.heap.size W w') := fun W v h => (opeel_nil x p W hxm hpm (HL.out.below h.b) (HT.out.below h.b)).mono fun e w' hh => ⟨by rw [hh.1, hr2]; rfl, hh.2⟩
          have C4 : Hid (∀ W, Calls Tryd.prog 19 #[.string x, .string p, .pointer none] W fun e w' => e = .returned (.tuple #[.agg #[.string c2, .int .i64 a2, .int .i64 x2, .string p2, .string i2, .string s2, .bool l2], .int .i64 e2]) ∧ Below W.heap.size W w') := fun W => (dpeel_nil x p W hxm hpm).mono fun e w' hh => ⟨by rw [hh.1, hr2]; rfl, hh.2⟩
          have HML : Hid (M.length ≤ i + 1) := by show _ ≤ _; rw [← hM]; omega
          have X1 : Hid (∀ W, Calls Tryd.prog 20 #[.agg #[.string c1, .int .i64 a1, .int .i64 x1, .string p1, .string i1, .string s1, .bool l1], .agg #[.string c1, .int .i64 a1, .int .i64 x1, .string p1, .string i1, .string s1, .bool l1]] W fun e w' => e = .returned (.bool true) ∧ Below W.heap.size W w') := fun W => slayer_any ⟨c1, a1, x1, p1, i1, l1⟩ s1 W
          have X2 : Hid (∀ W, Calls Tryd.prog 20 #[.agg #[.string c2, .int .i64 a2, .int .i64 x2, .string p2, .string i2, .string s2, .bool l2], .agg #[.string c2, .int .i64 a2, .int .i64 x2, .string p2, .string i2, .string s2, .bool l2]] W fun e w' => e = .returned (.bool true) ∧ Below W.heap.size W w') := fun W => slayer_any ⟨c2, a2, x2, p2, i2, l2⟩ s2 W
          clear hM hM40 hr1 hr2 HS HD HBl hxm hpm xk hxs hps
          go_upto_region 9 with (go_at_call 18; (with_reducible refine Calls.mono (C1.out _ _ PW.out) ?_); rintro e w1 ⟨rfl, Pw1', hkp⟩; have Pw1 := Lib.hid Pw1'; clear Pw1' hkp; clear xp)
          have nb := below_new' w1 (.cells #[.string c1, .int .i64 a1, .int .i64 x1, .string p1, .string i1, .string s1, .bool l1] 41)
          have kaw2 := Lib.hid (heap_alloc_at w1 (.cells #[.string c1, .int .i64 a1, .int .i64 x1, .string p1, .string i1, .string s1, .bool l1] 41))
          have Pw2 := Lib.hid (Pw1.out.next nb)
          have xp := cell_later Pw2.out.b HPW.out
          clear nb Pw1 
          generalize w1.alloc (.cells #[.string c1, .int .i64 a1, .int .i64 x1, .string p1, .string i1, .string s1, .bool l1] 41) = w2 at Pw2 kaw2  xp ⊢
          generalize w1.heap.size = kab at kaw2 ⊢
          go_upto_region 10 with (go_at_call 19; (with_reducible refine Calls.mono (C2.out _ _ Pw2.out) ?_); rintro e w3 ⟨rfl, ⟨v3, Pw3'⟩, hkp⟩; have Pw3 := Lib.hid Pw3'; have kaw3 := Lib.hid (hkp _ _ _ _ kaw2.out (by decide) (by decide)); clear xp)
          have nb := below_new' w3 (.cells #[.string c1, .int .i64 a1, .int .i64 x1, .string p1, .string i1, .string s1, .bool l1] 44)
          have kcw4 := Lib.hid (heap_alloc_at w3 (.cells #[.string c1, .int .i64 a1, .int .i64 x1, .string p1, .string i1, .string s1, .bool l1] 44))
          have Pw4 := Lib.hid (Pw3.out.next nb)
          have kaw4 := Lib.hid ((nb.block _ (lt_of_heap kaw3.out)).trans kaw3.out)
          have xp := cell_later Pw4.out.b HPW.out
          clear nb Pw3 kaw3
          generalize w3.alloc (.cells #[.string c1, .int .i64 a1, .int .i64 x1, .string p1, .string i1, .string s1, .bool l1] 44) = w4 at Pw4 kcw4 kaw4 xp ⊢
          generalize w3.heap.size = kcb at kcw4 ⊢
          go_upto_region 11 with (go_at_call 18; (with_reducible refine Calls.mono (C3.out _ _ Pw4.out) ?_); rintro e w5 ⟨rfl, hb⟩; have Pw5 := Lib.hid (Pw4.out.next hb); have kaw5 := Lib.hid ((hb.block _ (lt_of_heap kaw4.out)).trans kaw4.out); have kcw5 := Lib.hid ((hb.block _ (lt_of_heap kcw4.out)).trans kcw4.out); clear xp)
          have nb := below_new' w5 (.cells #[.string c2, .int .i64 a2, .int .i64 x2, .string p2, .string i2, .string s2, .bool l2] 41)
          have kew6 := Lib.hid (heap_alloc_at w5 (.cells #[.string c2, .int .i64 a2, .int .i64 x2, .string p2, .string i2, .string s2, .bool l2] 41))
          have Pw6 := Lib.hid (Pw5.out.next nb)
          have kaw6 := Lib.hid ((nb.block _ (lt_of_heap kaw5.out)).trans kaw5.out)
          have kcw6 := Lib.hid ((nb.block _ (lt_of_heap kcw5.out)).trans kcw5.out)
          have xp := cell_later Pw6.out.b HPW.out
          clear nb Pw5 kaw5 kcw5
          generalize w5.alloc (.cells #[.string c2, .int .i64 a2, .int .i64 x2, .string p2, .string i2, .string s2, .bool l2] 41) = w6 at Pw6 kew6 kaw6 kcw6 xp ⊢
          generalize w5.heap.size = keb at kew6 ⊢
          go_upto_region 12 with (go_at_call 19; (with_reducible refine Calls.mono (C4.out _) ?_); rintro e w7 ⟨rfl, hb⟩; have Pw7 := Lib.hid (Pw6.out.next hb); have kaw7 := Lib.hid ((hb.block _ (lt_of_heap kaw6.out)).trans kaw6.out); have kcw7 := Lib.hid ((hb.block _ (lt_of_heap kcw6.out)).trans kcw6.out); have kew7 := Lib.hid ((hb.block _ (lt_of_heap kew6.out)).trans kew6.out); clear xp)
          have nb := below_new' w7 (.cells #[.string c2, .int .i64 a2, .int .i64 x2, .string p2, .string i2, .string s2, .bool l2] 44)
          have kgw8 := Lib.hid (heap_alloc_at w7 (.cells #[.string c2, .int .i64 a2, .int .i64 x2, .string p2, .string i2, .string s2, .bool l2] 44))
          have Pw8 := Lib.hid (Pw7.out.next nb)
          have kaw8 := Lib.hid ((nb.block _ (lt_of_heap kaw7.out)).trans kaw7.out)
          have kcw8 := Lib.hid ((nb.block _ (lt_of_heap kcw7.out)).trans kcw7.out)
          have kew8 := Lib.hid ((nb.block _ (lt_of_heap kew7.out)).trans kew7.out)
          have xp := cell_later Pw8.out.b HPW.out
          clear nb Pw7 kaw7 kcw7 kew7
          generalize w7.alloc (.cells #[.string c2, .int .i64 a2, .int .i64 x2, .string p2, .string i2, .string s2, .bool l2] 44) = w8 at Pw8 kgw8 kaw8 kcw8 kew8 xp ⊢
          generalize w7.heap.size = kgb at kgw8 ⊢
          have d0 := Pw8.out.d.cell
          obtain ⟨va, vc, hv3⟩ := own_slice Pw8.out.d.own
          rw [hv3] at d0
          obtain ⟨A0, A1, A2, A3, A4, A5, A6⟩ := seven_all kaw8.out
          obtain ⟨B0, B1, B2, B3, B4, B5, B6⟩ := seven_all kcw8.out
          obtain ⟨E0, E1, E2, E3, E4, E5, E6⟩ := seven_all kew8.out
          obtain ⟨G0, G1, G2, G3, G4, G5, G6⟩ := seven_all kgw8.out
          have HCT : Hid (∀ n : Later w8, Calls Tryd.prog 21 #[.pointer (some ⟨sb, 0, none⟩)] n.at_ fun e w' => e = .returned (.int .i64 M.length) ∧ Below n.at_.heap.size n.at_ w') := fun n => seen_count w.heap.size sb mm M n.at_ (Pw8.out.s.below n.below)
          clear xp
          replace A0 := Later.cell A0; replace A1 := Later.cell A1; replace A2 := Later.cell A2; replace A3 := Later.cell A3; replace A4 := Later.cell A4; replace A5 := Later.cell A5; replace A6 := Later.cell A6
          replace B0 := Later.cell B0; replace B1 := Later.cell B1; replace B2 := Later.cell B2; replace B3 := Later.cell B3; replace B4 := Later.cell B4; replace B5 := Later.cell B5; replace B6 := Later.cell B6
          replace E0 := Later.cell E0; replace E1 := Later.cell E1; replace E2 := Later.cell E2; replace E3 := Later.cell E3; replace E4 := Later.cell E4; replace E5 := Later.cell E5; replace E6 := Later.cell E6
          replace G0 := Later.cell G0; replace G1 := Later.cell G1; replace G2 := Later.cell G2; replace G3 := Later.cell G3; replace G4 := Later.cell G4; replace G5 := Later.cell G5; replace G6 := Later.cell G6
          replace d0 := Later.cell d0
          refine wp_region_later (by kernel_rfl) (by kernel_rfl) ?_
          repeat (go_big_quiet_step (first
            | (go_at_call 20; with_reducible exact calls_later (X1.out _))
            | (go_at_call 20; with_reducible exact calls_later (X2.out _))
            | (go_at_call 21; with_reducible exact calls_later (HCT.out _))))
          refine wpQuiet_nil ?_
          intro _ hw'
          obtain ⟨nq, rfl⟩ := hw'
          have P9 : Hid (PS w nq.at_ sb mm db v3 M M) := Pw8.out.next nq.below
          clear A0 A1 A2 A3 A4 A5 A6 B0 B1 B2 B3 B4 B5 B6 E0 E1 E2 E3 E4 E5 E6 G0 G1 G2 G3 G4 G5 G6 d0
          generalize nq.at_ = w9 at P9 ⊢
          go_wp2_with fail
          go_roundw
          case rel => exact ⟨i + 1, v3, M, by omega, by go_num, HML.out, P9.out.s, P9.out.d, P9.out.b⟩
          case measure => simp [intOf]; omega
        · have HX : Hid (i ≤ P.length) := hi
          have hcase : (P.length : Int) ≤ (i : Int) ∨ (i : Int) < (P.length : Int) ∧ (K.length : Int) = 0 := by omega
          rcases hcase with hc | ⟨hc, hc0⟩
          · have q0 := decN ((i : Int) < (P.length : Int)) (by omega)
            go_wp2_with (go_at_call 12; (with_reducible refine Calls.mono (HW.out _ HBl.out) ?_); rintro e w5 ⟨rfl, hb⟩; have B5 := Lib.hid (HBl.out.trans (hb.mono HBl.out.size)); clear hb)
            go_ret
            exact ⟨rfl, B5.out⟩
          · have q0 := decN ((0 : Int) < (K.length : Int)) (by omega)
            go_wp2_with (go_at_call 12; (with_reducible refine Calls.mono (HW.out _ HBl.out) ?_); rintro e w5 ⟨rfl, hb⟩; have B5 := Lib.hid (HBl.out.trans (hb.mono HBl.out.size)); clear hb)
            go_ret
            exact ⟨rfl, B5.out⟩
theorem peels_law (a0 : Option Addr) (l0 : List ByteArray) (n0 c0 : Nat) (a1 : Option Addr) (l1 : List ByteArray) (n1 c1 : Nat) (W : World) (hl0 : l0.length = n0) (m0 : n0 ≤ maxLen) (z0 : ∀ s ∈ l0, s.size ≤ 140737488351232) (hs0 : StrsAt a0 l0 W) (hl1 : l1.length = n1) (m1 : n1 ≤ maxLen) (z1 : ∀ s ∈ l1, s.size ≤ 140737488351232) (hs1 : StrsAt a1 l1 W) (hL : LibOk W) (hT : Tab W) :
    Calls Tryd.prog 4 #[.slice a0 n0 c0, .slice a1 n1 c1] W fun e W' => e = .returned (.bool true) ∧ Below W.heap.size W W' := by
  subst hl0 hl1
  exact peels_any a0 l0 c0 a1 l1 c1 W hs0 z0 hs1 z1 m0 m1 hL hT
end Go.Proofs.YtbdimlppnhcicaaDoor
