/- onion: OnionBuilds, walked -/
import Derived.Test.YtbdimlppnhcicaaDoorOnS
namespace Go.Proofs.YtbdimlppnhcicaaDoor
set_option linter.unusedVariables false
open Go.RowKit
/-! onion: a row of hops lent -/
theorem own_strs {w : World} {base n : Nat} {v : Value} {xs : List ByteArray} (h : w.ownsRow base 24 1 v n (xs.map Value.string)) (hn : xs.length = n) : ∃ o c, v = .slice o n c ∧ StrsAt o xs w := by
  subst hn
  obtain ⟨a, c, rfl⟩ := own_slice h
  refine ⟨a, c, rfl, ?_⟩
  rcases Nat.eq_zero_or_pos xs.length with h0 | hpos
  · exact .inl (List.length_eq_zero_iff.1 h0)
  · obtain ⟨g, cap, e1, _, e3⟩ := own_cells h hpos
    cases e1
    exact .inr ⟨g, 0, rfl, fun k s hk => by rw [Nat.zero_add]; exact e3 k _ (by rw [List.getElem?_map, hk]; rfl)⟩
def hopsC (H : List Hp) : List Value := H.flatMap Hp.cells
theorem hopsC_len (H : List Hp) : (hopsC H).length = H.length * 4 := by
  induction H with
  | nil => rfl
  | cons h H ih => unfold hopsC at *; rw [List.flatMap_cons, List.length_append, ih, List.length_cons]; show 4 + _ = _; omega
theorem hopsC_at : ∀ (H : List Hp) (j : Nat) (u : Value), (hopsC H)[j]? = some u → ∃ k h r, H[k]? = some h ∧ h.cells[r]? = some u ∧ j = k * 4 + r
  | [], j, u, h => by simp [hopsC] at h
  | x :: H, j, u, h => by
    have e : hopsC (x :: H) = x.cells ++ hopsC H := by unfold hopsC; rw [List.flatMap_cons]
    rw [e] at h
    have hl : x.cells.length = 4 := rfl
    rcases Nat.lt_or_ge j 4 with hj | hj
    · rw [List.getElem?_append_left (by omega)] at h
      exact ⟨0, x, j, rfl, h, by omega⟩
    · rw [List.getElem?_append_right (by omega)] at h
      obtain ⟨k, y, r, h1, h2, h3⟩ := hopsC_at H (j - 4) u (by rw [hl] at h; exact h)
      exact ⟨k + 1, y, r, by simpa using h1, h2, by omega⟩
theorem hopsC_get : ∀ (H : List Hp) (k r : Nat) (h : Hp) (u : Value), H[k]? = some h → h.cells[r]? = some u → (hopsC H)[k * 4 + r]? = some u
  | [], k, r, h, u, h1, _ => by simp at h1
  | x :: H, k, r, h, u, h1, h2 => by
    have e : hopsC (x :: H) = x.cells ++ hopsC H := by unfold hopsC; rw [List.flatMap_cons]
    have hl : x.cells.length = 4 := rfl
    rw [e]
    cases k with
    | zero =>
      cases h1
      have hr : r < 4 := (List.getElem?_eq_some_iff.1 h2).1
      rw [List.getElem?_append_left (by omega)]
      rw [show 0 * 4 + r = r by omega]; exact h2
    | succ k =>
      rw [List.getElem?_append_right (by omega), hl, show (k + 1) * 4 + r - 4 = k * 4 + r by omega]
      exact hopsC_get H k r h u (by simpa using h1) h2
theorem Try.info33 : (Tryd.prog.info? 33).map (fun i => (i.zero, i.size, i.bytes)) = some (some (.agg #[.string ⟨#[]⟩, .string ⟨#[]⟩, .int .i64 0, .int .i64 0]), 4, 48) := by kernel_rfl
/-- a row of hops that the call owns -/
theorem own_hops {w : World} {base n : Nat} {v : Value} {H : List Hp} (h : w.ownsRow base 33 4 v n (hopsC H)) (hn : H.length = n) (hs : ∀ x ∈ H, x.chan.size ≤ maxLen ∧ x.node.size ≤ maxLen) : ∃ o c, v = .slice o n c ∧ HopsAt o H w := by
  rcases h.2 with ⟨rfl, h0⟩ | ⟨g, cap, cur, rfl, _, h3, _, _, _, h4⟩
  · exact ⟨none, 0, by rw [h0], .inl (List.length_eq_zero_iff.1 (by omega))⟩
  · refine ⟨_, _, rfl, .inr ⟨g, 0, rfl, fun k x hk => ⟨fun j u hu => ?_, hs x (List.mem_of_getElem? hk)⟩⟩⟩
    have hx := hopsC_get H k j x u hk hu
    rw [← h4, List.getElem?_take] at hx
    split at hx
    · simp only [World.cell?, h3]
      rw [Nat.zero_add]
      simpa using hx
    · cases hx
theorem below_nil {w w' : World} (h : w.grownBy w' (Value.ownBlock (.slice none 0 0))) : Below w.heap.size w w' := ⟨h.os, h.tape, h.output, h.size, fun k hk => h.block k hk (fun e => by cases e)⟩
/-- append of a row of hops to nothing -/
theorem app_hops_run (o : Option Addr) (H : List Hp) (c : Nat) (w : World) (hS : HopsAt o H w) (hs : ∀ x ∈ H, x.chan.size ≤ maxLen ∧ x.node.size ≤ maxLen) (hm2 : H.length ≤ 1000000) (ty : TypeId) :
    ∃ o' c' w', (Builtin.append_ #[23, 23] ty #[.slice none 0 0, .slice o H.length c]).run Tryd.prog w = .ok (.slice o' H.length c') w' ∧ HopsAt o' H w' ∧ Below w.heap.size w w' := by
  obtain ⟨i0, hi0, hz0, hz1, hz2⟩ := info_parts Try.info33
  by_cases h0 : H = []
  · subst h0
    exact ⟨none, 0, w, run_append_mt Tryd.prog w 23 ty 33 i0 Tryd.underlying23 hi0 o c, .inl rfl, Below.refl _ _⟩
  · obtain ⟨b, off, rfl, hk⟩ := hS.resolve_left h0
    have hpos : 0 < H.length := List.length_pos_iff.2 h0
    obtain ⟨v', w', hrun, h2, h3, _, _⟩ := run_append_own_at (P := Tryd.prog) w w.heap.size 23 ty 33 i0 _ 4 48 Tryd.underlying23 hi0 hz0 hz1 hz2 rfl (by omega) (.slice none 0 0) 0 [] (World.ownsRow_nil _ _ _ _) ⟨b, off, none⟩ H.length c (hopsC H) (hopsC_len H) (by
        intro j u hu
        obtain ⟨k, x, r, e1, e2, rfl⟩ := hopsC_at H j u hu
        rw [Addr.add_lit, ← Nat.add_assoc]
        exact (hk k x e1).1 r u e2) (by
        intro u hu
        obtain ⟨j, hj⟩ := List.getElem?_of_mem hu
        obtain ⟨k, x, r, e1, e2, rfl⟩ := hopsC_at H j u hj
        have hr : r < 4 := (List.getElem?_eq_some_iff.1 e2).1
        rcases (by omega : r = 0 ∨ r = 1 ∨ r = 2 ∨ r = 3) with rfl | rfl | rfl | rfl <;> (cases e2; rfl)) (by unfold maxLen; omega) (by omega) (Nat.le_refl _)
    rw [Nat.zero_add, List.nil_append] at h2
    obtain ⟨o', c', rfl, hh⟩ := own_hops h2 rfl hs
    exact ⟨o', c', w', hrun, hh, below_nil h3⟩
theorem wpList_app_hops {ops : Array Oper} {rest : List Oper} {o : Oper} {a : Act} {w : World} {Q : Exit → Act → World → Prop} (hgd : o.guard = none) (s x : Operand)
    (ho : o.op = .call { callee := .builtin .append, args := #[s, x], argTypes := #[23, 23] }) (hsv : a.eval s = .slice none 0 0)
    (ad : Option Addr) (H : List Hp) (c : Nat) (hx : a.eval x = .slice ad H.length c) (hS : HopsAt ad H w) (hs : ∀ x ∈ H, x.chan.size ≤ maxLen ∧ x.node.size ≤ maxLen) (hm2 : H.length ≤ 1000000)
    (h : ∀ o' c' w', HopsAt o' H w' → Below w.heap.size w w' → wpList Tryd.prog ops Q rest (a.put o.dst (.slice o' H.length c')) w') : wpList Tryd.prog ops Q (o :: rest) a w :=
  wpList_plain hgd fun _ hK => by
    obtain ⟨o', c', w', hrun, h2, h3⟩ := app_hops_run ad H c w hS hs hm2 o.type
    unfold Oper.wp execOp
    simp only [ho, resolve, invoke, builtin, Sem.run_bind, Sem.run_pure, Result.andThen_ok, List.map_toArray, List.map_cons, List.map_nil, hsv, hx, hrun]
    exact hK _ _ (h o' c' w' h2 h3)
/-! onion: OnionBuilds, walked -/
theorem buildR_len (D : List ByteArray) (H : List Hp) (pay : ByteArray) : (buildR D H pay).2.1.length ≤ 20 := by
  unfold buildR
  by_cases h1 : H.length = 0 ∨ 20 < H.length ∨ D.length ≠ H.length
  · rw [if_pos h1]; exact Nat.zero_le _
  · rw [if_neg h1]
    by_cases h2 : hopsE D H ≠ 0
    · rw [if_pos h2]; exact Nat.zero_le _
    · rw [if_neg h2]
      by_cases h3 : rt pay = false
      · rw [if_pos h3]; exact Nat.zero_le _
      · rw [if_neg h3]
        cases hg : goB D H pay H.length with
        | none => exact Nat.zero_le _
        | some x =>
          obtain ⟨p, ks⟩ := x
          have := goB_len hg
          show ks.length ≤ 20
          omega
set_option maxRecDepth 100000 in
set_option maxHeartbeats 16000000 in
theorem builds_any (od : Option Addr) (D : List ByteArray) (cd : Nat) (oh : Option Addr) (H : List Hp) (ch : Nat) (pay : ByteArray) (w : World) (hD : StrsAt od D w) (hDs : ∀ v ∈ D, v.size ≤ 140737488351232) (hH : HopsAt oh H w) (hHs : ∀ v ∈ H, v.chan.size ≤ 140737488351232 ∧ v.node.size ≤ 140737488351232) (hDl : D.length ≤ 9223372036854775807) (hHl : H.length ≤ 9223372036854775807) (hp : pay.size ≤ maxLen) (hL : LibOk w) (hT : Tab w) :
    Calls Tryd.prog 3 #[.slice od D.length cd, .slice oh H.length ch, .string pay] w fun e w' => e = .returned (.bool true) ∧ Below w.heap.size w w' := by
  have HG1 : Hid (∀ W, Below w.heap.size w W → Calls Tryd.prog 11 #[.slice od D.length cd, .slice oh H.length ch] W (LargeP D.length H.length W)) := fun W hW => large_any od D cd oh H ch W (hD.below hW) hDs (hH.below hW) hHs hDl hHl
  have HW : Hid (∀ W, Below w.heap.size w W → Calls Tryd.prog 12 #[] W fun e w' => e = .returned (.bool true) ∧ Below W.heap.size W w') := fun W hW => works_onion W (hL.below hW) (hT.below hW)
  have HD := Lib.hid hD
  have HH := Lib.hid hH
  have HDS := Lib.hid hDs
  have HHS := Lib.hid hHs
  have HL := Lib.hid hL
  have HT := Lib.hid hT
  have HPY := Lib.hid hp
  have hpi : (pay.size : Int) ≤ 9223372036854775807 := by unfold maxLen at hp; omega
  clear hD hH hDs hHs hL hT hp
  go_enter Tryd.func3, Tryd.ntmps3
  go_upto_region 1 with fail
  go_cut [23] from 16 to 23 (fun v wx => ∃ b, v = .bool b ∧ (b = false → D.length ≤ 40000 ∧ H.length ≤ 40) ∧ Hid (Below w.heap.size w wx))
  case first =>
    go_wp2_with (go_at_call 11; (with_reducible refine Calls.mono (HG1.out _ (Below.refl _ _)) ?_); rintro e w1 ⟨b1, rfl, hb1, hb⟩; have B1 := Lib.hid hb; have HB1 := Lib.hid hb1; clear hb hb1)
    all_goals go_meet
    all_goals first | exact ⟨true, rfl, (fun h => by cases h), B1.out⟩ | exact ⟨_, rfl, (fun _ => HB1.out (by first | rfl | assumption | simp_all)), B1.out⟩
  case rest =>
    obtain ⟨b, rfl, hp, HB⟩ := hcut
    cases b with
    | true =>
      go_wp2_with (go_at_call 12; (with_reducible refine Calls.mono (HW.out _ HB.out) ?_); rintro e w3 ⟨rfl, hb⟩; have B3 := Lib.hid (HB.out.trans (hb.mono HB.out.size)); clear hb)
      go_ret
      exact ⟨rfl, B3.out⟩
    | false =>
      obtain ⟨hd4, hh4⟩ := hp rfl
      clear hp
      have hd4' : D.length ≤ 1000000 := by omega
      have hsz1 : ∀ x ∈ H, x.chan.size ≤ maxLen ∧ x.node.size ≤ maxLen := fun x hx => by have := HHS.out x hx; unfold maxLen; omega
      have HS1 := Lib.hid hsz1
      have HDM : Hid (∀ d ∈ D, d.size ≤ maxLen) := fun d hd => by have := HDS.out d hd; unfold maxLen; omega
      clear hsz1
      have hH4 : H.length ≤ 1000000 := by omega
      go_upto_region 5 with (go_at_call 13; (with_reducible refine Calls.mono (lent_any od D cd _ (HD.out.below HB.out) hd4') ?_); rintro e w3 ⟨v3, rfl, hown, hb⟩; have B3 := Lib.hid (HB.out.trans (hb.mono HB.out.size)); have O3 := Lib.hid hown; clear hb hown)
      obtain ⟨o3, c3, rfl, S3⟩ := own_strs O3.out rfl
      have HS3 := Lib.hid S3
      clear O3 S3
      obtain ⟨R, hR⟩ : ∃ R, buildR D H pay = R := ⟨_, rfl⟩
      have HR20 : R.2.1.length ≤ 20 := by rw [← hR]; exact buildR_len D H pay
      have HO : Hid (∀ o c o' c' W, StrsAt o D W → HopsAt o' H W → Below w.heap.size w W → Calls Tryd.prog 14 #[.slice o D.length c, .slice o' H.length c', .string pay] W (BuildPost R W)) := fun o c o' c' W h1 h2 h3 => hR ▸ obuild_any o D c o' H c' pay W (by omega) (by omega) h1 HDM.out h2 HPY.out (HL.out.below h3) (HT.out.below h3)
      have HE : Hid (∀ W, Below w.heap.size w W → Calls Tryd.prog 15 #[.slice od D.length cd, .slice oh H.length ch, .string pay] W (BuildPost R W)) := fun W h3 => hR ▸ dbuild_any od D cd oh H ch pay W (by omega) (by omega) (HD.out.below h3) HDM.out (HH.out.below h3) HPY.out
      have HSS : Hid (∀ oa ca ob cb W, StrsAt oa R.2.1 W → StrsAt ob R.2.1 W → Calls Tryd.prog 16 #[.slice oa R.2.1.length ca, .slice ob R.2.1.length cb] W fun e w' => e = .returned (.bool true) ∧ Below W.heap.size W w') := fun oa ca ob cb W h1 h2 => (sterms_any oa R.2.1 ca ob R.2.1 cb W h1 h2 (by omega) (by omega)).mono fun e w' ⟨a1, a2⟩ => ⟨by rw [a1, decide_eq_true rfl], a2⟩
      have HSD : Hid (∀ oa ca ob cb W, StrsAt oa D W → StrsAt ob D W → Calls Tryd.prog 16 #[.slice oa D.length ca, .slice ob D.length cb] W fun e w' => e = .returned (.bool true) ∧ Below W.heap.size W w') := fun oa ca ob cb W h1 h2 => (sterms_any oa D ca ob D cb W h1 h2 (by omega) (by omega)).mono fun e w' ⟨a1, a2⟩ => ⟨by rw [a1, decide_eq_true rfl], a2⟩
      obtain ⟨p, ks, er⟩ := R
      dsimp only at HR20 HSS
      clear hR
      go_upto_region 6 with (at_builtin; refine wpList_app_hops rfl _ _ rfl rfl oh H ch rfl (HH.out.below B3.out) HS1.out hH4 ?_; intro o8 c8 w4 hh4 hb4; have HH8 := Lib.hid hh4; have B4 := Lib.hid (B3.out.trans (hb4.mono B3.out.size)); replace HS3 := Lib.hid (HS3.out.below hb4); clear hh4 hb4)
      go_upto_region 8 with (first
        | (go_at_call 14; (with_reducible refine Calls.mono (HO.out o3 c3 o8 c8 _ HS3.out HH8.out B4.out) ?_); rintro e w5 ⟨hb, v5, rfl, hown⟩; have B5 := Lib.hid (B4.out.trans (hb.mono B4.out.size)); replace HS3 := Lib.hid (HS3.out.below hb); replace HH8 := Lib.hid (HH8.out.below hb); have O5 := Lib.hid hown; clear hb hown)
        | (go_at_call 15; (with_reducible refine Calls.mono (HE.out _ B5.out) ?_); rintro e w6 ⟨hb, v6, rfl, hown⟩; have B6 := Lib.hid (B5.out.trans (hb.mono B5.out.size)); replace HS3 := Lib.hid (HS3.out.below hb); replace HH8 := Lib.hid (HH8.out.below hb); obtain ⟨o5, c5, rfl, S5⟩ := own_strs O5.out rfl; obtain ⟨o6, c6, rfl, S6⟩ := own_strs hown rfl; have HS5 := Lib.hid (S5.below hb); have HS6 := Lib.hid S6; clear hb hown S5 S6 O5))
      go_upto_region 10 with (first
        | (go_at_call 16; (with_reducible refine Calls.mono (HSS.out o5 c5 o6 c6 _ HS5.out HS6.out) ?_); rintro e w7 ⟨rfl, hb⟩; have B7 := Lib.hid (B6.out.trans (hb.mono B6.out.size)); replace HS3 := Lib.hid (HS3.out.below hb); replace HH8 := Lib.hid (HH8.out.below hb); clear hb)
        | (go_at_call 16; (with_reducible refine Calls.mono (HSD.out o3 c3 od cd _ HS3.out (HD.out.below B7.out)) ?_); rintro e w8 ⟨rfl, hb⟩; have B8 := Lib.hid (B7.out.trans (hb.mono B7.out.size)); replace HH8 := Lib.hid (HH8.out.below hb); clear hb))
      go_wp2_with fail
      go_loopw [15] (fun iv wr => ∃ i : Nat, i ≤ H.length ∧ iv = .int .i64 i ∧ Hid (Below w.heap.size w wr) ∧ Hid (HopsAt o8 H wr)) (fun iv _ => H.length - (intOf iv).toNat)
      case atStart => exact ⟨0, Nat.zero_le _, rfl, B8.out, HH8.out⟩
      case round =>
        obtain ⟨i, hi, rfl, hBl, hHr⟩ := hrel
        by_cases hlt : i < H.length
        · obtain ⟨b1, f1, x, rfl, hx, _, _, r0, r1, r2, r3⟩ := hops_cells hHr.out hlt
          obtain ⟨b2, f2, y, rfl, hy, _, _, q0, q1, q2, q3⟩ := hops_cells (HH.out.below hBl.out) hlt
          rw [hx] at hy
          cases hy
          have hii : (i : Int) < (H.length : Int) := by omega
          clear hx
          go_wp2_with fail
          go_quiet (fail)
          go_wp2_with fail
          go_roundw
          case rel => exact ⟨i + 1, by omega, by go_num, below_drewN hBl.out _, hHr.out.below (drewN_same _ _).1⟩
          case measure => simp [intOf]; omega
        · obtain rfl : i = H.length := by omega
          go_wp2_with (go_at_call 12; (with_reducible refine Calls.mono (HW.out _ hBl.out) ?_); rintro e w9 ⟨rfl, hb⟩; have B9 := Lib.hid (hBl.out.trans (hb.mono hBl.out.size)); clear hb)
          go_ret
          exact ⟨rfl, B9.out⟩
theorem builds_law (a0 : Option Addr) (l0 : List ByteArray) (n0 c0 : Nat) (a1 : Option Addr) (l1 : List Hp) (c1 : Nat) (a2 : ByteArray) (w : World) (hl0 : l0.length = n0) (m0 : n0 ≤ maxLen) (z0 : ∀ s ∈ l0, s.size ≤ 140737488351232) (hs0 : StrsAt a0 l0 w) (hs1 : HopsAt a1 l1 w) (m1 : l1.length ≤ maxLen) (z1 : ∀ o ∈ l1, o.chan.size ≤ 140737488351232 ∧ o.node.size ≤ 140737488351232) (m2 : a2.size ≤ maxLen) (hL : LibOk w) (hT : Tab w) :
    Calls Tryd.prog 3 #[.slice a0 n0 c0, .slice a1 l1.length c1, .string a2] w fun e w' => e = .returned (.bool true) ∧ Below w.heap.size w w' := by
  subst hl0
  exact builds_any a0 l0 c0 a1 l1 c1 a2 w hs0 z0 hs1 z1 (by unfold maxLen at m0; omega) (by unfold maxLen at m1; omega) m2 hL hT
end Go.Proofs.YtbdimlppnhcicaaDoor
