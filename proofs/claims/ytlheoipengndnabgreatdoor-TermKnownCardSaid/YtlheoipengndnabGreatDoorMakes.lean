/- term: TermMakes. -/
import Derived.Test.YtlheoipengndnabGreatDoorWa
import Derived.Test.YtlheoipengndnabGreatDoorBa
import Derived.Test.YtlheoipengndnabGreatDoorLater
import Derived.Deep.CutRange
import Derived.Maps.AppendAt
namespace Go.Proofs.YtlheoipengndnabGreatDoor
set_option linter.unusedVariables false
open Go.RowKit
/-- how many bytes there are -/
def sumL (s : Nat) (vs : List ByteArray) : Nat := s + (vs.map ByteArray.size).sum
theorem sumL_snoc (s : Nat) (vs : List ByteArray) (j : Nat) (v : ByteArray) (h : vs[j]? = some v) : sumL s (vs.take (j + 1)) = sumL s (vs.take j) + v.size := by
  have hi := (List.getElem?_eq_some_iff.1 h).1
  rw [List.take_succ_eq_append_getElem hi, show vs[j] = v by rw [List.getElem?_eq_getElem hi] at h; exact Option.some.inj h]
  simp [sumL]; omega
theorem sumL_le (s : Nat) (vs : List ByteArray) (B : Nat) (hs : s ≤ B) (hv : ∀ v ∈ vs, v.size ≤ B) : sumL s vs ≤ (vs.length + 1) * B := by
  induction vs with
  | nil => simp [sumL]; exact hs
  | cons v vs ih =>
    have h1 := ih (fun v' h => hv v' (by simp [h]))
    have h2 := hv v (by simp)
    simp only [sumL, List.map_cons, List.sum_cons, List.length_cons] at h1 ⊢
    have e := Nat.succ_mul (vs.length + 1) B
    simp only [Nat.succ_eq_add_one] at e
    omega
theorem sumL_few (s : Nat) (vs : List ByteArray) (B : Nat) (hs : s ≤ B) (hv : ∀ v ∈ vs, v.size ≤ B) (hl : vs.length ≤ 40) : sumL s vs ≤ 41 * B :=
  Nat.le_trans (sumL_le s vs B hs hv) (Nat.mul_le_mul_right _ (by omega))
theorem sumL_mem (s : Nat) (vs : List ByteArray) (v : ByteArray) (h : v ∈ vs) : v.size ≤ sumL s vs := by
  induction vs with
  | nil => cases h
  | cons u vs ih =>
    simp only [sumL, List.map_cons, List.sum_cons] at ih ⊢
    rcases List.mem_cons.1 h with rfl | h
    · omega
    · have := ih h; omega
theorem nameV_form (n : Int) : ∃ s e, nameV n = .tuple #[.string s, .int .i64 e] := by
  unfold nameV
  split
  · exact ⟨_, _, rfl⟩
  · exact ⟨_, _, rfl⟩
theorem textV_form (t : ByteArray) : ∃ s e, textV t = .tuple #[.string s, .int .i64 e] := by
  unfold textV
  split
  · exact ⟨_, _, rfl⟩
  · exact ⟨_, _, rfl⟩
theorem tupleV_form (vs : List ByteArray) : ∃ s e, tupleV vs = .tuple #[.string s, .int .i64 e] := by
  unfold tupleV
  split
  · exact ⟨_, _, rfl⟩
  · exact buildV_tuple _ _
theorem below_none {w w' : World} (h : w.grownBy w' (Value.ownBlock (.slice none 0 0))) : Below w.heap.size w w' := ⟨h.os, h.tape, h.output, h.size, fun k hk => h.block k hk (fun e => by cases e)⟩
theorem strs_cells {o : Option Addr} {vs : List ByteArray} {w : World} (h : StrsAt o vs w) (hne : vs ≠ []) : ∃ b off, o = some ⟨b, off, none⟩ ∧ ∀ (k : Nat) (s : ByteArray), vs[k]? = some s → w.cell? ⟨b, off + k, none⟩ = some (.string s) := h.resolve_left hne
/-- append of a row of strings to nothing -/
theorem app_strs_run (o : Option Addr) (vs : List ByteArray) (m c : Nat) (w : World) (hS : StrsAt o vs w) (hm : vs.length = m) (hm2 : m ≤ 1000) (ty : TypeId) :
    ∃ o' c' w', (Builtin.append_ #[23, 23] ty #[.slice none 0 0, .slice o m c]).run Tryz.prog w = .ok (.slice o' m c') w' ∧ StrsAt o' vs w' ∧ Below w.heap.size w w' := by
  obtain ⟨i0, hi0, hz0, hz1, hz2⟩ := info_parts Tryz.info22
  rcases Nat.eq_zero_or_pos m with h0 | hpos
  · have hv : vs = [] := List.length_eq_zero_iff.1 (by omega)
    subst hv; subst h0
    cases o with
    | none =>
      refine ⟨none, 0, w, ?_, .inl rfl, Below.refl _ _⟩
      simp [Builtin.append_, run_underlying Tryz.underlying23, sizeOf, typeInfo, hi0, Builtin.lenOf, Builtin.firstCells]
    | some ad =>
      obtain ⟨v', w', hrun, h2, h3, h4, _⟩ := run_append_own_at (P := Tryz.prog) w w.heap.size 23 ty 22 i0 _ 1 16 Tryz.underlying23 hi0 hz0 hz1 hz2 rfl (by omega) (.slice none 0 0) 0 [] (World.ownsRow_nil _ _ _ _) ad 0 c [] rfl (by intro j u hu; simp at hu) (by intro u hu; cases hu) (by unfold maxLen; omega) (by omega) (Nat.le_refl _)
      rw [h4.2 ⟨rfl, rfl⟩] at hrun
      exact ⟨none, 0, w', hrun, .inl rfl, below_none h3⟩
  · obtain ⟨b, off, rfl, hk⟩ := strs_cells hS (fun e => by rw [e] at hm; simp at hm; omega)
    obtain ⟨v', w', hrun, h2, h3, _, _⟩ := run_append_own_at (P := Tryz.prog) w w.heap.size 23 ty 22 i0 _ 1 16 Tryz.underlying23 hi0 hz0 hz1 hz2 rfl (by omega) (.slice none 0 0) 0 [] (World.ownsRow_nil _ _ _ _) ⟨b, off, none⟩ m c (vs.map Value.string) (by simp [hm]) (by
        intro j u hu
        rw [List.getElem?_map] at hu
        cases hlj : vs[j]? with
        | none => rw [hlj] at hu; cases hu
        | some d => rw [hlj] at hu; cases hu; rw [Addr.add_lit]; exact hk j d hlj) (by intro u hu; simp at hu; obtain ⟨d, _, rfl⟩ := hu; rfl) (by unfold maxLen; omega) (by omega) (Nat.le_refl _)
    rw [Nat.zero_add, List.nil_append] at h2
    obtain ⟨g, cap, rfl, _, hc⟩ := own_cells h2 hpos
    refine ⟨_, cap, w', hrun, .inr ⟨g, 0, rfl, fun k s hs => ?_⟩, below_none h3⟩
    rw [Nat.zero_add]
    exact hc k _ (by rw [List.getElem?_map, hs]; rfl)
theorem wpList_app_strs {ops : Array Oper} {rest : List Oper} {o : Oper} {a : Act} {w : World} {Q : Exit → Act → World → Prop} (hgd : o.guard = none) (s x : Operand)
    (ho : o.op = .call { callee := .builtin .append, args := #[s, x], argTypes := #[23, 23] }) (hsv : a.eval s = .slice none 0 0)
    (ad : Option Addr) (vs : List ByteArray) (m c : Nat) (hx : a.eval x = .slice ad m c) (hS : StrsAt ad vs w) (hm : vs.length = m) (hm2 : m ≤ 1000)
    (h : ∀ o' c' w', StrsAt o' vs w' → Below w.heap.size w w' → wpList Tryz.prog ops Q rest (a.put o.dst (.slice o' m c')) w') : wpList Tryz.prog ops Q (o :: rest) a w :=
  wpList_plain hgd fun _ hK => by
    obtain ⟨o', c', w', hrun, h2, h3⟩ := app_strs_run ad vs m c w hS hm hm2 o.type
    unfold Oper.wp execOp
    simp only [ho, resolve, invoke, builtin, Sem.run_bind, Sem.run_pure, Result.andThen_ok, List.map_toArray, List.map_cons, List.map_nil, hsv, hx, hrun]
    exact hK _ _ (h o' c' w' h2 h3)
set_option maxRecDepth 100000 in
set_option maxHeartbeats 4000000 in
theorem makes_many (n : Int) (s : ByteArray) (o : Option Addr) (vs : List ByteArray) (m c : Nat) (w : World) (hn : vs.length = m) (hs : s.size ≤ maxLen) (hm : m ≤ maxLen) (hv : ∀ v ∈ vs, v.size ≤ maxLen) (hS : StrsAt o vs w) (h : 40 < m) :
    Calls Tryz.prog 8 #[.int .i64 n, .string s, .slice o m c] w fun e w' => e = .returned (.bool true) ∧ Below w.heap.size w w' := by
  have HN := Lib.hid hn
  have HV := Lib.hid hv
  have HS := Lib.hid hS
  unfold maxLen at hm hs
  have hi : (40 : Int) < (m : Int) := by omega
  clear hn hv hS
  go_enter Tryz.func8, Tryz.ntmps8
  go_wp2
  go_loop [7, 8] (fun x i => ∃ (j : Nat) (y : Int), j ≤ m ∧ i = .int .i64 (j : Int) ∧ x = .int .i64 y) (fun _ i => m - (intOf i).toNat)
  case atStart => exact ⟨0, _, by omega, rfl, rfl⟩
  case round =>
    obtain ⟨j, y, hj, rfl, rfl⟩ := hrel
    by_cases hlt : j < m
    · obtain ⟨v, hv⟩ : ∃ v, vs[j]? = some v := ⟨_, List.getElem?_eq_getElem (by have := HN.out; omega)⟩
      obtain ⟨g, off, rfl, hc⟩ := strs_cells HS.out (fun e => by rw [e] at hv; simp at hv)
      have hcj := hc j v hv
      have hvs := HV.out v (List.mem_of_getElem? hv)
      unfold maxLen at hvs
      have hji : (j : Int) < (m : Int) := by omega
      clear hc hv
      go_wp2
      go_round
      case rel => exact ⟨j + 1, _, by omega, by go_num, rfl⟩
      case measure => simp [intOf]; omega
    · obtain rfl : j = m := by omega
      go_wp2
      all_goals
        go_ret
        exact ⟨rfl, Below.refl _ _⟩
set_option maxRecDepth 100000 in
set_option maxHeartbeats 8000000 in
theorem makes_few (n : Int) (s : ByteArray) (o : Option Addr) (vs : List ByteArray) (m c : Nat) (w : World) (hn : vs.length = m) (hs : s.size ≤ 140737488351232) (hv : ∀ v ∈ vs, v.size ≤ 140737488351232) (hS : StrsAt o vs w) (h : m ≤ 40) (h1 : n ≤ 9223372036854775807) (hL : LibOk w) (hT : Tab w) :
    Calls Tryz.prog 8 #[.int .i64 n, .string s, .slice o m c] w fun e w' => e = .returned (.bool true) ∧ Below w.heap.size w w' := by
  have HN := Lib.hid hn
  have HV := Lib.hid hv
  have HS := Lib.hid hS
  have HL := Lib.hid hL
  have HT := Lib.hid hT
  have HSS := Lib.hid hs
  have hi : ¬ (40 : Int) < (m : Int) := by omega
  have hs9 : s.size ≤ 9223372036854775807 := by omega
  have HSUM : Hid (∀ j, j ≤ m → sumL s.size (vs.take j) ≤ 5770237022400512) := fun j hj =>
    sumL_few s.size (vs.take j) _ HSS.out (fun v h => HV.out v (List.mem_of_mem_take h)) (by rw [List.length_take]; have := HN.out; omega)
  clear hn hv hS hL hT hs
  go_enter Tryz.func8, Tryz.ntmps8
  go_wp2
  go_loop [7, 8] (fun x i => ∃ (j : Nat) (y : Nat), j ≤ m ∧ i = .int .i64 (j : Int) ∧ x = .int .i64 (y : Int) ∧ Hid (y = sumL s.size (vs.take j))) (fun _ i => m - (intOf i).toNat)
  case atStart => exact ⟨0, s.size, by omega, rfl, rfl, by show _ = _; simp [sumL]⟩
  case round =>
    obtain ⟨j, y, hj, rfl, rfl, HY⟩ := hrel
    have hy := HSUM.out j hj
    rw [← HY.out] at hy
    by_cases hlt : j < m
    · obtain ⟨v, hv⟩ : ∃ v, vs[j]? = some v := ⟨_, List.getElem?_eq_getElem (by have := HN.out; omega)⟩
      obtain ⟨g, off, rfl, hc⟩ := strs_cells HS.out (fun e => by rw [e] at hv; simp at hv)
      have hcj := hc j v hv
      have hvs := HV.out v (List.mem_of_getElem? hv)
      have hji : (j : Int) < (m : Int) := by omega
      have HVJ := Lib.hid hv
      clear hc hv
      go_wp2
      go_round
      case rel => exact ⟨j + 1, y + v.size, by omega, by go_num, by go_num, by show _ = _; rw [HY.out]; exact (sumL_snoc _ _ _ _ HVJ.out).symm⟩
      case measure => simp [intOf]; omega
    · obtain rfl : j = m := by omega
      have htk : vs.take j = vs := List.take_of_length_le (by have := HN.out; omega)
      rw [htk] at HY
      clear htk HSUM
      by_cases hbig : 20000 < y
      · have hbi : (20000 : Int) < (y : Int) := by omega
        go_wp2
        go_ret
        exact ⟨rfl, Below.refl _ _⟩
      · have hbi : ¬ (20000 : Int) < (y : Int) := by omega
        have hsz : s.size ≤ 20000 := by
          have h1 := HY.out
          unfold sumL at h1; omega
        have HVZ : Hid (∀ v ∈ vs, v.size ≤ maxLen) := fun v hv => by
          have h1 := sumL_mem s.size vs v hv
          have h2 := HY.out
          unfold maxLen; omega
        have hsm : s.size ≤ maxLen := by unfold maxLen; omega
        have H1 := Lib.hid (fun W (k : Tab W) => name_any n W h1 k)
        have H2 := Lib.hid (fun W => rname_any n W h1)
        have H3 := Lib.hid (fun W (k : Tab W) => text_any s W hsm k)
        have H4 := Lib.hid (fun W => rtext_any s W hsm)
        obtain ⟨t1, e1, q1⟩ := nameV_form n
        obtain ⟨t2, e2, q2⟩ := textV_form s
        rw [q1] at H1 H2
        rw [q2] at H3 H4
        have H5 : Hid (∀ o' c' W, StrsAt o' vs W → LibOk W → Tab W → Calls Tryz.prog 44 #[.slice o' j c'] W fun e w' => e = .returned (tupleV vs) ∧ Below W.heap.size W w') := fun o' c' W a b d => tuple_any o' vs j c' W HN.out HVZ.out a b d
        have H6 : Hid (∀ o' c' W, StrsAt o' vs W → Calls Tryz.prog 45 #[.slice o' j c'] W fun e w' => e = .returned (tupleV vs) ∧ Below W.heap.size W w') := fun o' c' W a => rtuple_any o' vs j c' W HN.out HVZ.out a
        obtain ⟨t3, e3, q3⟩ := tupleV_form vs
        rw [q3] at H5 H6
        have HW := Lib.hid (fun W (h : LibOk W) (k : Tab W) => works_any W h k)
        clear q1 q2 q3 hsm hsz
        go_wp2_with (first
          | (go_at_call 41; (with_reducible refine Calls.mono (H1.out _ HT.out) ?_); rintro e w1 ⟨rfl, hb⟩; have B1 : Hid (Below w.heap.size w w1) := hb; clear hb)
          | (go_at_call 42; (with_reducible refine Calls.mono (H2.out _) ?_); rintro e w2 ⟨rfl, hb⟩; have B2 : Hid (Below w.heap.size w w2) := B1.out.trans (hb.mono B1.out.size); clear hb)
          | (go_at_call 11; (with_reducible refine Calls.mono (H3.out _ (HT.out.below B2.out)) ?_); rintro e w3 ⟨rfl, hb⟩; have B3 : Hid (Below w.heap.size w w3) := B2.out.trans (hb.mono B2.out.size); clear hb)
          | (go_at_call 43; (with_reducible refine Calls.mono (H4.out _) ?_); rintro e w4 ⟨rfl, hb⟩; have B4 : Hid (Below w.heap.size w w4) := B3.out.trans (hb.mono B3.out.size); have S4 := Lib.hid (HS.out.below B4.out); clear hb)
          | (at_builtin; refine wpList_app_strs rfl _ _ rfl rfl o vs j c rfl S4.out HN.out (by omega) ?_; intro o5 c5 w5 hs5 hb; have B5 : Hid (Below w.heap.size w w5) := B4.out.trans (hb.mono B4.out.size); have S5 := Lib.hid hs5; have L5 := Lib.hid (HL.out.below B5.out); have T5 := Lib.hid (HT.out.below B5.out); clear hb hs5)
          | (go_at_call 44; (with_reducible refine Calls.mono (H5.out _ _ _ S5.out L5.out T5.out) ?_); rintro e w6 ⟨rfl, hb⟩; have B6 : Hid (Below w.heap.size w w6) := B5.out.trans (hb.mono B5.out.size); have S6 := Lib.hid (S5.out.below hb); have P6 := Lib.hid (HS.out.below B6.out); clear hb)
          | (go_at_call 45; (with_reducible refine Calls.mono (H6.out _ _ _ P6.out) ?_); rintro e w7 ⟨rfl, hb⟩; have B7 : Hid (Below w.heap.size w w7) := B6.out.trans (hb.mono B6.out.size); have S7 := Lib.hid (S6.out.below hb); have P7 := Lib.hid (HS.out.below B7.out); clear hb))
        go_loopw [22] (fun i wr => ∃ (k : Nat), k ≤ j ∧ i = .int .i64 (k : Int) ∧ Hid (Below w7.heap.size w7 wr)) (fun i _ => j - (intOf i).toNat)
        case atStart => exact ⟨0, by omega, rfl, Below.refl _ _⟩
        case round =>
          obtain ⟨k, hk, rfl, hB⟩ := hrel
          have BW : Hid (Below w.heap.size w wr) := B7.out.trans (hB.out.mono B7.out.size)
          by_cases hlt2 : k < j
          · obtain ⟨v, hv⟩ : ∃ v, vs[k]? = some v := ⟨_, List.getElem?_eq_getElem (by have := HN.out; omega)⟩
            obtain ⟨g, off, rfl, hc⟩ := strs_cells (P7.out.below hB.out) (fun e => by rw [e] at hv; simp at hv)
            obtain ⟨g', off', rfl, hc'⟩ := strs_cells (S7.out.below hB.out) (fun e => by rw [e] at hv; simp at hv)
            have hcj := hc k v hv
            have hcj' := hc' k v hv
            have hki : (k : Int) < (j : Int) := by omega
            have hns : ∀ W : World, (Op.stringOp .neq v v).run Tryz.prog W = .ok (.bool false) W := fun W => by simp [Op.stringOp, Sem.run_pure]
            clear hc hc' hv
            go_wp2_with fail
            go_region
            go_wp2_with fail
            go_roundw
            case rel => exact ⟨k + 1, by omega, by congr 1, hB.out.drew⟩
            case measure => simp [intOf]; omega
          · obtain rfl : k = j := by omega
            have LW := Lib.hid (HL.out.below BW.out)
            have TW := Lib.hid (HT.out.below BW.out)
            go_wp2_with (go_at_call 12; (with_reducible refine Calls.mono (HW.out _ LW.out TW.out) ?_); rintro e w8 ⟨rfl, hb⟩; have B8 : Hid (Below w.heap.size w w8) := BW.out.trans (hb.mono BW.out.size); clear hb)
            go_ret
            exact ⟨rfl, B8.out⟩
theorem makes_any (n : Int) (s : ByteArray) (o : Option Addr) (vs : List ByteArray) (m c : Nat) (w : World) (hn : vs.length = m) (hm : m ≤ maxLen) (hs : s.size ≤ 140737488351232) (hv : ∀ v ∈ vs, v.size ≤ 140737488351232) (hS : StrsAt o vs w) (h1 : n ≤ 9223372036854775807) (hL : LibOk w) (hT : Tab w) :
    Calls Tryz.prog 8 #[.int .i64 n, .string s, .slice o m c] w fun e w' => e = .returned (.bool true) ∧ Below w.heap.size w w' := by
  by_cases h : 40 < m
  · exact makes_many n s o vs m c w hn (by unfold maxLen; omega) hm (fun v h => by have := hv v h; unfold maxLen; omega) hS h
  · exact makes_few n s o vs m c w hn hs hv hS (by omega) h1 hL hT
end Go.Proofs.YtlheoipengndnabGreatDoor
