/- the document's Offer -/
import Derived.Test.YtnaodgljdbkmnaaDoorBookP
import Derived.Laws.Rows
import Derived.Deep.MidRow
namespace Go.Proofs.YtnaodgljdbkmnaaDoor
set_option linter.unusedVariables false
open Go.RowKit
theorem findB_idx {x : ByteArray} : ∀ {L : List Ent} {i j : Nat} {e : Ent}, findB x L i = some (j, e) → i ≤ j ∧ L[j - i]? = some e
  | [], _, _, _, h => by simp [findB] at h
  | c :: L, i, j, e, h => by
    unfold findB at h
    by_cases hb : (x == c.2.hash) = true
    · rw [if_pos hb] at h
      cases h
      exact ⟨Nat.le_refl _, by simp⟩
    · rw [if_neg hb] at h
      obtain ⟨h1, h2⟩ := findB_idx h
      refine ⟨by omega, ?_⟩
      rw [show j - i = (j - (i + 1)) + 1 by omega]
      simpa using h2
theorem wrap_id {x : Int} (h : -9223372036854775808 ≤ x) (h' : x ≤ 9223372036854775807) : wrap64 x = x := by
  exact IntWalk.wrap64_in x ⟨h, h'⟩
theorem money_yes1 {b : Bil} {amt : Int} (h : amt < 1 ∨ amt < b.amt) : (k2B b amt || k3B b amt) = true := by
  have : amt < max b.amt 1 := by rcases h with h | h <;> omega
  unfold k2B; rw [if_pos this]; rfl
theorem money_yes2 {b : Bil} {amt : Int} (h1 : ¬ amt < 1) (h2 : ¬ amt < b.amt) (h : 2100000000000000000 < amt) : (k2B b amt || k3B b amt) = true := by
  have : ¬ amt < max b.amt 1 := by omega
  unfold k2B; rw [if_neg this, decide_eq_true h]; rfl
theorem money_rest {b : Bil} {amt : Int} (hb : 0 ≤ b.amt) (h1 : ¬ amt < 1) (h2 : ¬ amt < b.amt) (h : ¬ 2100000000000000000 < amt) : (k2B b amt || k3B b amt) = decide (0 < b.amt ∧ 2 * b.amt < amt) := by
  have : ¬ amt < max b.amt 1 := by omega
  unfold k2B k3B; rw [if_neg this, decide_eq_false h, Bool.false_or]
  by_cases h3 : 0 < b.amt
  · rw [if_pos h3, wrap_id (by omega) (by omega)]
    rw [decide_eq_decide]; omega
  · rw [if_neg h3]
    exact (decide_eq_false (fun h => h3 h.1)).symm
theorem time_rest {b : Bil} {height expiry : Int} (hd : 0 ≤ b.delta) (hd' : b.delta < 2147483648) (h1 : 0 ≤ height) (h2 : height < 2147483648) (h3 : 0 ≤ expiry) (h4 : expiry < 2147483648) : k4B b height expiry = decide (expiry < height + b.delta) := by
  unfold k4B
  rw [if_pos (by omega), if_pos (by omega), wrap_id (by omega) (by omega), decide_eq_decide]
  omega
theorem time_yes {b : Bil} {height expiry : Int} (h : ¬ (0 ≤ height ∧ height < 2147483648 ∧ 0 ≤ expiry ∧ expiry < 2147483648)) : k4B b height expiry = true := by
  unfold k4B
  by_cases h1 : height / 2147483648 = 0
  · rw [if_pos h1, if_neg (by omega)]
  · rw [if_neg h1]
theorem offX_eq (b : Bil) (amt now height expiry : Int) : offX b amt now height expiry = if b.paid = true then 232 else if lateB b now = true then 231 else if (k2B b amt || k3B b amt) = true then 233 else if k4B b height expiry = true then 241 else 0 := by
  unfold offX offE
  cases b.paid <;> cases lateB b now <;> cases k2B b amt <;> cases k3B b amt <;> rfl
set_option maxRecDepth 100000 in
set_option maxHeartbeats 16000000 in
theorem doffer_any (base db : Nat) (v : Value) (L : List Ent) (w : World) (h : DBookAt w base db v L) (hn : Nice L) (x : ByteArray) (amt now height expiry : Int) : Calls Tryd.prog 54 #[.pointer (some ⟨db, 0, none⟩), .string x, .int .i64 amt, .int .i64 now, .int .i64 height, .int .i64 expiry] w fun e w' => e = .returned (offV (findB x L 0) amt now height expiry) ∧ Below w.heap.size w w' := by
  have HF : Hid (Calls Tryd.prog 73 #[.pointer (some ⟨db, 0, none⟩), .string x] w fun e w' => e = .returned (.int .i64 (idxI (findB x L 0))) ∧ Below w.heap.size w w') := dfind_any base db v L w h hn x
  have hfew := hn.few
  cases hf : findB x L 0 with
  | none =>
    rw [hf] at HF
    unfold offV
    unfold idxI at HF
    simp only at HF
    clear h hf hn
    go_enter Tryd.func54, Tryd.ntmps54
    go_wp2_with (go_at_call 73; (with_reducible refine Calls.mono HF.out ?_); rintro e w1 ⟨rfl, hb1⟩; have B1 := Lib.hid hb1; clear hb1)
    go_ret2
    exact ⟨rfl, B1.out⟩
  | some q =>
    obtain ⟨j, ⟨bb, b⟩⟩ := q
    rw [hf] at HF
    unfold idxI at HF
    simp only at HF
    obtain ⟨_, hj⟩ := findB_idx hf
    rw [Nat.sub_zero] at hj
    have hjl := (List.getElem?_eq_some_iff.1 hj).1
    obtain ⟨g, cap, hvv, hr, _, _, _⟩ := h.bill hj
    subst hvv
    have hok : BilOk b := hn.ok _ (List.mem_of_getElem? hj)
    have HOK := Lib.hid hok
    have ha0 := hok.a0
    have ha1 := hok.a1
    have hd0 := hok.d0
    have hd1 := hok.d1
    have HV : Hid (∀ X, offX b amt now height expiry = X → offV (some (j, bb, b)) amt now height expiry = if X = 0 then .tuple #[.string b.pre, .int .i64 0] else .tuple #[.string ⟨#[]⟩, .int .i64 X]) := fun X hX => by subst hX; rfl
    obtain ⟨V, hV⟩ : ∃ V, offV (some (j, bb, b)) amt now height expiry = V := ⟨_, rfl⟩
    rw [hV] at HV ⊢
    have HH := Lib.hid h
    have HJ := Lib.hid hj
    have hji : (j : Int) < (L.length : Int) := by omega
    clear h hf hn hok hV hj hr
    go_enter Tryd.func54, Tryd.ntmps54
    go_upto_region 5 with (first
      | (go_at_call 73; (with_reducible refine Calls.mono HF.out ?_); rintro e w1 ⟨rfl, hb1⟩; have B1 := Lib.hid hb1; have H1 := Lib.hid (HH.out.below hb1); have c0 := H1.out.cell; clear hb1)
      | (refine wpList_load_mid rfl 101 (.tmp 26) rfl g (j * 8) rfl [.string b.hash, .string b.pre, .int .i64 b.amt, .int .i64 b.stamp, .int .i64 b.exp, .int .i64 b.delta, .string b.memo, .bool b.paid] _ (by obtain ⟨g', cap', hv', hr', _⟩ := H1.out.bill HJ.out; cases hv'; exact hr') Tryd.underlying101 rfl (by kernel_rfl) ?_))
    have B2 := below_new' w1 (.cells #[.string b.hash, .string b.pre, .int .i64 b.amt, .int .i64 b.stamp, .int .i64 b.exp, .int .i64 b.delta, .string b.memo, .bool b.paid] 101)
    have K := Lib.hid (heap_alloc_at w1 (.cells #[.string b.hash, .string b.pre, .int .i64 b.amt, .int .i64 b.stamp, .int .i64 b.exp, .int .i64 b.delta, .string b.memo, .bool b.paid] 101))
    have B3 := Lib.hid (B1.out.trans (B2.mono B1.out.size))
    clear B2 c0
    generalize w1.alloc (.cells #[.string b.hash, .string b.pre, .int .i64 b.amt, .int .i64 b.stamp, .int .i64 b.exp, .int .i64 b.delta, .string b.memo, .bool b.paid] 101) = w2 at K B3 ⊢
    generalize w1.heap.size = k at K ⊢
    obtain ⟨r0, r1, r2, r3, r4, r5, r6, r7⟩ := eight K.out
    rw [offX_eq] at HV
    cases hp : b.paid with
    | true =>
      rw [hp] at HV r7
      have hv := Lib.hid (HV.out 232 rfl)
      clear hp
      go_wp2_with fail
      go_ret2
      exact ⟨by rw [hv.out]; rfl, B3.out⟩
    | false =>
      rw [hp] at HV r7
      simp only [Bool.false_eq_true, if_false] at HV
      have HLT : Hid (Calls Tryd.prog 74 #[.agg #[.string b.hash, .string b.pre, .int .i64 b.amt, .int .i64 b.stamp, .int .i64 b.exp, .int .i64 b.delta, .string b.memo, .bool false], .int .i64 now] w2 fun e w' => e = .returned (.bool (lateB b now)) ∧ Below w2.heap.size w2 w') := by
        have := dlate_any b HOK.out now w2
        rw [hp] at this; exact this
      rw [hp] at K
      clear hp
      cases hla : lateB b now with
      | true =>
        rw [hla] at HV HLT
        simp only [if_true] at HV
        have hv := Lib.hid (HV.out 231 rfl)
        clear hla
        go_wp2_with (first
          | (go_at_call 74; (with_reducible refine Calls.mono HLT.out ?_); rintro e w3 ⟨rfl, hb3⟩; have B4 := Lib.hid (B3.out.trans (hb3.mono B3.out.size)); clear hb3)
          | (refine wpList_load_row rfl 101 (.tmp 15) rfl k rfl 101 #[.string b.hash, .string b.pre, .int .i64 b.amt, .int .i64 b.stamp, .int .i64 b.exp, .int .i64 b.delta, .string b.memo, .bool false] (0, 0) _ K.out Tryd.underlying101 rfl (by kernel_rfl) ?_))
        go_ret2
        exact ⟨by rw [hv.out]; rfl, B4.out⟩
      | false =>
        rw [hla] at HV HLT
        simp only [Bool.false_eq_true, if_false] at HV
        clear hla
        go_upto_region 9 with (first
          | (go_at_call 74; (with_reducible refine Calls.mono HLT.out ?_); rintro e w3 ⟨rfl, hb3⟩; have B4 := Lib.hid (B3.out.trans (hb3.mono B3.out.size)); have K4 := Lib.hid ((hb3.block _ (lt_of_heap K.out)).trans K.out); clear hb3)
          | (refine wpList_load_row rfl 101 (.tmp 15) rfl k rfl 101 #[.string b.hash, .string b.pre, .int .i64 b.amt, .int .i64 b.stamp, .int .i64 b.exp, .int .i64 b.delta, .string b.memo, .bool false] (0, 0) _ K.out Tryd.underlying101 rfl (by kernel_rfl) ?_))
        obtain ⟨q0, q1, q2, q3, q4, q5, q6, q7⟩ := eight K4.out
        clear r0 r1 r2 r3 r4 r5 r6 r7 q0 q3 q4 q6 q7
        go_cut [35] from 36 to 60 (fun p wx => p = .bool (k2B b amt || k3B b amt) ∧ wx = w3)
        case first =>
          by_cases d1 : amt < 1
          · have HM := Lib.hid (money_yes1 (b := b) (.inl d1))
            go_wp2_with fail
            go_meet
            exact ⟨by rw [HM.out], rfl⟩
          have d1' : 1 ≤ amt := by omega
          by_cases d2 : amt < b.amt
          · have HM := Lib.hid (money_yes1 (b := b) (.inr d2))
            clear d1
            go_wp2_with fail
            go_meet
            exact ⟨by rw [HM.out], rfl⟩
          have d2' : b.amt ≤ amt := by omega
          by_cases d3 : 2100000000000000000 < amt
          · have HM := Lib.hid (money_yes2 d1 d2 d3)
            clear d1 d2
            go_wp2_with fail
            go_meet
            exact ⟨by rw [HM.out], rfl⟩
          have d3' : amt ≤ 2100000000000000000 := by omega
          have HM := money_rest ha0 d1 d2 d3
          clear d1 d2 d3
          by_cases d4 : 0 < b.amt
          · by_cases d5 : 2 * b.amt < amt
            · rw [decide_eq_true ⟨d4, d5⟩] at HM
              have HM := Lib.hid HM
              rename_i HM0
              clear HM0
              go_wp2_with fail
              go_meet
              exact ⟨by rw [HM.out], rfl⟩
            · rw [decide_eq_false (fun h => d5 h.2)] at HM
              have HM := Lib.hid HM
              rename_i HM0
              clear HM0
              have d5' : amt ≤ 2 * b.amt := by omega
              go_wp2_with fail
              go_meet
              exact ⟨by rw [HM.out, decide_eq_false (show ¬ amt < 1 by omega), decide_eq_false (show ¬ amt < b.amt by omega), decide_eq_false (show ¬ 2100000000000000000 < amt by omega)]; rfl, rfl⟩
          · rw [decide_eq_false (fun h => d4 h.1)] at HM
            have HM := Lib.hid HM
            rename_i HM0
            clear HM0
            have d4' : b.amt ≤ 0 := by omega
            go_wp2_with fail
            go_meet
            exact ⟨by rw [HM.out, decide_eq_false (show ¬ amt < 1 by omega), decide_eq_false (show ¬ amt < b.amt by omega), decide_eq_false (show ¬ 2100000000000000000 < amt by omega)]; rfl, rfl⟩
        case rest =>
          obtain ⟨rfl, rfl⟩ := hcut
          cases hmb : (k2B b amt || k3B b amt) with
          | true =>
            rw [hmb] at HV
            simp only [if_true] at HV
            have hv := Lib.hid (HV.out 233 rfl)
            clear hmb
            go_wp2_with fail
            go_ret2
            exact ⟨by rw [hv.out]; rfl, B4.out⟩
          | false =>
            rw [hmb] at HV
            simp only [Bool.false_eq_true, if_false] at HV
            clear hmb
            go_upto_region 11 with fail
            obtain ⟨w3, rfl⟩ : ∃ w3 : World, w3 = wc := ⟨_, rfl⟩
            go_cut [60] from 61 to 83 (fun p wx => p = .bool (k4B b height expiry) ∧ wx = w3)
            case first =>
              by_cases d1 : height < 0
              · have HM := Lib.hid (time_yes (b := b) (height := height) (expiry := expiry) (by omega))
                go_wp2_with fail
                go_meet
                exact ⟨by rw [HM.out], rfl⟩
              have d1' : 0 ≤ height := by omega
              by_cases d2 : 2147483648 ≤ height
              · have HM := Lib.hid (time_yes (b := b) (height := height) (expiry := expiry) (by omega))
                clear d1
                go_wp2_with fail
                go_meet
                exact ⟨by rw [HM.out], rfl⟩
              have d2' : height < 2147483648 := by omega
              by_cases d3 : expiry < 0
              · have HM := Lib.hid (time_yes (b := b) (height := height) (expiry := expiry) (by omega))
                clear d1 d2
                go_wp2_with fail
                go_meet
                exact ⟨by rw [HM.out], rfl⟩
              have d3' : 0 ≤ expiry := by omega
              by_cases d4 : 2147483648 ≤ expiry
              · have HM := Lib.hid (time_yes (b := b) (height := height) (expiry := expiry) (by omega))
                clear d1 d2 d3
                go_wp2_with fail
                go_meet
                exact ⟨by rw [HM.out], rfl⟩
              have d4' : expiry < 2147483648 := by omega
              have HM := Lib.hid (time_rest hd0 hd1 d1' d2' d3' d4')
              clear d1 d2 d3 d4
              go_wp2_with fail
              go_meet
              exact ⟨by rw [HM.out, decide_eq_false (show ¬ height < 0 by omega), decide_eq_false (show ¬ 2147483648 ≤ height by omega), decide_eq_false (show ¬ expiry < 0 by omega), decide_eq_false (show ¬ 2147483648 ≤ expiry by omega)]; rfl, rfl⟩
            case rest =>
              obtain ⟨rfl, rfl⟩ := hcut
              obtain ⟨q0, q1, q2, q3, q4, q5, q6, q7⟩ := eight K4.out
              clear q0 q2 q3 q4 q5 q6 q7
              cases hkb : k4B b height expiry with
              | true =>
                rw [hkb] at HV
                simp only [if_true] at HV
                have hv := Lib.hid (HV.out 241 rfl)
                clear hkb
                go_wp2_with fail
                go_ret2
                exact ⟨by rw [hv.out]; rfl, B4.out⟩
              | false =>
                rw [hkb] at HV
                simp only [Bool.false_eq_true, if_false] at HV
                have hv := Lib.hid (HV.out 0 rfl)
                clear hkb
                go_wp2_with fail
                go_ret2
                exact ⟨by rw [hv.out]; rfl, B4.out⟩
end Go.Proofs.YtnaodgljdbkmnaaDoor
