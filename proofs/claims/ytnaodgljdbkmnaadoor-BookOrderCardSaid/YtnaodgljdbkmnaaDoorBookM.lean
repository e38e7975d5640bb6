/- BookOrder walked -/
import Derived.Test.YtnaodgljdbkmnaaDoorBookN
import Derived.Deep.CutBlock
import Derived.Deep.RegionHeld3
import Derived.Deep.MidRow
import Derived.Laws.Rows
namespace Go.Proofs.YtnaodgljdbkmnaaDoor
set_option linter.unusedVariables false
open Go.RowKit
theorem TwoB.bel {w0 w : World} {base bk1 m1 bk2 m2 : Nat} {L1 L2 : List Ent} (h : TwoB w0 w base bk1 m1 bk2 m2 L1 L2) : Below w0.heap.size w0 w := by obtain ⟨_, _, _, b⟩ := h; exact b
theorem TwoB.uni {w0 w : World} {base bk1 m1 bk2 m2 : Nat} {L1 L2 : List Ent} (h : TwoB w0 w base bk1 m1 bk2 m2 L1 L2) : (L1.map (·.2.hash)).Nodup ∧ (L2.map (·.2.hash)).Nodup := by obtain ⟨_, _, p, _⟩ := h; exact ⟨p.one.uni, p.two.uni⟩
theorem two_new {w w2 w3 w4 : World} {bk1 m1 bk2 m2 : Nat} (h1 : BookAt w3 w2.heap.size bk1 m1 (.slice none 0 0) []) (hb1 : Below w2.heap.size w2 w3) (h2 : BookAt w4 w3.heap.size bk2 m2 (.slice none 0 0) []) (hb2 : Below w3.heap.size w3 w4) (hb : Below w.heap.size w w2) : TwoB w w4 w2.heap.size bk1 m1 bk2 m2 [] [] := by
  refine ⟨_, _, ⟨h1.below hb2, h2.lower hb1.size, fun k hk1 hk2 => ?_⟩, (hb.trans (hb1.mono hb.size)).trans (hb2.mono (Nat.le_trans hb.size hb1.size))⟩
  have h3 := BkS.lt h1 k hk1
  have h4 := BkS.ge h2 k hk2
  omega
def RdB (w0 w : World) (base bk1 m1 bk2 m2 k6 : Nat) (cs : Array Value) (L1 L2 : List Ent) : Prop := TwoB w0 w base bk1 m1 bk2 m2 L1 L2 ∧ w.heap[k6]? = some (.cells cs 50 (0, 0))
set_option maxRecDepth 100000 in
set_option maxHeartbeats 16000000 in
theorem bookOrder_any (pk pa pn pe ph qk qa qn qe qh : Int) (pt ps qt qs : ByteArray) (a : Option Addr) (cp : Nat) (ops : List Opr) (w : World) (hpt : pt.size ≤ maxLen) (hps : ps.size ≤ maxLen) (hqt : qt.size ≤ maxLen) (hqs : qs.size ≤ maxLen) (hm : ops.length ≤ maxLen) (ho : OpsAt w a ops) (hL : LibOk w) :
    Calls Tryd.prog 9 #[.agg #[.int .u8 pk, .string pt, .int .i64 pa, .int .i64 pn, .int .i64 pe, .int .i64 ph, .string ps], .agg #[.int .u8 qk, .string qt, .int .i64 qa, .int .i64 qn, .int .i64 qe, .int .i64 qh, .string qs], .slice a ops.length cp] w fun e w' => e = .returned (.bool true) ∧ Below w.heap.size w w' := by
  have HO := Lib.hid ho
  have HL := Lib.hid hL
  have HM := Lib.hid hm
  have HPT := Lib.hid hpt
  have HPS := Lib.hid hps
  have HQT := Lib.hid hqt
  have HQS := Lib.hid hqs
  have HNEQ := Lib.hid (fun w => run_neq_inv w)
  clear ho hL hm hpt hps hqt hqs
  go_enter Tryd.func9, Tryd.ntmps9
  go_upto_region 1 with fail
  have k3 := heap_alloc_at w (.cells #[.int .u8 pk, .string pt, .int .i64 pa, .int .i64 pn, .int .i64 pe, .int .i64 ph, .string ps] 50)
  have b3 := below_new' w (.cells #[.int .u8 pk, .string pt, .int .i64 pa, .int .i64 pn, .int .i64 pe, .int .i64 ph, .string ps] 50)
  have b4 := below_new' (w.alloc (.cells #[.int .u8 pk, .string pt, .int .i64 pa, .int .i64 pn, .int .i64 pe, .int .i64 ph, .string ps] 50)) (.cells #[.int .u8 qk, .string qt, .int .i64 qa, .int .i64 qn, .int .i64 qe, .int .i64 qh, .string qs] 50)
  have K3 := Lib.hid ((b4.block _ (lt_of_heap k3)).trans k3)
  have k4 : ((w.alloc (.cells #[.int .u8 pk, .string pt, .int .i64 pa, .int .i64 pn, .int .i64 pe, .int .i64 ph, .string ps] 50)).alloc (.cells #[.int .u8 qk, .string qt, .int .i64 qa, .int .i64 qn, .int .i64 qe, .int .i64 qh, .string qs] 50)).heap[w.heap.size + 1]? = some (.cells #[.int .u8 qk, .string qt, .int .i64 qa, .int .i64 qn, .int .i64 qe, .int .i64 qh, .string qs] 50 (0, 0)) := by
    have := heap_alloc_at (w.alloc (.cells #[.int .u8 pk, .string pt, .int .i64 pa, .int .i64 pn, .int .i64 pe, .int .i64 ph, .string ps] 50)) (.cells #[.int .u8 qk, .string qt, .int .i64 qa, .int .i64 qn, .int .i64 qe, .int .i64 qh, .string qs] 50)
    simpa using this
  have K4 := Lib.hid k4
  have B1 := Lib.hid (b3.trans (b4.mono b3.size))
  clear k3 k4 b3 b4
  generalize (w.alloc (.cells #[.int .u8 pk, .string pt, .int .i64 pa, .int .i64 pn, .int .i64 pe, .int .i64 ph, .string ps] 50)).alloc (.cells #[.int .u8 qk, .string qt, .int .i64 qa, .int .i64 qn, .int .i64 qe, .int .i64 qh, .string qs] 50) = w1 at K3 K4 B1 ⊢
  obtain ⟨x3, hx3⟩ : ∃ x3, w.heap.size = x3 := ⟨_, rfl⟩
  have HX3 := Lib.hid hx3
  rw [hx3] at K3 K4 ⊢
  obtain ⟨x4, hx4⟩ : ∃ x4, x3 + 1 = x4 := ⟨_, rfl⟩
  rw [hx4] at K4 ⊢
  clear hx3 hx4
  go_cut [46] from 29 to 47 (fun p wx => ∃ z, p = .bool z ∧ Hid (Below w1.heap.size w1 wx))
  case first =>
    go_wp2_with (go_at_call 25; (with_reducible refine Calls.mono (blarge_any a cp ops w1 HM.out (HO.out.below B1.out)) ?_); rintro e w2 ⟨b, rfl, hlt, hb2⟩; have B2 := Lib.hid hb2; obtain ⟨_, c31, _, _, _, _, c36⟩ := seven ((hb2.block _ (lt_of_heap K3.out)).trans K3.out); obtain ⟨_, c41, _, _, _, _, c46⟩ := seven ((hb2.block _ (lt_of_heap K4.out)).trans K4.out); clear hb2 hlt; cases b)
    all_goals go_meet
    all_goals exact ⟨_, rfl, B2⟩
  case rest =>
    obtain ⟨z, rfl, B2⟩ := hcut
    obtain ⟨w2, rfl⟩ : ∃ w2 : World, w2 = wc := ⟨_, rfl⟩
    have B12 : Hid (Below w.heap.size w w2) := B1.out.trans (B2.out.mono B1.out.size)
    have LW : Hid (∀ W, Below w.heap.size w W → Calls Tryd.prog 26 #[] W fun e w' => e = .returned (.bool true) ∧ Below W.heap.size W w') := fun W hW => bworks_any W (HL.out.below hW)
    cases z with
    | true =>
      go_wp2_with (go_at_call 26; (with_reducible refine Calls.mono (LW.out _ B12.out) ?_); rintro e w9 ⟨rfl, hb9⟩; have B9 := Lib.hid hb9; clear hb9)
      go_ret
      exact ⟨rfl, B12.out.trans (B9.out.mono B12.out.size)⟩
    | false =>
      go_upto_region 4 with (first
        | (go_at_call 27; (with_reducible refine Calls.mono (bnew_any w3) ?_); rintro e w4 ⟨bk2, m2, rfl, h4, hb4⟩; have T4 := Lib.hid (two_new H3.out B3.out h4 hb4 B12.out); have K34 := Lib.hid ((hb4.block _ (lt_of_heap K33.out)).trans K33.out); have K44 := Lib.hid ((hb4.block _ (lt_of_heap K43.out)).trans K43.out); obtain ⟨_, c1, c2, c3, c4, c5, c6⟩ := seven K34.out; obtain ⟨_, d1, d2, d3, d4, d5, d6⟩ := seven K44.out; clear h4 hb4)
        | (go_at_call 27; (with_reducible refine Calls.mono (bnew_any w2) ?_); rintro e w3 ⟨bk1, m1, rfl, h3, hb3⟩; have H3 := Lib.hid h3; have B3 := Lib.hid hb3; have K33 := Lib.hid ((hb3.block _ (lt_of_heap ((B2.out.block _ (lt_of_heap K3.out)).trans K3.out))).trans ((B2.out.block _ (lt_of_heap K3.out)).trans K3.out)); have K43 := Lib.hid ((hb3.block _ (lt_of_heap ((B2.out.block _ (lt_of_heap K4.out)).trans K4.out))).trans ((B2.out.block _ (lt_of_heap K4.out)).trans K4.out)); clear h3 hb3))
      have hb0 : w.heap.size ≤ w2.heap.size := B12.out.size
      have HB0 := Lib.hid hb0
      obtain ⟨base, hbs⟩ : ∃ base, w2.heap.size = base := ⟨_, rfl⟩
      rw [hbs] at T4 HB0 hb0
      clear hbs H3 B3
      go_upto_region 8 with (first
        | (go_at_call 33; (with_reducible refine Calls.mono (two_ask HB0.out (TwoB.swap T7.out) pt pa pn pe ph ps HPT.out HPS.out (HL.out.below T7.out.bel)) ?_); rintro y w8 ⟨u4, x4, rfl, he, hu, ⟨Lb2, ha, ht⟩, hs⟩; have E4 := Lib.hid he; have U4 := Lib.hid hu; have A4 := Lib.hid ha; have T8 := Lib.hid (TwoB.swap ht); clear he hu ha ht hs)
        | (go_at_call 33; (with_reducible refine Calls.mono (two_ask HB0.out (TwoB.swap T6.out) qt qa qn qe qh qs HQT.out HQS.out (HL.out.below T6.out.bel)) ?_); rintro y w7 ⟨u3, x3', rfl, he, hu, ⟨Lb1, ha, ht⟩, hs⟩; have E3 := Lib.hid he; have U3 := Lib.hid hu; have A3 := Lib.hid ha; have T7 := Lib.hid (TwoB.swap ht); have K37 := Lib.hid (hs _ _ _ _ (by decide) (by decide) (by decide) K36.out); have K47 := Lib.hid (hs _ _ _ _ (by decide) (by decide) (by decide) K46.out); obtain ⟨_, c1, c2, c3, c4, c5, c6⟩ := seven K37.out; clear he hu ha ht hs)
        | (go_at_call 33; (with_reducible refine Calls.mono (two_ask HB0.out T5.out qt qa qn qe qh qs HQT.out HQS.out (HL.out.below T5.out.bel)) ?_); rintro y w6 ⟨u2, x2, rfl, he, hu, ⟨La2, ha, ht⟩, hs⟩; have E2 := Lib.hid he; have U2 := Lib.hid hu; have A2 := Lib.hid ha; have T6 := Lib.hid ht; have K36 := Lib.hid (hs _ _ _ _ (by decide) (by decide) (by decide) K35.out); have K46 := Lib.hid (hs _ _ _ _ (by decide) (by decide) (by decide) K45.out); obtain ⟨_, d1, d2, d3, d4, d5, d6⟩ := seven K46.out; clear he hu ha ht hs)
        | (go_at_call 33; (with_reducible refine Calls.mono (two_ask HB0.out T4.out pt pa pn pe ph ps HPT.out HPS.out (HL.out.below T4.out.bel)) ?_); rintro y w5 ⟨u1, x1, rfl, he, hu, ⟨La1, ha, ht⟩, hs⟩; have E1 := Lib.hid he; have U1 := Lib.hid hu; have A1 := Lib.hid ha; have T5 := Lib.hid ht; have K35 := Lib.hid (hs _ _ _ _ (by decide) (by decide) (by decide) K34.out); have K45 := Lib.hid (hs _ _ _ _ (by decide) (by decide) (by decide) K44.out); obtain ⟨_, d1, d2, d3, d4, d5, d6⟩ := seven K45.out; clear he hu ha ht hs))
      by_cases h1 : x1 = 0
      case neg =>
        have h1b : (x1 != 0) = true := by simpa using h1
        go_wp2_with (go_at_call 26; (with_reducible refine Calls.mono (LW.out _ T8.out.bel) ?_); rintro e w9 ⟨rfl, hb9⟩; have B9 := Lib.hid hb9; clear hb9)
        go_ret
        exact ⟨rfl, T8.out.bel.trans (B9.out.mono T8.out.bel.size)⟩
      by_cases h2 : x2 = 0
      case neg =>
        have h1b : (x1 != 0) = false := by simpa using h1
        have h2b : (x2 != 0) = true := by simpa using h2
        go_wp2_with (go_at_call 26; (with_reducible refine Calls.mono (LW.out _ T8.out.bel) ?_); rintro e w9 ⟨rfl, hb9⟩; have B9 := Lib.hid hb9; clear hb9)
        go_ret
        exact ⟨rfl, T8.out.bel.trans (B9.out.mono T8.out.bel.size)⟩
      subst h1 h2
      obtain ⟨e3, e4, HSM⟩ := order_start A1.out A2.out A3.out A4.out E1.out.symm E2.out.symm
      obtain rfl : x3' = 0 := E3.out.trans e3
      obtain rfl : x4 = 0 := E4.out.trans e4
      obtain rfl : u1 = u4 := (U1.out rfl).trans (U4.out rfl).symm
      obtain rfl : u2 = u3 := (U2.out rfl).trans (U3.out rfl).symm
      have SM := Lib.hid HSM
      have hMi : (ops.length : Int) ≤ 9223372036854775807 := by have := HM.out; unfold maxLen at this; omega
      clear e3 e4 HSM
      go_wp2_with fail
      go_loopw [17] (fun iv wr => ∃ (i : Nat) (L1 L2 : List Ent), i ≤ ops.length ∧ iv = .int .i64 i ∧ Hid (TwoB w wr base bk1 m1 bk2 m2 L1 L2) ∧ Hid (SameB L1 L2)) (fun iv _ => ops.length - (intOf iv).toNat)
      case atStart => exact ⟨0, _, _, Nat.zero_le _, rfl, T8, SM⟩
      case round =>
        obtain ⟨i, L1, L2, hi, rfl, hT, hS⟩ := hrel
        have hBs := hT.out.bel.size
        by_cases hlt : i < ops.length
        · obtain ⟨o, hoo⟩ : ∃ o, ops[i]? = some o := ⟨_, List.getElem?_eq_getElem hlt⟩
          have hne : ops ≠ [] := by intro h; rw [h] at hlt; simp at hlt
          obtain ⟨b, off, rfl, hrec0⟩ := (HO.out.below hT.out.bel).resolve_left hne
          obtain ⟨hc0, hk0, hk1, ht, hs⟩ := hrec0 i o hoo
          obtain ⟨kd, t, am, n, e, h, s⟩ := o
          have hrng : wr.rangeAt b (off + i * 7) [.int .u8 kd, .string t, .int .i64 am, .int .i64 n, .int .i64 e, .int .i64 h, .string s] := fun j v hv => by
            have hj : j < 7 := (List.getElem?_eq_some_iff.1 hv).1
            exact (hc0 j hj).trans hv
          have HRNG := Lib.hid hrng
          have hii : (i : Int) < (ops.length : Int) := by omega
          clear hoo hrec0 hc0 hrng ht hs hne
          simp only at hk0 hk1
          go_upto_region 16 with (refine wpList_load_mid rfl 50 (.tmp 149) rfl b (off + i * 7) rfl [.int .u8 kd, .string t, .int .i64 am, .int .i64 n, .int .i64 e, .int .i64 h, .string s] _ HRNG.out Tryd.underlying50 rfl (by kernel_rfl) ?_)
          have B6 := below_new' wr (.cells #[.int .u8 kd, .string t, .int .i64 am, .int .i64 n, .int .i64 e, .int .i64 h, .string s] 50)
          have K6 := Lib.hid (heap_alloc_at wr (.cells #[.int .u8 kd, .string t, .int .i64 am, .int .i64 n, .int .i64 e, .int .i64 h, .string s] 50))
          have R6 := Lib.hid (hT.out.next B6)
          clear B6 HRNG
          generalize wr.alloc (.cells #[.int .u8 kd, .string t, .int .i64 am, .int .i64 n, .int .i64 e, .int .i64 h, .string s] 50) = wa at K6 R6 ⊢
          generalize wr.heap.size = k6 at K6 ⊢
          obtain ⟨r0, r1, r2, r3, r4, r5, r6⟩ := seven K6.out
          have HU := Lib.hid hT.out.uni
          go_upto_block 2 with fail
          go_cut [19, 20, 21, 22, 23, 24, 25, 26] from 154 to 240 (fun _ _ _ _ _ _ _ _ wx => ∃ (L1' L2' : List Ent), Hid (TwoB w wx base bk1 m1 bk2 m2 L1' L2') ∧ Hid (SameB L1' L2'))
          case first =>
            by_cases k2 : kd % 6 = 2
            · have e2 : (kd % 6 == 2) = true := by simpa using k2
              clear k2
              obtain ⟨u, x, hV⟩ := offV_shape (findB t L1 0) am n h e
              have HOA : Hid (∀ W, TwoB w W base bk1 m1 bk2 m2 L1 L2 → Calls Tryd.prog 29 #[.pointer (some ⟨bk1, 0, none⟩), .string t, .int .i64 am, .int .i64 n, .int .i64 h, .int .i64 e] W fun y w' => y = .returned (.tuple #[.string u, .int .i64 x]) ∧ Below W.heap.size W w') := fun W hW => by
                have := two_offer hW t am n h e
                rw [hV] at this; exact this
              have HOB : Hid (∀ W, TwoB w W base bk1 m1 bk2 m2 L1 L2 → Calls Tryd.prog 29 #[.pointer (some ⟨bk2, 0, none⟩), .string t, .int .i64 am, .int .i64 n, .int .i64 h, .int .i64 e] W fun y w' => y = .returned (.tuple #[.string u, .int .i64 x]) ∧ Below W.heap.size W w') := fun W hW => by
                have := two_offer hW.swap t am n h e
                rw [← offV_congr (hS.out.find HU.out.1 HU.out.2 t) am n h e, hV] at this; exact this
              clear hV
              go_wp2_with (first
                | (go_at_call 29; (with_reducible refine Calls.mono (HOB.out w5 R5.out) ?_); rintro y w7 ⟨rfl, hb7⟩; have R7 := Lib.hid (R5.out.next hb7); clear hb7)
                | (go_at_call 29; (with_reducible refine Calls.mono (HOA.out _ R6.out) ?_); rintro y w5 ⟨rfl, hb5⟩; have R5 := Lib.hid (R6.out.next hb5); obtain ⟨s0, s1, s2, s3, s4, s5, s6⟩ := seven ((hb5.block _ (lt_of_heap K6.out)).trans K6.out); clear hb5))
              go_meet
              exact ⟨L1, L2, R7, hS⟩
            have e2 : (kd % 6 == 2) = false := by simpa using k2
            by_cases k3 : kd % 6 = 3
            · have e3 : (kd % 6 == 3) = true := by simpa using k3
              clear k3
              obtain ⟨hse, hsl⟩ := hS.out.set HU.out.1 HU.out.2 t
              obtain ⟨x, hx⟩ : ∃ x, setE t L1 = x := ⟨_, rfl⟩
              have HSA : Hid (∀ W L, RdB w W base bk1 m1 bk2 m2 k6 #[.int .u8 kd, .string t, .int .i64 am, .int .i64 n, .int .i64 e, .int .i64 h, .string s] L1 L → Calls Tryd.prog 31 #[.pointer (some ⟨bk1, 0, none⟩), .string t] W fun y w' => y = .returned (.int .i64 x) ∧ RdB w w' base bk1 m1 bk2 m2 k6 #[.int .u8 kd, .string t, .int .i64 am, .int .i64 n, .int .i64 e, .int .i64 h, .string s] (setL t L1) L ∧ w'.cell? ⟨k6, 1, none⟩ = some (.string t)) := fun W L hW => (two_settled hb0 hW.1 t).mono fun y w' ⟨h1, h2, h3⟩ => by
                have hk := h3 _ _ _ _ (by decide) (by decide) (by decide) hW.2
                exact ⟨by rw [h1, hx], ⟨h2, hk⟩, (seven hk).2.1⟩
              have HSB : Hid (∀ W L, RdB w W base bk1 m1 bk2 m2 k6 #[.int .u8 kd, .string t, .int .i64 am, .int .i64 n, .int .i64 e, .int .i64 h, .string s] L L2 → Calls Tryd.prog 31 #[.pointer (some ⟨bk2, 0, none⟩), .string t] W fun y w' => y = .returned (.int .i64 x) ∧ RdB w w' base bk1 m1 bk2 m2 k6 #[.int .u8 kd, .string t, .int .i64 am, .int .i64 n, .int .i64 e, .int .i64 h, .string s] L (setL t L2) ∧ w'.cell? ⟨k6, 1, none⟩ = some (.string t)) := fun W L hW => (two_settled hb0 hW.1.swap t).mono fun y w' ⟨h1, h2, h3⟩ => by
                have hk := h3 _ _ _ _ (by decide) (by decide) (by decide) hW.2
                exact ⟨by rw [h1, ← hse, hx], ⟨h2.swap, hk⟩, (seven hk).2.1⟩
              have HSL := Lib.hid hsl
              clear hse hsl hx r0 r2 r3 r4 r5 r6
              go_upto_region 23 with fail
              have Z0 : RdB w wa.drew base bk1 m1 bk2 m2 k6 #[.int .u8 kd, .string t, .int .i64 am, .int .i64 n, .int .i64 e, .int .i64 h, .string s] L1 L2 := ⟨R6.out.next (Below.refl _ _).drew, K6.out⟩
              go_region_held3 (fun w' => w'.cell? ⟨k6, 1, none⟩ = some (.string t))
                (first | go_keep | assumption)
                ((first
                  | (go_at_call 31; (with_reducible refine Calls.mono (HSA.out _ _ (by assumption)) ?_); rintro y w7 ⟨rfl, Z1, c7⟩)
                  | (go_at_call 31; (with_reducible refine Calls.mono (HSB.out _ _ (by assumption)) ?_); rintro y w8 ⟨rfl, Z2, c8⟩)))
              all_goals go_wp2_with fail
              all_goals go_meet
              all_goals exact ⟨setL t L1, setL t L2, (by assumption : RdB w _ base bk1 m1 bk2 m2 k6 #[.int .u8 kd, .string t, .int .i64 am, .int .i64 n, .int .i64 e, .int .i64 h, .string s] (setL t L1) (setL t L2)).1, HSL⟩
            have e3 : (kd % 6 == 3) = false := by simpa using k3
            by_cases k4 : kd % 6 = 4
            · have e4 : (kd % 6 == 4) = true := by simpa using k4
              clear k4
              obtain ⟨x, hx⟩ : ∃ x, ((L1.length : Int) - ((L1.filter (kp n)).length : Int)) = x := ⟨_, rfl⟩
              have hsl := hS.out.prune n
              have hx2 : ((L2.length : Int) - ((L2.filter (kp n)).length : Int)) = x := by rw [← hx, hS.out.len, hsl.len]
              have HSA : Hid (∀ W L, RdB w W base bk1 m1 bk2 m2 k6 #[.int .u8 kd, .string t, .int .i64 am, .int .i64 n, .int .i64 e, .int .i64 h, .string s] L1 L → Calls Tryd.prog 32 #[.pointer (some ⟨bk1, 0, none⟩), .int .i64 n] W fun y w' => y = .returned (.int .i64 x) ∧ RdB w w' base bk1 m1 bk2 m2 k6 #[.int .u8 kd, .string t, .int .i64 am, .int .i64 n, .int .i64 e, .int .i64 h, .string s] (L1.filter (kp n)) L ∧ w'.cell? ⟨k6, 3, none⟩ = some (.int .i64 n)) := fun W L hW => (two_prune hb0 hW.1 n).mono fun y w' ⟨h1, h2, h3⟩ => by
                have hk := h3 _ _ _ _ (by decide) (by decide) (by decide) hW.2
                exact ⟨by rw [h1, hx], ⟨h2, hk⟩, (seven hk).2.2.2.1⟩
              have HSB : Hid (∀ W L, RdB w W base bk1 m1 bk2 m2 k6 #[.int .u8 kd, .string t, .int .i64 am, .int .i64 n, .int .i64 e, .int .i64 h, .string s] L L2 → Calls Tryd.prog 32 #[.pointer (some ⟨bk2, 0, none⟩), .int .i64 n] W fun y w' => y = .returned (.int .i64 x) ∧ RdB w w' base bk1 m1 bk2 m2 k6 #[.int .u8 kd, .string t, .int .i64 am, .int .i64 n, .int .i64 e, .int .i64 h, .string s] L (L2.filter (kp n)) ∧ w'.cell? ⟨k6, 3, none⟩ = some (.int .i64 n)) := fun W L hW => (two_prune hb0 hW.1.swap n).mono fun y w' ⟨h1, h2, h3⟩ => by
                have hk := h3 _ _ _ _ (by decide) (by decide) (by decide) hW.2
                exact ⟨by rw [h1, hx2], ⟨h2.swap, hk⟩, (seven hk).2.2.2.1⟩
              have HSL := Lib.hid hsl
              clear hsl hx hx2 r0 r1 r2 r4 r5 r6
              go_upto_region 26 with fail
              have Z0 : RdB w wa.drew base bk1 m1 bk2 m2 k6 #[.int .u8 kd, .string t, .int .i64 am, .int .i64 n, .int .i64 e, .int .i64 h, .string s] L1 L2 := ⟨R6.out.next (Below.refl _ _).drew, K6.out⟩
              go_region_held3 (fun w' => w'.cell? ⟨k6, 3, none⟩ = some (.int .i64 n))
                (first | go_keep | assumption)
                ((first
                  | (go_at_call 32; (with_reducible refine Calls.mono (HSA.out _ _ (by assumption)) ?_); rintro y w7 ⟨rfl, Z1, c7⟩)
                  | (go_at_call 32; (with_reducible refine Calls.mono (HSB.out _ _ (by assumption)) ?_); rintro y w8 ⟨rfl, Z2, c8⟩)))
              all_goals go_wp2_with fail
              all_goals go_meet
              all_goals exact ⟨L1.filter (kp n), L2.filter (kp n), (by assumption : RdB w _ base bk1 m1 bk2 m2 k6 #[.int .u8 kd, .string t, .int .i64 am, .int .i64 n, .int .i64 e, .int .i64 h, .string s] (L1.filter (kp n)) (L2.filter (kp n))).1, HSL⟩
            have e4 : (kd % 6 == 4) = false := by simpa using k4
            by_cases k5 : kd % 6 = 5
            · have e5 : (kd % 6 == 5) = true := by simpa using k5
              clear k5
              obtain ⟨va, vb, vh, vp, vm, vc, vd, hV⟩ := invO_shape (findB t L1 0) ⟨#[80, 110, 49, 59]⟩
              obtain ⟨hc1, hc2⟩ := invO_congr (hS.out.find HU.out.1 HU.out.2 t) ⟨#[80, 110, 49, 59]⟩
              obtain ⟨x, hx⟩ : ∃ x : Int, (if (findB t L1 0).isSome then 0 else 230) = x := ⟨_, rfl⟩
              have HIA : Hid (∀ W, TwoB w W base bk1 m1 bk2 m2 L1 L2 → Calls Tryd.prog 35 #[.pointer (some ⟨bk1, 0, none⟩), .string t, .string ⟨#[80, 110, 49, 59]⟩] W fun y w' => y = .returned (.tuple #[.agg #[.int .i64 va, .int .i64 vb, .string vh, .string vp, .string vm, .int .i64 vc, .int .i64 vd, .string ⟨#[]⟩], .int .i64 x]) ∧ Below W.heap.size W w') := fun W hW => by
                have := two_invoice hW t ⟨#[80, 110, 49, 59]⟩
                rw [hV, hx] at this; exact this
              have HIB : Hid (∀ W, TwoB w W base bk1 m1 bk2 m2 L1 L2 → Calls Tryd.prog 35 #[.pointer (some ⟨bk2, 0, none⟩), .string t, .string ⟨#[80, 110, 49, 59]⟩] W fun y w' => y = .returned (.tuple #[.agg #[.int .i64 va, .int .i64 vb, .string vh, .string vp, .string vm, .int .i64 vc, .int .i64 vd, .string ⟨#[]⟩], .int .i64 x]) ∧ Below W.heap.size W w') := fun W hW => by
                have := two_invoice hW.swap t ⟨#[80, 110, 49, 59]⟩
                rw [← hc1, ← hc2, hV, hx] at this; exact this
              clear hV hc1 hc2 hx
              go_upto_region 30 with (go_at_call 35; (with_reducible refine Calls.mono (HIA.out _ R6.out) ?_); rintro y w5 ⟨rfl, hb5⟩; have R5 := Lib.hid (R6.out.next hb5); have K5 := Lib.hid ((hb5.block _ (lt_of_heap K6.out)).trans K6.out); clear hb5)
              have B7 := below_new' w5 (.cells #[.int .i64 va, .int .i64 vb, .string vh, .string vp, .string vm, .int .i64 vc, .int .i64 vd, .string ⟨#[]⟩] 62)
              have K23 := Lib.hid (heap_alloc_at w5 (.cells #[.int .i64 va, .int .i64 vb, .string vh, .string vp, .string vm, .int .i64 vc, .int .i64 vd, .string ⟨#[]⟩] 62))
              have R7 := Lib.hid (R5.out.next B7)
              obtain ⟨s0, s1, s2, s3, s4, s5, s6⟩ := seven ((B7.block _ (lt_of_heap K5.out)).trans K5.out)
              clear B7 r0 r1 r2 r3 r4 r5 r6 s0 s2 s3 s4 s5 s6
              generalize w5.alloc (.cells #[.int .i64 va, .int .i64 vb, .string vh, .string vp, .string vm, .int .i64 vc, .int .i64 vd, .string ⟨#[]⟩] 62) = w7 at K23 R7 s1 ⊢
              generalize w5.heap.size = k23 at K23 ⊢
              go_upto_region 31 with (go_at_call 35; (with_reducible refine Calls.mono (HIB.out _ R7.out) ?_); rintro y w8 ⟨rfl, hb8⟩; have R8 := Lib.hid (R7.out.next hb8); have K238 := Lib.hid ((hb8.block _ (lt_of_heap K23.out)).trans K23.out); clear hb8)
              have B9 := below_new' w8 (.cells #[.int .i64 va, .int .i64 vb, .string vh, .string vp, .string vm, .int .i64 vc, .int .i64 vd, .string ⟨#[]⟩] 62)
              have K25 := Lib.hid (heap_alloc_at w8 (.cells #[.int .i64 va, .int .i64 vb, .string vh, .string vp, .string vm, .int .i64 vc, .int .i64 vd, .string ⟨#[]⟩] 62))
              have R9 := Lib.hid (R8.out.next B9)
              have K239 := Lib.hid ((B9.block _ (lt_of_heap K238.out)).trans K238.out)
              clear B9 s1
              generalize w8.alloc (.cells #[.int .i64 va, .int .i64 vb, .string vh, .string vp, .string vm, .int .i64 vc, .int .i64 vd, .string ⟨#[]⟩] 62) = w9 at K25 R9 K239 ⊢
              generalize w8.heap.size = k25 at K25 ⊢
              have hneq := fun W => HNEQ.out W va vb vh vp vm vc vd
              go_wp2_with (first
                | (refine wpList_load_row rfl 62 (.tmp 23) rfl k23 rfl 62 #[.int .i64 va, .int .i64 vb, .string vh, .string vp, .string vm, .int .i64 vc, .int .i64 vd, .string ⟨#[]⟩] (0, 0) _ K239.out Tryd.underlying62 rfl info62 ?_)
                | (refine wpList_load_row rfl 62 (.tmp 25) rfl k25 rfl 62 #[.int .i64 va, .int .i64 vb, .string vh, .string vp, .string vm, .int .i64 vc, .int .i64 vd, .string ⟨#[]⟩] (0, 0) _ K25.out Tryd.underlying62 rfl info62 ?_))
              go_meet
              exact ⟨L1, L2, R9, hS⟩
            · have e5 : (kd % 6 == 5) = false := by simpa using k5
              go_wp2_with fail
              go_meet
              exact ⟨L1, L2, R6, hS⟩
          case rest =>
            obtain ⟨L1', L2', hX, hY⟩ := hcut
            have HCA : Hid (∀ W, TwoB w W base bk1 m1 bk2 m2 L1' L2' → Calls Tryd.prog 36 #[.pointer (some ⟨bk1, 0, none⟩)] W fun y w' => y = .returned (.int .i64 L1'.length) ∧ Below W.heap.size W w') := fun W hW => two_count hW
            have HCB : Hid (∀ W, TwoB w W base bk1 m1 bk2 m2 L1' L2' → Calls Tryd.prog 36 #[.pointer (some ⟨bk2, 0, none⟩)] W fun y w' => y = .returned (.int .i64 L1'.length) ∧ Below W.heap.size W w') := fun W hW => by
              have := two_count hW.swap
              rw [← hY.out.len] at this; exact this
            go_wp2_with (first
              | (go_at_call 36; (with_reducible refine Calls.mono (HCB.out w5 Y5.out) ?_); rintro y w7 ⟨rfl, hb7⟩; have Y7 := Lib.hid (Y5.out.next hb7); clear hb7)
              | (go_at_call 36; (with_reducible refine Calls.mono (HCA.out _ hX.out) ?_); rintro y w5 ⟨rfl, hb5⟩; have Y5 := Lib.hid (hX.out.next hb5); clear hb5))
            go_roundw
            case rel => exact ⟨i + 1, L1', L2', by omega, by go_num, Y7, hY⟩
            case measure => simp [intOf]; omega
        · obtain rfl : i = ops.length := by omega
          go_wp2_with (go_at_call 26; (with_reducible refine Calls.mono (LW.out _ hT.out.bel) ?_); rintro e w9 ⟨rfl, hb9⟩; have B9 := Lib.hid hb9; clear hb9)
          go_ret
          exact ⟨rfl, hT.out.bel.trans (B9.out.mono hBs)⟩
end Go.Proofs.YtnaodgljdbkmnaaDoor
