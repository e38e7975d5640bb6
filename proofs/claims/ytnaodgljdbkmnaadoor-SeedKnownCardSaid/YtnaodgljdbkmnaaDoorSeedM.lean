/- seed: SeedPlays, walked (printed by gen/gen_seedm.py). -/
import Derived.Test.YtnaodgljdbkmnaaDoorSeedL
import Derived.Deep.RegionHeld3
import Derived.Laws.AppendOwnNone
import Derived.Maps.AppendAt
namespace Go.Proofs.YtnaodgljdbkmnaaDoor
set_option linter.unusedVariables false
open Go.RowKit
theorem Later.st {w0 : World} {sb : Nat} {H : List (List UInt8)} (h : St w0 sb H) (n : Later w0) : St n.at_ sb H := h.below n.below
theorem Later.doc {w0 : World} {base mb : Nat} {v : Value} {H : List (List UInt8)} (h : DocSt w0 base mb v H) (n : Later w0) : DocSt n.at_ base mb v H := h.below n.below
theorem pr_set {w w' : World} {base sb mb kb : Nat} {v : Value} {H : List (List UInt8)} {cs : Array Value} {f : Nat × Nat} (h : Pr w base sb mb v H) (hk : w.heap[kb]? = some (.cells cs 42 f)) (hf : Fr (Only kb) w w') : Pr w' base sb mb v H := by
  obtain ⟨cs0, hc0⟩ := h.st.heap
  exact ⟨h.st.fr hf (fun e => type_ne hc0 hk (by decide) e), h.doc.fr hf (fun e => type_ne h.doc.mbk hk (by decide) e) (fun g hg e => own_ne h.doc.own hk (by decide) g hg e), h.h1⟩
theorem lft_set {w w' : World} {base sb mb kb : Nat} {v : Value} {n : Nat} {o : Option (Nat × Nat)} {cs : Array Value} {f : Nat × Nat} (h : Lft w base sb mb v n o) (hk : w.heap[kb]? = some (.cells cs 42 f)) (hf : Fr (Only kb) w w') : Lft w' base sb mb v n o := fun sb' mb' ho => by
  obtain ⟨v', H', q1, q2, q3⟩ := h sb' mb' ho
  exact ⟨v', H', q1, pr_set q2 hk hf, q3⟩
theorem Lft.mono {w : World} {base sb mb : Nat} {v : Value} {n m : Nat} {o : Option (Nat × Nat)} (h : Lft w base sb mb v n o) (hnm : n ≤ m) : Lft w base sb mb v m o := fun sb' mb' ho => by
  obtain ⟨v', H', q1, q2, q3⟩ := h sb' mb' ho
  exact ⟨v', H', Nat.le_trans q1 hnm, q2, q3⟩
theorem pr_doc {w w1 : World} {base sb mb : Nat} {v : Value} {H : List (List UInt8)} (h : Pr w base sb mb v H) (f1 : Fr (Only sb) w w1) : DocSt w1 base mb v H := by
  obtain ⟨cs0, hc0⟩ := h.st.heap
  exact h.doc.fr f1 (fun e => type_ne h.doc.mbk hc0 (by decide) e) (fun g hg e => own_ne h.doc.own hc0 (by decide) g hg e)
theorem only_42 {w w1 : World} {sb k : Nat} {H : List (List UInt8)} {cs : Array Value} {f : Nat × Nat} (h : St w sb H) (f1 : Fr (Only sb) w w1) (hk : w.heap[k]? = some (.cells cs 42 f)) : w1.heap[k]? = some (.cells cs 42 f) := by
  obtain ⟨cs0, hc0⟩ := h.heap
  exact (f1.block k (lt_of_heap hk) (fun e => type_ne hk hc0 (by decide) e)).trans hk
theorem three {w : World} {b : Nat} {a0 a1 a2 : Value} {t : TypeId} {f : Nat × Nat} (h : w.heap[b]? = some (.cells #[a0, a1, a2] t f)) : w.cell? ⟨b, 0, none⟩ = some a0 ∧ w.cell? ⟨b, 1, none⟩ = some a1 ∧ w.cell? ⟨b, 2, none⟩ = some a2 :=
  ⟨by rw [cell_of_row _ _ _ _ _ _ h]; rfl, by rw [cell_of_row _ _ _ _ _ _ h]; rfl, by rw [cell_of_row _ _ _ _ _ _ h]; rfl⟩
theorem getV_form (H : List (List UInt8)) (i : Int) : ∃ u m, getV H i = .tuple #[.string u, .int .i64 m] := by
  unfold getV; split <;> exact ⟨_, _, rfl⟩
theorem secV_size (s : ByteArray) (i : Int) : ∃ u m, secV s i = .tuple #[.string u, .int .i64 m] ∧ u.size ≤ maxLen := by
  unfold secV
  split
  · exact ⟨_, _, rfl, by decide⟩
  · split
    · rename_i hr
      unfold onV
      cases h : onO s.data.toList i.toNat 20 with
      | none => exact ⟨_, _, rfl, by decide⟩
      | some u =>
        refine ⟨_, _, rfl, ?_⟩
        have := right_size (v := ⟨u.toArray⟩) (by unfold rt; rw [ba_list]; exact on_right 20 _ _ u hr h)
        unfold maxLen; omega
    · exact ⟨_, _, rfl, by decide⟩
set_option maxRecDepth 100000 in
set_option maxHeartbeats 16000000 in
theorem seedPlays_any (s : ByteArray) (a : Option Addr) (cp : Nat) (ops : List Stp) (w : World) (hs : s.size ≤ maxLen) (hm : ops.length ≤ maxLen) (ho : StepsAt w a ops) (hL : LibOk w) (hT : Tab w) (hD : Bru w) : Calls Tryd.prog 5 #[.string s, .slice a ops.length cp] w fun e w' => e = .returned (.bool true) ∧ Below w.heap.size w w' := by
  have HO := Lib.hid ho
  have HL := Lib.hid hL
  have HT := Lib.hid hT
  have HD := Lib.hid hD
  have HSE := Lib.hid (fun (W : World) (i : Int) => rsecret_any s i W hs)
  clear hL hT hD ho
  unfold maxLen at hs hm
  by_cases h : 80 < ops.length
  · have hi : (80 : Int) < (ops.length : Int) := by omega
    go_enter Tryd.func5, Tryd.ntmps5
    go_wp2_with fail
    go_ret
    exact ⟨rfl, Below.refl _ _⟩
  have hi : (ops.length : Int) ≤ 80 := by omega
  by_cases h' : 300 < s.size
  · have hi' : (300 : Int) < (s.size : Int) := by omega
    go_enter Tryd.func5, Tryd.ntmps5
    go_wp2_with fail
    go_ret
    exact ⟨rfl, Below.refl _ _⟩
  have hi' : (s.size : Int) ≤ 300 := by omega
  obtain ⟨i0, hi0, hz0, hz1, hz2⟩ := info_parts Try.info22
  go_enter Tryd.func5, Tryd.ntmps5
  go_upto_region 4 with (go_at_call 16; (with_reducible refine Calls.mono (new_st _) ?_); intro e w2 ht; obtain ⟨sb0, hsb⟩ : ∃ sb, w.heap.size = sb := ⟨_, rfl⟩; rw [hsb] at ht; obtain ⟨rfl, hs2, hb2⟩ := ht; have S2 := Lib.hid hs2; have hsb0 : w.heap.size ≤ sb0 := (by omega); have B2 := Lib.hid (show Below w.heap.size w w2 by rw [hsb]; exact hb2); have hsl2 := hs2.lt; clear hs2 hb2 hsb)
  have P3 : Hid (Pr (w2.alloc (.cells #[.slice none 0 0] 40)) w.heap.size sb0 w2.heap.size (.slice none 0 0) []) :=
    ⟨S2.out.below (below_new8 w2 _), ⟨heap_alloc_at w2 _, World.ownsRow_nil _ _ _ _, B2.out.size⟩, hsb0⟩
  have B3 := Lib.hid (B2.out.alloc B2.out.size (.cells #[.slice none 0 0] 40))
  generalize w2.alloc (.cells #[.slice none 0 0] 40) = w3 at P3 B3 ⊢
  generalize w2.heap.size = mb0 at P3 hsl2 ⊢
  clear S2 B2 hsl2 hsb0
  go_wp2_with fail
  go_loopw [5, 6, 7, 8, 9] (fun xv yv lv kv iv wr => ∃ (i sb mb : Nat) (v : Value) (H : List (List UInt8)) (o : Option (Nat × Nat)), i ≤ ops.length ∧ xv = .pointer (some ⟨sb, 0, none⟩) ∧ yv = .pointer (some ⟨mb, 0, none⟩) ∧ lv = lvV o ∧ kv = kvV o ∧ iv = .int .i64 i ∧ Hid (H.length ≤ i) ∧ Hid (Pr wr w.heap.size sb mb v H) ∧ Hid (Lft wr w.heap.size sb mb v i o) ∧ Hid (Below w.heap.size w wr)) (fun _ _ _ _ iv _ => ops.length - (intOf iv).toNat)
  case atStart => exact ⟨0, sb0, mb0, _, [], none, Nat.zero_le _, rfl, rfl, rfl, rfl, rfl, Nat.le_refl _, P3.out, Lft.none, B3.out⟩
  case round =>
    obtain ⟨i, sb, mb, v, H, o, hin, rfl, rfl, rfl, rfl, rfl, hHL, hP, hLf, hB⟩ := hrel
    have hBs := hB.out.size
    by_cases hlt : i < ops.length
    · obtain ⟨q, hq⟩ : ∃ q, ops[i]? = some q := ⟨_, List.getElem?_eq_getElem hlt⟩
      have hne : ops ≠ [] := by intro h; rw [h] at hlt; simp at hlt
      obtain ⟨b, off, rfl, hrec⟩ := (HO.out.below hB.out).resolve_left hne
      obtain ⟨q0, q1, q2, hqs⟩ := hrec i q hq
      obtain ⟨kd, ci, ct⟩ := q
      simp only at q0 q1 q2 hqs
      have hii : (i : Int) < (ops.length : Int) := by omega
      clear hrec hq hne
      by_cases h300 : 300 < ct.size
      · have hc : (300 : Int) < (ct.size : Int) := by omega
        have hcl : (ct.size : Int) ≤ 9223372036854775807 := by unfold maxLen at hqs; omega
        have Bq := Lib.hid (hB.out.alloc hBs (.cells #[.int .i64 kd, .int .i64 ci, .string ct] 42))
        go_wp2_with (go_at_call 14; (with_reducible refine Calls.mono (works_any _ (HL.out.below Bq.out) (HT.out.below Bq.out) (HD.out.below Bq.out)) ?_); rintro e w4 ⟨rfl, hb4⟩; have B4 := Lib.hid (Bq.out.trans (hb4.mono Bq.out.size)); clear hb4)
        go_ret
        exact ⟨rfl, B4.out⟩
      · have hc : (ct.size : Int) ≤ 300 := by omega
        go_upto_region 12 with fail
        have Pa := Lib.hid (hP.out.below (below_new8 wr (.cells #[.int .i64 kd, .int .i64 ci, .string ct] 42)))
        have La := Lib.hid (hLf.out.below (below_new8 wr (.cells #[.int .i64 kd, .int .i64 ci, .string ct] 42)) (Nat.le_refl _))
        have Ba := Lib.hid (hB.out.alloc hBs (.cells #[.int .i64 kd, .int .i64 ci, .string ct] 42))
        have Ka := Lib.hid (heap_alloc_at wr (.cells #[.int .i64 kd, .int .i64 ci, .string ct] 42))
        have hkb : w.heap.size ≤ wr.heap.size := hBs
        generalize wr.alloc (.cells #[.int .i64 kd, .int .i64 ci, .string ct] 42) = wa at Pa La Ba Ka ⊢
        generalize wr.heap.size = kb at Ka hkb ⊢
        obtain ⟨a0, a1, a2⟩ := three Ka.out
        have PK := Lib.hid (fun W => pick_any kd 5 W (by omega) (by omega))
        clear q0 q1 q2 hP hLf hB hBs
        go_upto_region 13 with (go_at_call 15; (with_reducible refine Calls.mono (PK.out _) ?_); rintro e wb ⟨r, hr5, rfl, hb5⟩; have Pb := Lib.hid (Pa.out.below hb5); have Lb := Lib.hid (La.out.below hb5 (Nat.le_refl _)); have Bb := Lib.hid (Ba.out.trans (hb5.mono Ba.out.size)); have Kb : Hid (wb.heap[kb]? = some (.cells #[.int .i64 kd, .int .i64 ci, .string ct] 42 (0, 0))) := (hb5.block kb (lt_of_heap Ka.out)).trans Ka.out; clear hb5)
        clear a0 a1 a2 Pa La Ba Ka PK
        have hH9 := hHL.out
        rcases (by omega : r = 0 ∨ r = 1 ∨ r = 2 ∨ r = 3 ∨ r = 4) with rfl | rfl | rfl | rfl | rfl
        · try rw [show ((0 : Nat) : Int) = 0 from rfl]
          obtain ⟨va, vc, rfl⟩ := own_slice Pb.out.doc.own
          have hcm := Pb.out.doc.cell
          obtain ⟨a0, a1, a2⟩ := three Kb.out
          have f1 := frozen_of_row _ _ 1 _ _ Kb.out
          have hlm : (H.length : Int) ≤ 80 := by omega
          go_upto_region 15 with fail
          have hfr := (Fr.refl (Only kb) wb).set kb 1 (.int .i64 (1048575 - (H.length : Int))) rfl
          have Pc := Lib.hid (pr_set Pb.out Kb.out hfr)
          have Lc := Lib.hid (lft_set Lb.out Kb.out hfr)
          have Bc := Lib.hid (Bb.out.trans (hfr.only hkb Bb.out.size))
          have Kc : Hid ((wb.setCell ⟨kb, 1, none⟩ (.int .i64 (1048575 - (H.length : Int)))).heap[kb]? = some (.cells #[.int .i64 kd, .int .i64 (1048575 - (H.length : Int)), .string ct] 42 (0, 0))) := by
            have := heap_setCell_same _ kb 1 _ 42 (.int .i64 (1048575 - (H.length : Int))) Kb.out
            exact this
          generalize wb.setCell ⟨kb, 1, none⟩ (.int .i64 (1048575 - (H.length : Int))) = wc at Pc Lc Bc Kc ⊢
          clear hfr hcm a0 a1 a2 f1 Pb Lb Bb Kb
          obtain ⟨cj, hcj⟩ : ∃ cj : Int, 1048575 - (H.length : Int) = cj := ⟨_, rfl⟩
          rw [hcj] at Kc
          obtain ⟨a0, a1, a2⟩ := three Kc.out
          obtain ⟨u, m, hu, hus⟩ := secV_size s cj
          have HQ := Lib.hid (fun W => HSE.out W cj)
          rw [hu] at HQ
          clear hu hcj
          go_upto_region 16 with (go_at_call 13; (with_reducible refine Calls.mono (HQ.out _) ?_); rintro e wd ⟨rfl, hb6⟩; have Pd := Lib.hid (Pc.out.below hb6); have Ld := Lib.hid (Lc.out.below hb6 (Nat.le_refl _)); have Bd := Lib.hid (Bc.out.trans (hb6.mono Bc.out.size)); have Kd : Hid (wd.heap[kb]? = some (.cells #[.int .i64 kd, .int .i64 cj, .string ct] 42 (0, 0))) := (hb6.block kb (lt_of_heap Kc.out)).trans Kc.out; obtain ⟨b0, b1, b2⟩ := three Kd.out; have f2 := frozen_of_row _ _ 2 _ _ Kd.out; clear hb6)
          have hfr := (Fr.refl (Only kb) wd).set kb 2 (.string u) rfl
          have Pe := Lib.hid (pr_set Pd.out Kd.out hfr)
          have Le := Lib.hid (lft_set Ld.out Kd.out hfr)
          have Be := Lib.hid (Bd.out.trans (hfr.only hkb Bd.out.size))
          have Ke : Hid ((wd.setCell ⟨kb, 2, none⟩ (.string u)).heap[kb]? = some (.cells #[.int .i64 kd, .int .i64 cj, .string u] 42 (0, 0))) := heap_setCell_same _ kb 2 _ 42 (.string u) Kd.out
          generalize wd.setCell ⟨kb, 2, none⟩ (.string u) = we at Pe Le Be Ke ⊢
          clear hfr a0 a1 a2 b0 b1 b2 f2 Pd Ld Bd Kd Pc Lc Bc Kc
          generalize Value.slice va H.length vc = v at Pe Le
          go_upto_region 19 with fail
          have hlen2 := addH_len H cj u
          have C17 := Lib.hid (fun (x : World) (h : St x sb H) (h1 : LibOk x) (h2 : Tab x) (h3 : Bru x) => add_st sb H x h cj u hus h1 h2 h3)
          have C21 := Lib.hid (fun (x : World) (h : DocSt x w.heap.size mb v H) => dadd_any w.heap.size mb v H x h (by omega) cj u hus)
          obtain ⟨X, hX⟩ : ∃ X, addX H cj u = X := ⟨_, rfl⟩
          obtain ⟨H2, hH2⟩ : ∃ H2, addH H cj u = H2 := ⟨_, rfl⟩
          rw [hX, hH2] at C17 C21
          rw [hH2] at hlen2
          clear hX hH2
          have HLEN2 : Hid (H2.length ≤ i + 1) := by show _ ≤ _; omega
          have PD := Lib.hid (Pe.out.below ((Below.refl we.heap.size we).drew))
          have BD := Lib.hid (Be.out.drew)
          have KD : Hid (we.drew.heap[kb]? = some (.cells #[.int .i64 kd, .int .i64 cj, .string u] 42 (0, 0))) := Ke.out
          have LD := Lib.hid ((Le.out.below ((Below.refl we.heap.size we).drew) (Nat.le_succ i)))
          obtain ⟨kq0, kq1, kq2⟩ := three Ke.out
          go_region_held3 (fun w' => w'.cell? ⟨kb, 1, none⟩ = some (.int .i64 cj) ∧ w'.cell? ⟨kb, 2, none⟩ = some (.string u))
            (first | go_keep | (refine ⟨?_, ?_⟩ <;> assumption))
            (first
              | (go_at_call 17; (with_reducible refine Calls.mono (C17.out _ PD.out.st (HL.out.below BD.out) (HT.out.below BD.out) (HD.out.below BD.out)) ?_); rintro e w8 ⟨rfl, hs8, hf8⟩; have S8 := Lib.hid hs8; have F8 := Lib.hid hf8; obtain ⟨m0, m1, m2⟩ := three (only_42 PD.out.st hf8 KD.out); clear hs8 hf8)
              | (go_at_call 21; (with_reducible refine Calls.mono (C21.out _ (pr_doc PD.out F8.out)) ?_); intro e w9 hd; obtain ⟨rfl, v9, hp9, hb9, hl9, hk9⟩ := pr_add PD.out S8.out F8.out hd; have P9 := Lib.hid hp9; have B9 := Lib.hid (BD.out.trans hb9); have L9 := Lib.hid (hl9 _ _ LD.out); obtain ⟨m0, m1, m2⟩ := three (hk9 _ _ _ KD.out); clear hd hp9 hb9 hl9 hk9))
          go_upto_region 37 with fail
          obtain ⟨ya, yc, hvz⟩ := own_slice P9.out.doc.own
          subst hvz
          have c0 := Later.cell P9.out.doc.cell
          have hz9 := HLEN2.out
          refine wp_region_later (by kernel_rfl) (by kernel_rfl) ?_
          repeat (go_big_quiet_step (first | (go_at_call 18; exact calls_later (count_st sb _ _ (Later.st P9.out.st _))) | (go_at_call 19; exact calls_later (kept_st sb _ _ (Later.st P9.out.st _))) | (go_at_call 24; exact calls_later (dkept_any _ mb _ _ _ (Later.doc P9.out.doc _) (by omega)))))
          refine wpQuiet_nil ?_
          intro _ hw'
          obtain ⟨nq, rfl⟩ := hw'
          go_wp2_with fail
          go_roundw
          case rel => exact ⟨i + 1, sb, mb, _, H2, o, by omega, rfl, rfl, rfl, rfl, by go_num, HLEN2.out, P9.out.below nq.below, L9.out.below nq.below (Nat.le_refl _), B9.out.trans (nq.below.mono B9.out.size)⟩
          case measure => (simp [intOf] <;> omega)
        · try rw [show ((1 : Nat) : Int) = 1 from rfl]
          go_upto_region 19 with fail
          have hlen2 := addH_len H ci ct
          have C17 := Lib.hid (fun (x : World) (h : St x sb H) (h1 : LibOk x) (h2 : Tab x) (h3 : Bru x) => add_st sb H x h ci ct hqs h1 h2 h3)
          have C21 := Lib.hid (fun (x : World) (h : DocSt x w.heap.size mb v H) => dadd_any w.heap.size mb v H x h (by omega) ci ct hqs)
          obtain ⟨X, hX⟩ : ∃ X, addX H ci ct = X := ⟨_, rfl⟩
          obtain ⟨H2, hH2⟩ : ∃ H2, addH H ci ct = H2 := ⟨_, rfl⟩
          rw [hX, hH2] at C17 C21
          rw [hH2] at hlen2
          clear hX hH2
          have HLEN2 : Hid (H2.length ≤ i + 1) := by show _ ≤ _; omega
          have PD := Lib.hid (Pb.out.below ((Below.refl wb.heap.size wb).drew))
          have BD := Lib.hid (Bb.out.drew)
          have KD : Hid (wb.drew.heap[kb]? = some (.cells #[.int .i64 kd, .int .i64 ci, .string ct] 42 (0, 0))) := Kb.out
          have LD := Lib.hid ((Lb.out.below ((Below.refl wb.heap.size wb).drew) (Nat.le_succ i)))
          obtain ⟨kq0, kq1, kq2⟩ := three Kb.out
          go_region_held3 (fun w' => w'.cell? ⟨kb, 1, none⟩ = some (.int .i64 ci) ∧ w'.cell? ⟨kb, 2, none⟩ = some (.string ct))
            (first | go_keep | (refine ⟨?_, ?_⟩ <;> assumption))
            (first
              | (go_at_call 17; (with_reducible refine Calls.mono (C17.out _ PD.out.st (HL.out.below BD.out) (HT.out.below BD.out) (HD.out.below BD.out)) ?_); rintro e w8 ⟨rfl, hs8, hf8⟩; have S8 := Lib.hid hs8; have F8 := Lib.hid hf8; obtain ⟨m0, m1, m2⟩ := three (only_42 PD.out.st hf8 KD.out); clear hs8 hf8)
              | (go_at_call 21; (with_reducible refine Calls.mono (C21.out _ (pr_doc PD.out F8.out)) ?_); intro e w9 hd; obtain ⟨rfl, v9, hp9, hb9, hl9, hk9⟩ := pr_add PD.out S8.out F8.out hd; have P9 := Lib.hid hp9; have B9 := Lib.hid (BD.out.trans hb9); have L9 := Lib.hid (hl9 _ _ LD.out); obtain ⟨m0, m1, m2⟩ := three (hk9 _ _ _ KD.out); clear hd hp9 hb9 hl9 hk9))
          go_upto_region 37 with fail
          obtain ⟨ya, yc, hvz⟩ := own_slice P9.out.doc.own
          subst hvz
          have c0 := Later.cell P9.out.doc.cell
          have hz9 := HLEN2.out
          refine wp_region_later (by kernel_rfl) (by kernel_rfl) ?_
          repeat (go_big_quiet_step (first | (go_at_call 18; exact calls_later (count_st sb _ _ (Later.st P9.out.st _))) | (go_at_call 19; exact calls_later (kept_st sb _ _ (Later.st P9.out.st _))) | (go_at_call 24; exact calls_later (dkept_any _ mb _ _ _ (Later.doc P9.out.doc _) (by omega)))))
          refine wpQuiet_nil ?_
          intro _ hw'
          obtain ⟨nq, rfl⟩ := hw'
          go_wp2_with fail
          go_roundw
          case rel => exact ⟨i + 1, sb, mb, _, H2, o, by omega, rfl, rfl, rfl, rfl, by go_num, HLEN2.out, P9.out.below nq.below, L9.out.below nq.below (Nat.le_refl _), B9.out.trans (nq.below.mono B9.out.size)⟩
          case measure => (simp [intOf] <;> omega)
        · try rw [show ((2 : Nat) : Int) = 2 from rfl]
          obtain ⟨a0, a1, a2⟩ := three Kb.out
          obtain ⟨u, m, hu⟩ := getV_form H ci
          have C20 := Lib.hid (fun (x : World) (h : St x sb H) (h1 : LibOk x) (h2 : Tab x) => get_st sb H x h ci h1 h2)
          have C22 := Lib.hid (fun (x : World) (h : DocSt x w.heap.size mb v H) => dget_any w.heap.size mb v H x h (by omega) ci)
          rw [hu] at C20 C22
          clear hu
          have Lc := Lib.hid (Lb.out.mono (Nat.le_succ i))
          have HLc : Hid (H.length ≤ i + 1) := by show _ ≤ _; omega
          go_upto_region 37 with (first
            | (go_at_call 20; (with_reducible refine Calls.mono (C20.out _ Pb.out.st (HL.out.below Bb.out) (HT.out.below Bb.out)) ?_); rintro e wd ⟨rfl, hb6⟩; have Pd := Lib.hid (Pb.out.below hb6); have Ld := Lib.hid (Lc.out.below hb6 (Nat.le_refl _)); have Bd := Lib.hid (Bb.out.trans (hb6.mono Bb.out.size)); obtain ⟨b0, b1, b2⟩ := three ((hb6.block kb (lt_of_heap Kb.out)).trans Kb.out); clear hb6)
            | (go_at_call 22; (with_reducible refine Calls.mono (C22.out _ Pd.out.doc) ?_); rintro e we ⟨rfl, hb7⟩; have Pe := Lib.hid (Pd.out.below hb7); have Le := Lib.hid (Ld.out.below hb7 (Nat.le_refl _)); have Be := Lib.hid (Bd.out.trans (hb7.mono Bd.out.size)); clear hb7))
          obtain ⟨ya, yc, hvz⟩ := own_slice Pe.out.doc.own
          subst hvz
          have c0 := Later.cell Pe.out.doc.cell
          have hz9 := HLc.out
          refine wp_region_later (by kernel_rfl) (by kernel_rfl) ?_
          repeat (go_big_quiet_step (first | (go_at_call 18; exact calls_later (count_st sb _ _ (Later.st Pe.out.st _))) | (go_at_call 19; exact calls_later (kept_st sb _ _ (Later.st Pe.out.st _))) | (go_at_call 24; exact calls_later (dkept_any _ mb _ _ _ (Later.doc Pe.out.doc _) (by omega)))))
          refine wpQuiet_nil ?_
          intro _ hw'
          obtain ⟨nq, rfl⟩ := hw'
          go_wp2_with fail
          go_roundw
          case rel => exact ⟨i + 1, sb, mb, _, H, o, by omega, rfl, rfl, rfl, rfl, by go_num, HLc.out, Pe.out.below nq.below, Le.out.below nq.below (Nat.le_refl _), Be.out.trans (nq.below.mono Be.out.size)⟩
          case measure => (simp [intOf] <;> omega)
        · try rw [show ((3 : Nat) : Int) = 3 from rfl]
          have C23 := Lib.hid (fun (x : World) (h : St x sb H) => copy_st sb H x h)
          have HLc : Hid (H.length ≤ i + 1) := by show _ ≤ _; omega
          have hlm : H.length ≤ 80 := by omega
          go_upto_region 30 with (go_at_call 23; (with_reducible refine Calls.mono (C23.out _ Pb.out.st) ?_); intro e wd hcc; obtain ⟨sn, hsn⟩ : ∃ sn, wb.heap.size = sn := ⟨_, rfl⟩; rw [hsn] at hcc; obtain ⟨rfl, hsd, hbd⟩ := hcc; have SD := Lib.hid hsd; have BDD : Hid (Below wb.heap.size wb wd) := (by rw [hsn]; exact hbd); have HSN := Lib.hid hsn.symm; clear hsd hbd hsn)
          have Pd := Lib.hid (Pb.out.below BDD.out)
          have hwb : w.heap.size ≤ wd.heap.size := Nat.le_trans Bb.out.size BDD.out.size
          rcases Pd.out.doc.own.2 with ⟨hv, h0⟩ | ⟨g, cap, cur, hv, _, _, _⟩
          · subst hv
            obtain rfl : H = [] := List.eq_nil_of_length_eq_zero h0
            have hcm := Pd.out.doc.cell
            have hown0 : Hid (wd.ownsRow w.heap.size 22 1 (.slice none 0 0) ([] : List (List UInt8)).length (([] : List (List UInt8)).map strV)) := Pd.out.doc.own
            go_upto_region 37 with (at_builtin; refine wpList_append_own_none rfl _ _ _ rfl w.heap.size 22 i0 1 Tryd.underlying31 hi0 (.slice none 0 0) 0 [] rfl (World.ownsRow_nil _ _ _ _) rfl ?_)
            obtain ⟨pz, bz, lz⟩ := pr_copy (n := i + 1) (by omega) Pb.out HSN.out SD.out BDD.out hown0.out (Below.refl _ _) (.inl rfl)
            have PZ := Lib.hid pz
            have BZ := Lib.hid (Bb.out.trans (bz.mono Bb.out.size))
            have LZ := Lib.hid lz
            clear pz bz lz
            generalize wd.alloc (.cells #[.slice none 0 0] 40) = wz at PZ BZ LZ ⊢
            generalize wd.heap.size = mz at PZ LZ ⊢

            have c0 := Later.cell PZ.out.doc.cell
            have hz9 := HLc.out
            refine wp_region_later (by kernel_rfl) (by kernel_rfl) ?_
            repeat (go_big_quiet_step (first | (go_at_call 18; exact calls_later (count_st sn _ _ (Later.st PZ.out.st _))) | (go_at_call 19; exact calls_later (kept_st sn _ _ (Later.st PZ.out.st _))) | (go_at_call 24; exact calls_later (dkept_any _ mz _ _ _ (Later.doc PZ.out.doc _) (by omega)))))
            refine wpQuiet_nil ?_
            intro _ hw'
            obtain ⟨nq, rfl⟩ := hw'
            go_wp2_with fail
            go_roundw
            case rel => exact ⟨i + 1, sn, mz, _, [], (some (sb, mb)), by omega, rfl, rfl, rfl, rfl, by go_num, HLc.out, PZ.out.below nq.below, LZ.out.below nq.below (Nat.le_refl _), BZ.out.trans (nq.below.mono BZ.out.size)⟩
            case measure => (simp [intOf] <;> omega)
          · subst hv
            have hcm := Pd.out.doc.cell
            go_upto_region 37 with (at_builtin; refine wpList_append_own_at _ rfl _ _ _ rfl w.heap.size 22 i0 _ 1 16 Tryd.underlying31 hi0 hz0 hz1 hz2 rfl (by omega) (.slice none 0 0) 0 [] rfl (World.ownsRow_nil _ _ _ _) ⟨g, 0, none⟩ H.length cap (H.map strV) rfl (by simp) (Pd.out.doc.own.cells (g := g) rfl) (by intro x hx; obtain ⟨y, _, rfl⟩ := List.mem_map.1 hx; rfl) (by unfold maxLen; omega) (by omega) hwb ?_; intro v' w6 hown6 hgrow6 _ hat6; have HOWN : Hid (w6.ownsRow w.heap.size 22 1 v' H.length (H.map strV)) := Lib.hid (by simpa using hown6); have HG6 : Hid (Below wd.heap.size wd w6) := (Below.refl _ _).grown hgrow6 (Nat.le_refl _) (fun k hk => by simp [Value.ownBlock] at hk); have HAT : Hid (v'.ownBlock = none ∨ v'.ownBlock = some wd.heap.size) := hat6; obtain ⟨va', vc', hvv⟩ := own_slice HOWN.out; subst hvv; clear hown6 hgrow6 hat6)
            obtain ⟨pz, bz, lz⟩ := pr_copy (n := i + 1) (by omega) Pb.out HSN.out SD.out BDD.out HOWN.out HG6.out HAT.out
            have PZ := Lib.hid pz
            have BZ := Lib.hid (Bb.out.trans (bz.mono Bb.out.size))
            have LZ := Lib.hid lz
            clear pz bz lz
            generalize w6.alloc (.cells #[.slice va' H.length vc'] 40) = wz at PZ BZ LZ ⊢
            generalize w6.heap.size = mz at PZ LZ ⊢

            have c0 := Later.cell PZ.out.doc.cell
            have hz9 := HLc.out
            refine wp_region_later (by kernel_rfl) (by kernel_rfl) ?_
            repeat (go_big_quiet_step (first | (go_at_call 18; exact calls_later (count_st sn _ _ (Later.st PZ.out.st _))) | (go_at_call 19; exact calls_later (kept_st sn _ _ (Later.st PZ.out.st _))) | (go_at_call 24; exact calls_later (dkept_any _ mz _ _ _ (Later.doc PZ.out.doc _) (by omega)))))
            refine wpQuiet_nil ?_
            intro _ hw'
            obtain ⟨nq, rfl⟩ := hw'
            go_wp2_with fail
            go_roundw
            case rel => exact ⟨i + 1, sn, mz, _, H, (some (sb, mb)), by omega, rfl, rfl, rfl, rfl, by go_num, HLc.out, PZ.out.below nq.below, LZ.out.below nq.below (Nat.le_refl _), BZ.out.trans (nq.below.mono BZ.out.size)⟩
            case measure => (simp [intOf] <;> omega)
        · try rw [show ((4 : Nat) : Int) = 4 from rfl]
          have HLc : Hid (H.length ≤ i + 1) := by show _ ≤ _; omega
          have Lc := Lib.hid (Lb.out.mono (Nat.le_succ i))
          cases o with
          | none =>
            unfold lvV kvV
            try dsimp only
            go_upto_region 37 with fail
            obtain ⟨ya, yc, hvz⟩ := own_slice Pb.out.doc.own
            subst hvz
            have c0 := Later.cell Pb.out.doc.cell
            have hz9 := HLc.out
            refine wp_region_later (by kernel_rfl) (by kernel_rfl) ?_
            repeat (go_big_quiet_step (first | (go_at_call 18; exact calls_later (count_st sb _ _ (Later.st Pb.out.st _))) | (go_at_call 19; exact calls_later (kept_st sb _ _ (Later.st Pb.out.st _))) | (go_at_call 24; exact calls_later (dkept_any _ mb _ _ _ (Later.doc Pb.out.doc _) (by omega)))))
            refine wpQuiet_nil ?_
            intro _ hw'
            obtain ⟨nq, rfl⟩ := hw'
            go_wp2_with fail
            go_roundw
            case rel => exact ⟨i + 1, sb, mb, _, H, none, by omega, rfl, rfl, rfl, rfl, by go_num, HLc.out, Pb.out.below nq.below, Lc.out.below nq.below (Nat.le_refl _), Bb.out.trans (nq.below.mono Bb.out.size)⟩
            case measure => (simp [intOf] <;> omega)
          | some ab =>
            obtain ⟨a', b'⟩ := ab
            obtain ⟨v', H', hn', hp', hl'⟩ := pr_swap (by omega) Pb.out Lc.out
            have P' := Lib.hid hp'
            have L' := Lib.hid hl'
            have HL' : Hid (H'.length ≤ i + 1) := hn'
            clear hp' hl' hn'
            unfold lvV kvV
            try dsimp only
            go_upto_region 37 with fail
            obtain ⟨ya, yc, hvz⟩ := own_slice P'.out.doc.own
            subst hvz
            have c0 := Later.cell P'.out.doc.cell
            have hz9 := HL'.out
            refine wp_region_later (by kernel_rfl) (by kernel_rfl) ?_
            repeat (go_big_quiet_step (first | (go_at_call 18; exact calls_later (count_st a' _ _ (Later.st P'.out.st _))) | (go_at_call 19; exact calls_later (kept_st a' _ _ (Later.st P'.out.st _))) | (go_at_call 24; exact calls_later (dkept_any _ b' _ _ _ (Later.doc P'.out.doc _) (by omega)))))
            refine wpQuiet_nil ?_
            intro _ hw'
            obtain ⟨nq, rfl⟩ := hw'
            go_wp2_with fail
            go_roundw
            case rel => exact ⟨i + 1, a', b', _, H', (some (sb, mb)), by omega, rfl, rfl, rfl, rfl, by go_num, HL'.out, P'.out.below nq.below, L'.out.below nq.below (Nat.le_refl _), Bb.out.trans (nq.below.mono Bb.out.size)⟩
            case measure => (simp [intOf] <;> omega)
    · obtain rfl : i = ops.length := by omega
      go_wp2_with (go_at_call 14; (with_reducible refine Calls.mono (works_any _ (HL.out.below hB.out) (HT.out.below hB.out) (HD.out.below hB.out)) ?_); rintro e w4 ⟨rfl, hb4⟩; have B4 := Lib.hid (hB.out.trans (hb4.mono hBs)); clear hb4)
      go_ret
      exact ⟨rfl, B4.out⟩
end Go.Proofs.YtnaodgljdbkmnaaDoor
