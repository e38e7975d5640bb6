/- a packet peeled, the document's, without a memory -/
import Derived.Test.YtbdimlppnhcicaaDoorOnM
namespace Go.Proofs.YtbdimlppnhcicaaDoor
set_option linter.unusedVariables false
open Go.RowKit
/-! onion: a packet peeled, the document's -/
set_option maxRecDepth 100000 in
set_option maxHeartbeats 16000000 in
theorem dpeel_nil (k pk : ByteArray) (w : World) (hk : k.size ≤ maxLen) (hpk : pk.size ≤ maxLen) : Calls Tryd.prog 19 #[.string k, .string pk, .pointer none] w fun e w' => e = .returned (peelV (peelE k pk none)) ∧ Below w.heap.size w w' := by
  have HR : Hid (∀ W, Below w.heap.size w W → Calls Tryd.prog 56 #[.string k] W fun e w' => e = .returned (.bool (rightB k.data.toList)) ∧ Below W.heap.size W w') := fun W hW => rright_any k W hk
  have HRT : Hid (rightB k.data.toList = rt k) := rfl
  obtain ⟨r, hr⟩ : ∃ r, rightB k.data.toList = r := ⟨_, rfl⟩
  obtain ⟨q, hq⟩ : ∃ q, op4 pk.data.toList = q := ⟨_, rfl⟩
  have HT : Hid (∀ W, Below w.heap.size w W → Calls Tryd.prog 66 #[.string pk, .int .i64 2] W (KidsPostN q 2 W)) := fun W hW => by rw [← hq]; exact dtuple_new pk 2 W _ (by omega) (dopenN pk W hpk)
  have HE0 : Hid (peelE k pk none = if r = false then (10, lay0, e0) else if isT q 2 = false then (220, lay0, e0) else peelQ k (q.vs.getD 0 e0) (q.vs.getD 1 e0) none) := by
    show _ = _
    unfold peelE firstK secK
    rw [hq, ← hr, HRT.out]
  have HQK : Hid (∀ c ∈ q.vs, c.size ≤ 16384) := by rw [← hq]; exact op4_kid pk.data.toList
  have HFK : Hid (firstK pk = q.vs.getD 0 e0) := by show _ = _; unfold firstK; rw [hq]
  rw [hr] at HR
  clear hr hq HRT hpk
  go_enter Tryd.func19, Tryd.ntmps19
  go_upto_region 1 with fail
  have CX := heap_alloc_at w (.cells #[.string ⟨#[]⟩, .int .i64 0, .int .i64 0, .string ⟨#[]⟩, .string ⟨#[]⟩, .string ⟨#[]⟩, .bool false] 44)
  have B0 := below_new' w (.cells #[.string ⟨#[]⟩, .int .i64 0, .int .i64 0, .string ⟨#[]⟩, .string ⟨#[]⟩, .string ⟨#[]⟩, .bool false] 44)
  have SX : Hid (LSt w w.heap.size 44 #[.string ⟨#[]⟩, .int .i64 0, .int .i64 0, .string ⟨#[]⟩, .string ⟨#[]⟩, .string ⟨#[]⟩, .bool false] (w.alloc (.cells #[.string ⟨#[]⟩, .int .i64 0, .int .i64 0, .string ⟨#[]⟩, .string ⟨#[]⟩, .string ⟨#[]⟩, .bool false] 44))) := ⟨B0, CX, Nat.le_refl _⟩
  clear CX B0
  generalize w.alloc (.cells #[.string ⟨#[]⟩, .int .i64 0, .int .i64 0, .string ⟨#[]⟩, .string ⟨#[]⟩, .string ⟨#[]⟩, .bool false] 44) = w0 at SX ⊢
  obtain ⟨xb, hxb⟩ : ∃ x, w.heap.size = x := ⟨_, rfl⟩
  have HXB := Lib.hid hxb
  rw [hxb] at SX ⊢
  clear hxb
  cases r with
  | false =>
    have HV : Hid ((if false = false then (10, lay0, e0) else if isT q 2 = false then (220, lay0, e0) else peelQ k (q.vs.getD 0 e0) (q.vs.getD 1 e0) none) = ((10 : Int), lay0, e0)) := if_pos rfl
    go_wp2_with (first | (go_at_call 56; (with_reducible refine Calls.mono (HR.out _ SX.out.bel) ?_); rintro e w1 ⟨rfl, hb⟩; have S1 := Lib.hid (SX.out.next hb); clear hb) | (with_reducible refine wpList_store_row rfl 44 (.tmp 6) (.tmp 24) rfl xb #[.string ⟨#[]⟩, .int .i64 0, .int .i64 0, .string ⟨#[]⟩, .string ⟨#[]⟩, .string ⟨#[]⟩, .bool false] rfl rfl 44 _ S1.out.x (by kernel_rfl) rfl (by simp [Value.oneCell']) ?_))
    have hl := run_loadVar_row (P := Tryd.prog) (w1.setRow xb #[.string ⟨#[]⟩, .int .i64 0, .int .i64 0, .string ⟨#[]⟩, .string ⟨#[]⟩, .string ⟨#[]⟩, .bool false]) xb 44 44 #[.string ⟨#[]⟩, .int .i64 0, .int .i64 0, .string ⟨#[]⟩, .string ⟨#[]⟩, .string ⟨#[]⟩, .bool false] (0, 0) _ (setRow_heap w1 xb _ _ 44 _ S1.out.x) Tryd.underlying44 rfl (by kernel_rfl)
    have BB := below_setRow S1.out.bel (by have := HXB.out; have := S1.out.hx; omega) #[.string ⟨#[]⟩, .int .i64 0, .int .i64 0, .string ⟨#[]⟩, .string ⟨#[]⟩, .string ⟨#[]⟩, .bool false]
    exact bodyPost_ret (results_cell_tmp Tryd.results19 _ _ _ rfl hl) rfl ⟨by rw [HE0.out, HV.out]; rfl, BB⟩
  | true =>
    obtain ⟨b, hb⟩ : ∃ b, isT q 2 = b := ⟨_, rfl⟩
    have HB := Lib.hid hb
    clear hb
    cases b with
    | false =>
      have HV : Hid ((if true = false then (10, lay0, e0) else if isT q 2 = false then (220, lay0, e0) else peelQ k (q.vs.getD 0 e0) (q.vs.getD 1 e0) none) = ((220 : Int), lay0, e0)) := (if_neg (by decide)).trans (if_pos HB.out)
      go_wp2_with (first | (go_at_call 56; (with_reducible refine Calls.mono (HR.out _ SX.out.bel) ?_); rintro e w1 ⟨rfl, hb⟩; have S1 := Lib.hid (SX.out.next hb); clear hb) | (go_at_call 66; (with_reducible refine Calls.mono (HT.out _ S1.out.bel) ?_); rintro e w2 ⟨hb, o2, k2, rfl, hs⟩; have S2 := Lib.hid (S1.out.next hb); clear hb hs; have hb := HB.out; rw [hb]) | (with_reducible refine wpList_store_row rfl 44 (.tmp 6) (.tmp 32) rfl xb #[.string ⟨#[]⟩, .int .i64 0, .int .i64 0, .string ⟨#[]⟩, .string ⟨#[]⟩, .string ⟨#[]⟩, .bool false] rfl rfl 44 _ S2.out.x (by kernel_rfl) rfl (by simp [Value.oneCell']) ?_))
      have hl := run_loadVar_row (P := Tryd.prog) (w2.setRow xb #[.string ⟨#[]⟩, .int .i64 0, .int .i64 0, .string ⟨#[]⟩, .string ⟨#[]⟩, .string ⟨#[]⟩, .bool false]) xb 44 44 #[.string ⟨#[]⟩, .int .i64 0, .int .i64 0, .string ⟨#[]⟩, .string ⟨#[]⟩, .string ⟨#[]⟩, .bool false] (0, 0) _ (setRow_heap w2 xb _ _ 44 _ S2.out.x) Tryd.underlying44 rfl (by kernel_rfl)
      have BB := below_setRow S2.out.bel (by have := HXB.out; have := S2.out.hx; omega) #[.string ⟨#[]⟩, .int .i64 0, .int .i64 0, .string ⟨#[]⟩, .string ⟨#[]⟩, .string ⟨#[]⟩, .bool false]
      exact bodyPost_ret (results_cell_tmp Tryd.results19 _ _ _ rfl hl) rfl ⟨by rw [HE0.out, HV.out]; rfl, BB⟩
    | true =>
      obtain ⟨l0, l1, hv⟩ := two_of (isT_vs HB.out)
      have HV0 : Hid ((if true = false then (10, lay0, e0) else if isT q 2 = false then (220, lay0, e0) else peelQ k (q.vs.getD 0 e0) (q.vs.getD 1 e0) none) = peelQ k l0 l1 none) := by
        show _ = _
        rw [if_neg (by decide), if_neg (by rw [HB.out]; decide), hv]
        rfl
      have HE := Lib.hid (HE0.out.trans HV0.out)
      have hl0 := HQK.out l0 (by rw [hv]; simp)
      have hl1 := HQK.out l1 (by rw [hv]; simp)
      have HF0 : Hid (firstK pk = l0) := by show _ = _; rw [HFK.out, hv]; rfl
      have HT2 : Hid (∀ W, Below w.heap.size w W → Calls Tryd.prog 66 #[.string pk, .int .i64 2] W fun e w' => Below W.heap.size W w' ∧ ∃ lb k, e = .returned (.tuple #[.slice (some ⟨lb, 0, none⟩) 2 k, .bool true]) ∧ W.heap.size ≤ lb ∧ w'.cell? ⟨lb, 0, none⟩ = some (.string l0) ∧ w'.cell? ⟨lb, 1, none⟩ = some (.string l1)) := fun W hW => (HT.out W hW).mono fun _ _ hk => kids_two hk HB.out hv
      have HO0 : Hid (∀ W, Below w.heap.size w W → Calls Tryd.prog 67 #[.string l0] W (OneForm (op4 l0.data.toList) W)) := fun W hW => dopen_any l0 W (lt_max hl0)
      have HO1 : Hid (∀ W, Below w.heap.size w W → Calls Tryd.prog 67 #[.string l1] W (OneForm (op4 l1.data.toList) W)) := fun W hW => dopen_any l1 W (lt_max hl1)
      have HG : Hid (∀ W, Below w.heap.size w W → Calls Tryd.prog 59 #[.string k, .string l0] W fun e w' => e = .returned (.tuple #[.string (agreeP k l0).1, .int .i64 (agreeP k l0).2]) ∧ Below W.heap.size W w') := fun W hW => (ragree_any k l0 W (lt_max hl0) hk).mono fun _ _ h => ⟨by rw [h.1, agreeV_P]; rfl, h.2⟩
      have HU : Hid (∀ W, Below w.heap.size w W → Calls Tryd.prog 68 #[.string (agreeP k l0).1, .string l1] W fun e w' => e = .returned (.tuple #[.string ((unboxO (agreeP k l0).1 l1).getD e0), .bool (unboxO (agreeP k l0).1 l1).isSome]) ∧ Below W.heap.size W w') := fun W hW => (runbox_any (agreeP k l0).1 l1 W (lt_max hl1)).mono fun _ _ h => ⟨by rw [h.1, unboxV_O], h.2⟩
      have HY : Hid (∀ W, Below w.heap.size w W → Calls Tryd.prog 69 #[.string ((unboxO (agreeP k l0).1 l1).getD e0)] W (LayPost (layO ((unboxO (agreeP k l0).1 l1).getD e0)) W)) := fun W hW => dlayer_any _ W (lt_max (unboxO_getD _ _))
      have HQ : Hid (peelQ k l0 l1 none = peelG (op4 l0.data.toList).op (op4 l1.data.toList).op l0 none (agreeP k l0).2 (agreeP k l0).1 (unboxO (agreeP k l0).1 l1).isSome (layO ((unboxO (agreeP k l0).1 l1).getD e0))) := by
        show _ = _
        unfold peelQ peelG peelH
        rw [peelB_F]
      clear hv hl0 hl1 HV0 HT HB HE0
      generalize layO ((unboxO (agreeP k l0).1 l1).getD e0) = Y at HY HQ
      generalize (unboxO (agreeP k l0).1 l1).getD e0 = t at HU HY
      generalize (unboxO (agreeP k l0).1 l1).isSome = uo at HU HQ
      obtain ⟨s, hs⟩ : ∃ s, (agreeP k l0).1 = s := ⟨_, rfl⟩
      obtain ⟨c, hc⟩ : ∃ s, (agreeP k l0).2 = s := ⟨_, rfl⟩
      rw [hs] at HG HU HQ
      rw [hc] at HG HQ
      clear hs hc
      generalize op4 l0.data.toList = q0 at HO0 HQ
      generalize op4 l1.data.toList = q1 at HO1 HQ
      obtain ⟨op0, n0, u0, vs0, b0⟩ := q0
      obtain ⟨op1, n1, u1, vs1, b1⟩ := q1
      simp only at HO0 HO1 HQ
      go_upto_region 6 with (first | (go_at_call 56; (with_reducible refine Calls.mono (HR.out _ SX.out.bel) ?_); rintro e w1 ⟨rfl, hb⟩; have S1 := Lib.hid (SX.out.next hb); clear hb) | (go_at_call 66; (with_reducible refine Calls.mono (HT2.out _ S1.out.bel) ?_); rintro e w2 ⟨hb, lb, k2, rfl, hlb, a0, a1⟩; have S2 := Lib.hid (S1.out.next hb); clear hb hlb))
      go_upto_region 7 with (go_at_call 67; (with_reducible refine Calls.mono (HO0.out _ S2.out.bel) ?_); rintro e w3 ⟨hb, oo, kk, rfl, hs⟩; have S3 := Lib.hid (S2.out.next hb); replace a0 := cell_later hb a0; replace a1 := cell_later hb a1; clear hb hs)
      have B3 := below_new' w3 (.cells #[.int .u8 op0, .int .i64 n0, .string u0, .slice oo vs0.length kk] 112)
      have P3 := Lib.hid (heap_alloc_at w3 (.cells #[.int .u8 op0, .int .i64 n0, .string u0, .slice oo vs0.length kk] 112))
      have S4 := Lib.hid (S3.out.next B3)
      replace a0 := cell_later B3 a0; replace a1 := cell_later B3 a1
      clear B3
      generalize w3.alloc (.cells #[.int .u8 op0, .int .i64 n0, .string u0, .slice oo vs0.length kk] 112) = w4 at P3 S4 a0 a1 ⊢
      generalize w3.heap.size = k10 at P3 ⊢
      go_upto_region 8 with (go_at_call 67; (with_reducible refine Calls.mono (HO1.out _ S4.out.bel) ?_); rintro e w5 ⟨hb, o2, kk2, rfl, hs⟩; have S5 := Lib.hid (S4.out.next hb); have P5 := Lib.hid ((hb.block _ (lt_of_heap P3.out)).trans P3.out); replace a0 := cell_later hb a0; replace a1 := cell_later hb a1; clear hb hs)
      have B5 := below_new' w5 (.cells #[.int .u8 op1, .int .i64 n1, .string u1, .slice o2 vs1.length kk2] 112)
      have P6 := (B5.block _ (lt_of_heap P5.out)).trans P5.out
      have Q6 := heap_alloc_at w5 (.cells #[.int .u8 op1, .int .i64 n1, .string u1, .slice o2 vs1.length kk2] 112)
      have S6 := Lib.hid (S5.out.next B5)
      replace a0 := cell_later B5 a0; replace a1 := cell_later B5 a1
      clear B5
      generalize w5.alloc (.cells #[.int .u8 op1, .int .i64 n1, .string u1, .slice o2 vs1.length kk2] 112) = w6 at P6 Q6 S6 a0 a1 ⊢
      generalize w5.heap.size = k12 at Q6 ⊢
      obtain ⟨g0, _, _, _⟩ := four P6
      obtain ⟨f0, _, _, _⟩ := four Q6
      clear P6 Q6 S5 S4 S3 S2 S1 SX P3 P5 HO0 HO1 HT2 HR
      by_cases h0 : op0 = 80
      case neg =>
        have HVE := Lib.hid (HE.out.trans (HQ.out.trans (if_pos (.inl h0))))
        have e1 : (op0 == 80) = false := by simpa using h0
        have e2 : ((op0 : Int) == 80) = false := by simp; omega
        have e3 : ¬ ((op0 : Int) = 80) := by omega
        clear h0 f0 a0 a1
        go_wp2_with (first | (with_reducible refine wpList_store_row rfl 44 (.tmp 6) (.tmp 55) rfl xb #[.string ⟨#[]⟩, .int .i64 0, .int .i64 0, .string ⟨#[]⟩, .string ⟨#[]⟩, .string ⟨#[]⟩, .bool false] rfl rfl 44 _ S6.out.x (by kernel_rfl) rfl (by simp [Value.oneCell']) ?_))
        have hl := run_loadVar_row (P := Tryd.prog) (w6.setRow xb #[.string ⟨#[]⟩, .int .i64 0, .int .i64 0, .string ⟨#[]⟩, .string ⟨#[]⟩, .string ⟨#[]⟩, .bool false]) xb 44 44 #[.string ⟨#[]⟩, .int .i64 0, .int .i64 0, .string ⟨#[]⟩, .string ⟨#[]⟩, .string ⟨#[]⟩, .bool false] (0, 0) _ (setRow_heap w6 xb _ _ 44 _ S6.out.x) Tryd.underlying44 rfl (by kernel_rfl)
        have BB := below_setRow S6.out.bel (by have := HXB.out; have := S6.out.hx; omega) #[.string ⟨#[]⟩, .int .i64 0, .int .i64 0, .string ⟨#[]⟩, .string ⟨#[]⟩, .string ⟨#[]⟩, .bool false]
        exact bodyPost_ret (results_cell_tmp Tryd.results19 _ _ _ rfl hl) rfl ⟨by rw [HVE.out]; rfl, BB⟩
      subst h0
      by_cases h1 : op1 = 66
      case neg =>
        have HVE := Lib.hid (HE.out.trans (HQ.out.trans (if_pos (.inr h1))))
        have e1 : (op1 == 66) = false := by simpa using h1
        have e2 : ((op1 : Int) == 66) = false := by simp; omega
        have e3 : ¬ ((op1 : Int) = 66) := by omega
        clear h1 a0 a1
        go_wp2_with (first | (with_reducible refine wpList_store_row rfl 44 (.tmp 6) (.tmp 55) rfl xb #[.string ⟨#[]⟩, .int .i64 0, .int .i64 0, .string ⟨#[]⟩, .string ⟨#[]⟩, .string ⟨#[]⟩, .bool false] rfl rfl 44 _ S6.out.x (by kernel_rfl) rfl (by simp [Value.oneCell']) ?_))
        have hl := run_loadVar_row (P := Tryd.prog) (w6.setRow xb #[.string ⟨#[]⟩, .int .i64 0, .int .i64 0, .string ⟨#[]⟩, .string ⟨#[]⟩, .string ⟨#[]⟩, .bool false]) xb 44 44 #[.string ⟨#[]⟩, .int .i64 0, .int .i64 0, .string ⟨#[]⟩, .string ⟨#[]⟩, .string ⟨#[]⟩, .bool false] (0, 0) _ (setRow_heap w6 xb _ _ 44 _ S6.out.x) Tryd.underlying44 rfl (by kernel_rfl)
        have BB := below_setRow S6.out.bel (by have := HXB.out; have := S6.out.hx; omega) #[.string ⟨#[]⟩, .int .i64 0, .int .i64 0, .string ⟨#[]⟩, .string ⟨#[]⟩, .string ⟨#[]⟩, .bool false]
        exact bodyPost_ret (results_cell_tmp Tryd.results19 _ _ _ rfl hl) rfl ⟨by rw [HVE.out]; rfl, BB⟩
      subst h1
      have HQ1 : Hid (peelE k pk none = peelH none l0 (peelF c s uo Y)) := HE.out.trans (HQ.out.trans (if_neg (by decide)))
      clear HE HQ
      have HHD : Hid (memHas none l0 = false) := rfl
      go_upto_region 10 with fail
      have S7 := S6
      clear g0 f0 S6
      obtain ⟨w7, hw7⟩ : ∃ x, w6 = x := ⟨_, rfl⟩
      rw [hw7] at S7 a0 a1 ⊢
      clear hw7
      have HQ2 : Hid (peelE k pk none = match peelF c s uo Y with | none => ((220 : Int), lay0, e0) | some (s, x) => if memFull none = true then (3, lay0, e0) else (0, x, s)) := HQ1.out.trans (if_neg (by rw [HHD.out]; decide))
      clear HQ1
      go_upto_region 18 with (first | (refine wp_loop_rounds 1 ?_; rw [rounds_succ]) | (go_at_call 59; (with_reducible refine Calls.mono (HG.out _ S7.out.bel) ?_); rintro e w8 ⟨rfl, hb⟩; have S8 := Lib.hid (S7.out.next hb); replace a0 := cell_later hb a0; replace a1 := cell_later hb a1; clear hb) | (go_at_call 68; (with_reducible refine Calls.mono (HU.out _ S8.out.bel) ?_); rintro e w9 ⟨rfl, hb⟩; have S9 := Lib.hid (S8.out.next hb); replace a0 := cell_later hb a0; clear hb a1) | (go_at_call 69; (with_reducible refine Calls.mono (HY.out _ S9.out.bel) ?_); rintro e w10 ⟨hb, ⟨xc, xa, xe, xp, xi, xl⟩, rfl, hx⟩; have S10 := Lib.hid (S9.out.next hb); have HXY := Lib.hid hx; replace a0 := cell_later hb a0; clear hb hx; dsimp only [Lay.cells, e0]))
      have B11 := below_new' w10 (.cells #[.string xc, .int .i64 xa, .int .i64 xe, .string xp, .string xi, .string ⟨#[]⟩, .bool xl] 44)
      have X11 := Lib.hid (heap_alloc_at w10 (.cells #[.string xc, .int .i64 xa, .int .i64 xe, .string xp, .string xi, .string ⟨#[]⟩, .bool xl] 44))
      have S11 := Lib.hid (S10.out.next B11)
      have NXB : Hid (xb < w10.heap.size) := lt_of_heap S10.out.x
      have NKB : Hid (w.heap.size ≤ w10.heap.size) := S10.out.bel.size
      replace a0 := cell_later B11 a0
      clear B11
      generalize w10.alloc (.cells #[.string xc, .int .i64 xa, .int .i64 xe, .string xp, .string xi, .string ⟨#[]⟩, .bool xl] 44) = w11 at X11 S11 a0 ⊢
      generalize w10.heap.size = nb at X11 NXB NKB ⊢
      clear S7 S8 S9 S10 HG HU HY
      by_cases hc : c = 0
      case neg =>
        have HVE : Hid (peelE k pk none = (220, lay0, e0)) := HQ2.out.trans (by unfold peelF; rw [if_neg (fun h => hc h.2)])
        have e1 : (c == 0) = false := by simpa using hc
        clear a0
        go_wp2_with (first | (with_reducible refine wpList_store_row rfl 44 (.tmp 6) (.tmp 112) rfl xb #[.string ⟨#[]⟩, .int .i64 0, .int .i64 0, .string ⟨#[]⟩, .string ⟨#[]⟩, .string ⟨#[]⟩, .bool false] rfl rfl 44 _ S11.out.x (by kernel_rfl) rfl (by simp [Value.oneCell']) ?_))
        have hl := run_loadVar_row (P := Tryd.prog) (w11.setRow xb #[.string ⟨#[]⟩, .int .i64 0, .int .i64 0, .string ⟨#[]⟩, .string ⟨#[]⟩, .string ⟨#[]⟩, .bool false]) xb 44 44 #[.string ⟨#[]⟩, .int .i64 0, .int .i64 0, .string ⟨#[]⟩, .string ⟨#[]⟩, .string ⟨#[]⟩, .bool false] (0, 0) _ (setRow_heap w11 xb _ _ 44 _ S11.out.x) Tryd.underlying44 rfl (by kernel_rfl)
        have BB := below_setRow S11.out.bel (by have := HXB.out; have := S11.out.hx; omega) #[.string ⟨#[]⟩, .int .i64 0, .int .i64 0, .string ⟨#[]⟩, .string ⟨#[]⟩, .string ⟨#[]⟩, .bool false]
        exact bodyPost_ret (results_cell_tmp Tryd.results19 _ _ _ rfl hl) rfl ⟨by rw [HVE.out]; rfl, BB⟩
      subst hc
      cases uo with
      | false =>
        have HVE : Hid (peelE k pk none = (220, lay0, e0)) := HQ2.out.trans (by unfold peelF; rw [if_neg (fun h => by cases h.1)])
        clear a0
        go_wp2_with (first | (with_reducible refine wpList_store_row rfl 44 (.tmp 6) (.tmp 112) rfl xb #[.string ⟨#[]⟩, .int .i64 0, .int .i64 0, .string ⟨#[]⟩, .string ⟨#[]⟩, .string ⟨#[]⟩, .bool false] rfl rfl 44 _ S11.out.x (by kernel_rfl) rfl (by simp [Value.oneCell']) ?_))
        have hl := run_loadVar_row (P := Tryd.prog) (w11.setRow xb #[.string ⟨#[]⟩, .int .i64 0, .int .i64 0, .string ⟨#[]⟩, .string ⟨#[]⟩, .string ⟨#[]⟩, .bool false]) xb 44 44 #[.string ⟨#[]⟩, .int .i64 0, .int .i64 0, .string ⟨#[]⟩, .string ⟨#[]⟩, .string ⟨#[]⟩, .bool false] (0, 0) _ (setRow_heap w11 xb _ _ 44 _ S11.out.x) Tryd.underlying44 rfl (by kernel_rfl)
        have BB := below_setRow S11.out.bel (by have := HXB.out; have := S11.out.hx; omega) #[.string ⟨#[]⟩, .int .i64 0, .int .i64 0, .string ⟨#[]⟩, .string ⟨#[]⟩, .string ⟨#[]⟩, .bool false]
        exact bodyPost_ret (results_cell_tmp Tryd.results19 _ _ _ rfl hl) rfl ⟨by rw [HVE.out]; rfl, BB⟩
      | true =>
        cases Y with
        | none =>
          have HVE : Hid (peelE k pk none = (220, lay0, e0)) := HQ2.out.trans (by unfold peelF; rw [if_pos ⟨rfl, rfl⟩]; rfl)
          clear a0
          go_wp2_with (first | (with_reducible refine wpList_store_row rfl 44 (.tmp 6) (.tmp 112) rfl xb #[.string ⟨#[]⟩, .int .i64 0, .int .i64 0, .string ⟨#[]⟩, .string ⟨#[]⟩, .string ⟨#[]⟩, .bool false] rfl rfl 44 _ S11.out.x (by kernel_rfl) rfl (by simp [Value.oneCell']) ?_))
          have hl := run_loadVar_row (P := Tryd.prog) (w11.setRow xb #[.string ⟨#[]⟩, .int .i64 0, .int .i64 0, .string ⟨#[]⟩, .string ⟨#[]⟩, .string ⟨#[]⟩, .bool false]) xb 44 44 #[.string ⟨#[]⟩, .int .i64 0, .int .i64 0, .string ⟨#[]⟩, .string ⟨#[]⟩, .string ⟨#[]⟩, .bool false] (0, 0) _ (setRow_heap w11 xb _ _ 44 _ S11.out.x) Tryd.underlying44 rfl (by kernel_rfl)
          have BB := below_setRow S11.out.bel (by have := HXB.out; have := S11.out.hx; omega) #[.string ⟨#[]⟩, .int .i64 0, .int .i64 0, .string ⟨#[]⟩, .string ⟨#[]⟩, .string ⟨#[]⟩, .bool false]
          exact bodyPost_ret (results_cell_tmp Tryd.results19 _ _ _ rfl hl) rfl ⟨by rw [HVE.out]; rfl, BB⟩
        | some y =>
          obtain rfl := HXY.out y rfl
          have HQ3 : Hid (peelE k pk none = if memFull none = true then (3, lay0, e0) else (0, ⟨xc, xa, xe, xp, xi, xl⟩, s)) := HQ2.out.trans (by unfold peelF; rw [if_pos ⟨rfl, rfl⟩]; rfl)
          clear HQ2 HXY
          have HVE : Hid (peelE k pk none = (0, ⟨xc, xa, xe, xp, xi, xl⟩, s)) := HQ3.out.trans (if_neg (by decide))
          clear a0
          go_upto_region 24 with fail
          have S12 := S11
          have X12 := X11
          obtain ⟨w12, hw12⟩ : ∃ x, w11 = x := ⟨_, rfl⟩
          rw [hw12] at S12 X12 ⊢
          have y5 := seven_five X12.out
          have z5 := seven_free X12.out 5
          go_upto_region 25 with fail
          clear y5 z5
          have hne : xb ≠ nb := by have := NXB.out; omega
          have X13 : Hid ((w12.setCell ⟨nb, 5, none⟩ (.string s)).heap[nb]? = some (.cells #[.string xc, .int .i64 xa, .int .i64 xe, .string xp, .string xi, .string s, .bool xl] 44 (0, 0))) := heap_setCell_same w12 nb 5 _ 44 _ X12.out
          have S13 : Hid (LSt w xb 44 #[.string ⟨#[]⟩, .int .i64 0, .int .i64 0, .string ⟨#[]⟩, .string ⟨#[]⟩, .string ⟨#[]⟩, .bool false] (w12.setCell ⟨nb, 5, none⟩ (.string s))) := ⟨S12.out.bel.setCell (p := ⟨nb, 5, none⟩) NKB.out _, (Below.heap_setCell _ _ _ _ hne).trans S12.out.x, S12.out.hx⟩
          generalize w12.setCell ⟨nb, 5, none⟩ (.string s) = w13 at X13 S13 ⊢
          go_wp2_with (first | (with_reducible refine wpList_load_row rfl 44 (.tmp 19) rfl nb rfl 44 _ (0, 0) _ X13.out Tryd.underlying44 rfl (by kernel_rfl) ?_) | (with_reducible refine wpList_store_row rfl 44 (.tmp 6) (.tmp 140) rfl xb #[.string xc, .int .i64 xa, .int .i64 xe, .string xp, .string xi, .string s, .bool xl] rfl rfl 44 _ S13.out.x (by kernel_rfl) rfl (by simp [Value.oneCell']) ?_))
          have hl := run_loadVar_row (P := Tryd.prog) (w13.setRow xb #[.string xc, .int .i64 xa, .int .i64 xe, .string xp, .string xi, .string s, .bool xl]) xb 44 44 #[.string xc, .int .i64 xa, .int .i64 xe, .string xp, .string xi, .string s, .bool xl] (0, 0) _ (setRow_heap w13 xb _ _ 44 _ S13.out.x) Tryd.underlying44 rfl (by kernel_rfl)
          exact bodyPost_ret (results_cell_tmp Tryd.results19 _ _ _ rfl hl) rfl ⟨by rw [HVE.out]; rfl, below_setRow S13.out.bel (by have := HXB.out; have := S13.out.hx; omega) _⟩
end Go.Proofs.YtbdimlppnhcicaaDoor
