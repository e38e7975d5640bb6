/- seed: the document's Add. -/
import Derived.Test.YtnaodgljdbkmnaaDoorSeedJ
import Derived.Deep.AppendLies
namespace Go.Proofs.YtnaodgljdbkmnaaDoor
set_option linter.unusedVariables false
open Go.RowKit
/-- the blocks of the document's store -/
def DocS (mb : Nat) (v : Value) : Nat → Prop := fun x => x = mb ∨ v.ownBlock = some x
/-- what the document's Add leaves -/
def DAddPost (base mb : Nat) (v : Value) (H' : List (List UInt8)) (x : Int) (w : World) (e : Ending) (w' : World) : Prop :=
  e = .returned (.int .i64 x) ∧ ∃ v', DocSt w' base mb v' H' ∧ (v'.ownBlock = v.ownBlock ∨ ∃ g, v'.ownBlock = some g ∧ w.heap.size ≤ g) ∧ Fr (DocS mb v) w w'
theorem dadd_same {w w' : World} {base mb : Nat} {v : Value} {H : List (List UInt8)} {x : Int} {e : Ending} (h : DocSt w base mb v H) (he : e = .returned (.int .i64 x)) (hb : Below w.heap.size w w') : DAddPost base mb v H x w e w' :=
  ⟨he, v, h.below hb, .inl rfl, Fr.below hb⟩
theorem own_ne {w : World} {base size n b : Nat} {v : Value} {xs : List Value} {t : TypeId} {cs : Array Value} {fr : Nat × Nat} (h : w.ownsRow base 22 size v n xs) (hb : w.heap[b]? = some (.cells cs t fr)) (ht : t ≠ 22) : ∀ g, v.ownBlock = some g → g ≠ b := by
  rintro g hg rfl
  rcases h.2 with ⟨rfl, _⟩ | ⟨g', cap, cur, rfl, _, hgg, _⟩
  · cases hg
  · simp only [Value.ownBlock, Option.some.injEq] at hg
    subst hg
    rw [hb] at hgg
    injection hgg with hgg
    injection hgg with _ hgg
    exact ht hgg
theorem makes_from {H : List (List UInt8)} {t : List UInt8} {i j k : Nat} (hk : lowP i = k) (hlow : lowest H = i + 1) (hA : ∀ p, lowest H ≤ p → p < j → p ≤ TOP → keptP (lowest H) p → inB k i p → onO t p k = some (valP H p)) (hij : i < j) (hx : TOP < j ∨ ¬ inB k i j) : Makes H i t := by
  intro p h1 h2 h3 h4
  rw [hk] at h4 ⊢
  rcases Nat.lt_or_ge p j with h | h
  · exact hA p h1 h h2 h3 h4
  · exfalso
    rcases hx with hx | hx
    · omega
    · refine hx ((inB_iff (by rw [← hk]; exact low_mod i)).2 ⟨by omega, ?_⟩)
      have := (inB_iff (by rw [← hk]; exact low_mod i)).1 h4
      omega
theorem below_new8 (w : World) (o : Obj) : Below w.heap.size w (w.alloc o) := (Below.refl _ _).alloc (Nat.le_refl _) _
theorem dadd_fin {w W w2 : World} {base mb : Nat} {va : Option Addr} {vc : Nat} {H : List (List UInt8)} {t : ByteArray} {g cap : Nat} (h : DocSt w base mb (.slice va H.length vc) H) (hB : Below w.heap.size w W)
    (hown : w2.ownsRow base 22 1 (.slice (some ⟨g, 0, none⟩) (H.length + 1) cap) (H.length + 1) (H.map strV ++ [.string t])) (hgrow : (W.alloc (.cells #[.string t] 22)).grownBy w2 (Value.slice va H.length vc).ownBlock)
    (hat : (Value.slice va H.length vc).ownBlock = some g ∨ g = W.heap.size + 1) {e : Ending} (he : e = .returned (.int .i64 0)) :
    DAddPost base mb (.slice va H.length vc) (H ++ [t.data.toList]) 0 w e (w2.setCell ⟨mb, 0, none⟩ (.slice (some ⟨g, 0, none⟩) (H.length + 1) cap)) := by
  have hBA : Below w.heap.size w (W.alloc (.cells #[.string t] 22)) := hB.alloc hB.size _
  have hA := h.below hBA
  have hne := own_ne hA.own hA.mbk (by decide)
  have hmbl := lt_of_heap hA.mbk
  have hmb2 : w2.heap[mb]? = some (.cells #[.slice va H.length vc] 40 (0, 0)) := (hgrow.block mb hmbl (fun e => hne mb e.symm rfl)).trans hA.mbk
  have hm0 := lt_of_heap h.mbk
  have hgm : g ≠ mb := by
    rcases hat with hat | hat
    · exact hne g hat
    · have := hB.size; omega
  have hs2 : (w2.setCell ⟨mb, 0, none⟩ (.slice (some ⟨g, 0, none⟩) (H.length + 1) cap)).heap[mb]? = some (.cells #[.slice (some ⟨g, 0, none⟩) (H.length + 1) cap] 40 (0, 0)) := by
    rw [heap_setCell_same _ mb 0 _ 40 _ hmb2]; rfl
  refine ⟨he, .slice (some ⟨g, 0, none⟩) (H.length + 1) cap, ⟨hs2, ?_, h.h1⟩, ?_, ?_⟩
  · rw [List.length_append, List.map_append, show [t.data.toList].map strV = [.string t] by simp only [List.map_cons, List.map_nil, strV, ba_back]]
    exact own_blocks hown fun k hk => by
      simp only [Value.ownBlock, Option.some.injEq] at hk
      subst hk
      exact heap_setCell_other _ _ _ _ hgm
  · rcases hat with hat | hat
    · exact .inl (by rw [hat]; rfl)
    · exact .inr ⟨g, rfl, by have := hB.size; omega⟩
  · have f1 : Fr (DocS mb (.slice va H.length vc)) w w2 := ⟨hgrow.os.trans hBA.os, hgrow.tape.trans hBA.tape, hgrow.output.trans hBA.output, Nat.le_trans hBA.size hgrow.size, fun k hk hs =>
      (hgrow.block k (Nat.lt_of_lt_of_le hk hBA.size) (fun e => hs (.inr e.symm))).trans (hBA.block k hk)⟩
    exact f1.set mb 0 _ (.inl rfl)
set_option maxRecDepth 100000 in
set_option maxHeartbeats 8000000 in
/-- the document's Add -/
theorem dadd_any (base mb : Nat) (v : Value) (H : List (List UInt8)) (w : World) (h : DocSt w base mb v H) (hl : H.length ≤ 1000) (i : Int) (t : ByteArray) (ht : t.size ≤ maxLen) : Calls Tryd.prog 21 #[.pointer (some ⟨mb, 0, none⟩), .int .i64 i, .string t] w (DAddPost base mb v (addH H i t) (addX H i t) w) := by
  have hTOP : TOP = 1048575 := rfl
  obtain ⟨va, vc, rfl⟩ := own_slice h.own
  have hc := h.cell
  have HS := Lib.hid h
  by_cases h1 : i < 0 ∨ i ≠ 1048575 - (H.length : Int)
  · have e : addX H i t = 2 := by unfold addX; rw [if_pos h1]
    have e' : addH H i t = H := by unfold addH; rw [if_neg (by rw [e]; decide)]
    rw [e, e']
    clear e e' h
    by_cases h0 : i < 0
    · clear h1
      have h0b : decide (i < 0) = true := by simpa using h0
      go_enter Tryd.func21, Tryd.ntmps21
      go_wp2_with fail
      go_ret
      exact dadd_same HS.out rfl (Below.refl _ _)
    · have h1b : (i != 1048575 - (H.length : Int)) = true := by simpa using h1.resolve_left h0
      have h0' : 0 ≤ i := by omega
      clear h1
      go_enter Tryd.func21, Tryd.ntmps21
      go_wp2_with fail
      go_ret
      exact dadd_same HS.out rfl (Below.refl _ _)
  · have h0 : 0 ≤ i := by omega
    have h2 : i = 1048575 - (H.length : Int) := by omega
    have h1b : (i != 1048575 - (H.length : Int)) = false := by simpa using h2
    have HR : Hid (∀ W, Calls Tryd.prog 44 #[.string t] W fun e w' => e = .returned (.bool (rt t)) ∧ Below W.heap.size W w') := fun W => rright_any t W ht
    cases hr : rt t with
    | false =>
      rw [hr] at HR
      have e : addX H i t = 10 := by unfold addX; rw [if_neg h1, if_pos hr]
      have e' : addH H i t = H := by unfold addH; rw [if_neg (by rw [e]; decide)]
      rw [e, e']
      clear e e' h h1 h2
      go_enter Tryd.func21, Tryd.ntmps21
      go_wp2_with (go_at_call 44; (with_reducible refine Calls.mono (HR.out _) ?_); rintro e w1 ⟨rfl, hb1⟩; have B1 := Lib.hid hb1; clear hb1)
      go_ret
      exact dadd_same HS.out rfl B1.out
    | true =>
      rw [hr] at HR
      obtain ⟨n, hn⟩ : ∃ n, TOP - H.length = n := ⟨_, rfl⟩
      have hin : i = (n : Int) := by omega
      subst hin
      have hlow : lowest H = n + 1 := by unfold lowest; omega
      have EY : Hid (Makes H n t.data.toList → addX H n t = 0 ∧ addH H n t = H ++ [t.data.toList]) := fun hM => by
        have e : addX H n t = 0 := by
          unfold addX
          rw [if_neg h1, if_neg (by rw [hr]; decide), hn, if_pos hM]
        exact ⟨e, by unfold addH; rw [if_pos e]⟩
      have EN : Hid (¬ Makes H n t.data.toList → addX H n t = 150 ∧ addH H n t = H) := fun hM => by
        have e : addX H n t = 150 := by
          unfold addX
          rw [if_neg h1, if_neg (by rw [hr]; decide), hn, if_neg hM]
        exact ⟨e, by unfold addH; rw [if_neg (by rw [e]; decide)]⟩
      have hn9 : n ≤ 1048575 := by omega
      have hln : 1048576 - H.length = n + 1 := by omega
      have HLO := Lib.hid (fun W => rlow_any n W (by omega))
      have hk := low_le n
      obtain ⟨k, hkk⟩ : ∃ k, lowP n = k := ⟨_, rfl⟩
      rw [hkk] at HLO hk
      have HKK := Lib.hid hkk
      have HLOW := Lib.hid hlow
      have HKE := Lib.hid (fun W (j : Nat) (hj : j ≤ 1048575) => rkept_any j H.length W hj (by omega))
      rw [hln] at HKE
      have HON := Lib.hid (fun W (j : Nat) (hj : j ≤ 1048575) => ron_any t j k W hr (by omega) hk)
      have hk64 : (k : Int) ≤ 64 := by omega
      have HLEN : Hid (H.length + n = 1048575) := by show _ = _; omega
      have HI2 := Lib.hid h2
      have hl2 : (H.length : Int) ≤ 1000 := by omega
      have hlm : H.length ≤ maxLen := by unfold maxLen; omega
      have hcW : Hid (∀ W, Below w.heap.size w W → W.cell? ⟨mb, 0, none⟩ = some (.slice va H.length vc)) := fun W hW => (HS.out.below hW).cell
      obtain ⟨i0, hi0, hz0, hz1, hz2⟩ := info_parts Try.info22
      clear h h1 h2 hkk hlow hln hn
      have hmem : (w.heap.size : Nat) = w.heap.size := rfl
      go_enter Tryd.func21, Tryd.ntmps21
      have hmb9 : base ≤ w.heap.size := by have := HS.out.h1; have := lt_of_heap HS.out.mbk; omega
      go_wp2_with (first
        | (go_at_call 44; (with_reducible refine Calls.mono (HR.out _) ?_); rintro e w1 ⟨rfl, hb1⟩; have B1 := Lib.hid hb1; clear hb1)
        | (go_at_call 47; (with_reducible refine Calls.mono (HLO.out _) ?_); rintro e w2 ⟨rfl, hb2⟩; have B2 := Lib.hid (B1.out.trans (hb2.mono B1.out.size)); clear hb2))
      go_loopw [9] (fun jv wr => ∃ j : Nat, n + 1 ≤ j ∧ j ≤ 1048576 ∧ jv = .int .i64 j ∧ Hid (∀ p, lowest H ≤ p → p < j → p ≤ TOP → keptP (lowest H) p → inB k n p → onO t.data.toList p k = some (valP H p)) ∧ Hid (Below w.heap.size w wr)) (fun jv _ => 1048576 - (intOf jv).toNat)
      case atStart => exact ⟨n + 1, Nat.le_refl _, by omega, by go_num, (fun p h1 h2 => by have := HLOW.out; omega), B2.out⟩
      case round =>
        obtain ⟨j, hj1, hj2, rfl, hA, hB⟩ := hrel
        have hBs := hB.out.size
        have hcw := hcW.out wr hB.out
        have e1 : ((j : Int) / 2 ^ k) = ((j / 2 ^ k : Nat) : Int) := by simp
        have e2 : ((n : Int) / 2 ^ k) = ((n / 2 ^ k : Nat) : Int) := by simp
        have HE1 := Lib.hid e1
        have HE2 := Lib.hid e2
        clear e1 e2
        by_cases hlt : j ≤ 1048575
        · have hji : (j : Int) ≤ 1048575 := by omega
          by_cases hq : j / 2 ^ k = n / 2 ^ k
          · have hqb : (((j : Int) / 2 ^ k) == ((n : Int) / 2 ^ k)) = true := by rw [HE1.out, HE2.out, hq]; simp
            have HQ := Lib.hid hq
            clear hq
            have hKj := fun W => HKE.out W j hlt
            go_wp2_with fail
            refine wp_region_later (by kernel_rfl) (by kernel_rfl) ?_
            repeat (go_big_quiet_step (fail))
            refine wpQuiet_nil ?_
            intro _ hw'
            obtain ⟨nq, rfl⟩ := hw'
            have B8 := Lib.hid (hB.out.trans (nq.below.mono hBs))
            generalize nq.at_ = x8 at B8 ⊢
            clear nq
            clear hcw
            have hcx := hcW.out x8 B8.out
            have HC := Lib.hid (fun W => HON.out W j hlt)
            cases hkb : keptB (n + 1) j with
            | false =>
              rw [hkb] at hKj
              have HKj := Lib.hid hKj
              clear hKj
              go_wp2_with (go_at_call 48; (with_reducible refine Calls.mono (HKj.out _) ?_); rintro e w4 ⟨rfl, hb4⟩; have B4 := Lib.hid (B8.out.trans (hb4.mono B8.out.size)); clear hb4)
              go_roundw
              case rel => exact ⟨j + 1, by omega, by omega, by go_num, (fun p h1 h2 h3 h4 h5 => by
                rcases Nat.lt_or_ge p j with h | h
                · exact hA.out p h1 h h3 h4 h5
                · obtain rfl : p = j := by omega
                  have := (keptB_iff (n + 1) p).2 (by rw [← HLOW.out]; exact h4)
                  rw [hkb] at this; cases this), B4.out⟩
              case measure => (simp [intOf] <;> omega)
            | true =>
              rw [hkb] at hKj
              have HKj := Lib.hid hKj
              clear hKj
              have hkp : Hid (keptP (lowest H) j) := by rw [HLOW.out]; exact (keptB_iff (n + 1) j).1 hkb
              obtain ⟨j', hj'⟩ : ∃ j', TOP - j = j' := ⟨_, rfl⟩
              have hjl : j' < H.length := by have := HLEN.out; omega
              obtain ⟨u, hu⟩ : ∃ u, H[j']? = some u := ⟨_, List.getElem?_eq_getElem hjl⟩
              have hval : Hid (valP H j = u) := by
                show valP H j = u
                unfold valP
                rw [hj', List.getD_eq_getElem?_getD, hu]; rfl
              obtain ⟨g, cap, hform, hg0⟩ := HS.out.item hu
              cases hform
              have hcellW : Hid (∀ W, Below w.heap.size w W → W.cell? ⟨g, j', none⟩ = some (.string ⟨u.toArray⟩)) := fun W hW => (hW.cell (p := ⟨g, j', none⟩) (World.block_lt_of_cell? w _ hg0)).trans hg0
              have hjx : 1048575 - (j : Int) = (j' : Int) := by omega
              have hjli : (j' : Int) < (H.length : Int) := by omega
              unfold onV at HC
              cases ho : onO t.data.toList j k with
              | none =>
                rw [ho] at HC
                have HX := Lib.hid (EN.out (fun hM => by
                  have := hM j (by have := HLOW.out; omega) (by omega) hkp.out (by rw [HKK.out]; exact HQ.out.symm)
                  rw [HKK.out, ho] at this; cases this))
                go_wp2_with (first
                  | (go_at_call 48; (with_reducible refine Calls.mono (HKj.out _) ?_); rintro e w4 ⟨rfl, hb4⟩; have B4 := Lib.hid (B8.out.trans (hb4.mono B8.out.size)); clear hb4)
                  | (go_at_call 45; (with_reducible refine Calls.mono (HC.out _) ?_); rintro e w5 ⟨rfl, hb5⟩; have B5 := Lib.hid (B4.out.trans (hb5.mono B4.out.size)); have hc5 := hcW.out _ B5.out; clear hb5))
                go_ret
                show DAddPost _ _ _ (addH H n t) (addX H n t) _ _ _
                rw [HX.out.1, HX.out.2]
                exact dadd_same HS.out rfl B5.out
              | some y =>
                rw [ho] at HC
                by_cases hy : y = u
                · subst hy
                  go_wp2_with (first
                    | (go_at_call 48; (with_reducible refine Calls.mono (HKj.out _) ?_); rintro e w4 ⟨rfl, hb4⟩; have B4 := Lib.hid (B8.out.trans (hb4.mono B8.out.size)); have hg4 := hcellW.out _ B4.out; clear hb4)
                    | (go_at_call 45; (with_reducible refine Calls.mono (HC.out _) ?_); rintro e w5 ⟨rfl, hb5⟩; have B5 := Lib.hid (B4.out.trans (hb5.mono B4.out.size)); have hc5 := hcW.out _ B5.out; have hg5 := (hb5.cell (p := ⟨g, j', none⟩) (World.block_lt_of_cell? _ _ hg4)).trans hg4; clear hb5))
                  go_roundw
                  case rel => exact ⟨j + 1, by omega, by omega, by go_num, (fun p h1 h2 h3 h4 h5 => by
                    rcases Nat.lt_or_ge p j with h | h
                    · exact hA.out p h1 h h3 h4 h5
                    · obtain rfl : p = j := by omega
                      rw [hval.out]; exact ho), B5.out⟩
                  case measure => (simp [intOf] <;> omega)
                · have hyl := toList_ne (ba_ne hy)
                  have hyn := str_neq _ _ (ba_ne hy)
                  have hy1 : (y == u) = false := by simpa using hy
                  have hy2 : (y != u) = true := by simpa using hy
                  have HX := Lib.hid (EN.out (fun hM => by
                    have := hM j (by have := HLOW.out; omega) (by omega) hkp.out (by rw [HKK.out]; exact HQ.out.symm)
                    rw [HKK.out, ho, hval.out] at this; exact hy (Option.some.inj this)))
                  go_wp2_with (first
                    | (go_at_call 48; (with_reducible refine Calls.mono (HKj.out _) ?_); rintro e w4 ⟨rfl, hb4⟩; have B4 := Lib.hid (B8.out.trans (hb4.mono B8.out.size)); have hg4 := hcellW.out _ B4.out; clear hb4)
                    | (go_at_call 45; (with_reducible refine Calls.mono (HC.out _) ?_); rintro e w5 ⟨rfl, hb5⟩; have B5 := Lib.hid (B4.out.trans (hb5.mono B4.out.size)); have hc5 := hcW.out _ B5.out; have hg5 := (hb5.cell (p := ⟨g, j', none⟩) (World.block_lt_of_cell? _ _ hg4)).trans hg4; clear hb5))
                  go_ret
                  show DAddPost _ _ _ (addH H n t) (addX H n t) _ _ _
                  rw [HX.out.1, HX.out.2]
                  exact dadd_same HS.out rfl B5.out
          · have hqb : (((j : Int) / 2 ^ k) == ((n : Int) / 2 ^ k)) = false := by rw [HE1.out, HE2.out, beq_eq_false_iff_ne]; omega
            have HQ := Lib.hid hq
            clear hq
            go_wp2_with fail
            refine wp_region_later (by kernel_rfl) (by kernel_rfl) ?_
            repeat (go_big_quiet_step (fail))
            refine wpQuiet_nil ?_
            intro _ hw'
            obtain ⟨nq, rfl⟩ := hw'
            have B8 := Lib.hid (hB.out.trans (nq.below.mono hBs))
            generalize nq.at_ = x8 at B8 ⊢
            clear nq
            clear hcw
            have HX := Lib.hid (EY.out (makes_from HKK.out HLOW.out (fun p h1 h2 h3 h4 h5 => hA.out p h1 h2 h3 h4 h5) (by omega) (.inr (fun hin => HQ.out hin.symm))))
            have hcx := hcW.out x8 B8.out
            have z8 := B8.out.size
            go_wp2_with (at_builtin; refine wpList_append_lies _ rfl _ _ _ rfl base 22 i0 _ 1 16 Tryd.underlying31 hi0 hz0 hz1 hz2 rfl (by omega) (.slice va H.length vc) H.length (H.map strV) rfl (World.ownsRow.alloc (HS.out.below B8.out).own _) ⟨x8.heap.size, 0, none⟩ 1 1 [.string t] rfl rfl (World.news_of_block (cs := #[.string t]) (t := 22) (fr := (0, 0)) (heap_alloc_at x8 _)) (by simp [Value.oneCell']) (by omega) (by unfold maxLen; omega) (by omega) (by simp; have := hmb9; omega) (x8.heap.size + 1) (by simp) ?_; intro g cap w2 hown2 hgrow2 hat2 hlt2; have HDF := Lib.hid (dadd_fin HS.out B8.out hown2 hgrow2 hat2 rfl); have hD2 := ((HS.out.below B8.out).below (below_new8 x8 (.cells #[.string t] 22))); have hmb2 : w2.heap[mb]? = some (.cells #[.slice va H.length vc] 40 (0, 0)) := (hgrow2.block mb (lt_of_heap hD2.mbk) (fun e => own_ne hD2.own hD2.mbk (by decide) mb e.symm rfl)).trans hD2.mbk; have hc2 : w2.cell? ⟨mb, 0, none⟩ = some (.slice va H.length vc) := (by rw [cell_of_row _ _ _ _ _ _ hmb2]; rfl); have hf2 := frozen_of_row _ _ 0 _ _ hmb2; clear hown2 hgrow2 hat2 hmb2 hD2)
            go_ret
            show DAddPost _ _ _ (addH H n t) (addX H n t) _ _ _
            rw [HX.out.1, HX.out.2]
            exact HDF.out
        · have hji : (1048575 : Int) < (j : Int) := by omega
          have hjb : decide ((j : Int) ≤ 1048575) = false := by simpa using hji
          go_wp2_with fail
          refine wp_region_later (by kernel_rfl) (by kernel_rfl) ?_
          repeat (go_big_quiet_step (fail))
          refine wpQuiet_nil ?_
          intro _ hw'
          obtain ⟨nq, rfl⟩ := hw'
          have B8 := Lib.hid (hB.out.trans (nq.below.mono hBs))
          generalize nq.at_ = x8 at B8 ⊢
          clear nq
          clear hcw
          have HX := Lib.hid (EY.out (makes_from HKK.out HLOW.out (fun p h1 h2 h3 h4 h5 => hA.out p h1 h2 h3 h4 h5) (by omega) (.inl (by omega))))
          have hcx := hcW.out x8 B8.out
          have z8 := B8.out.size
          go_wp2_with (at_builtin; refine wpList_append_lies _ rfl _ _ _ rfl base 22 i0 _ 1 16 Tryd.underlying31 hi0 hz0 hz1 hz2 rfl (by omega) (.slice va H.length vc) H.length (H.map strV) rfl (World.ownsRow.alloc (HS.out.below B8.out).own _) ⟨x8.heap.size, 0, none⟩ 1 1 [.string t] rfl rfl (World.news_of_block (cs := #[.string t]) (t := 22) (fr := (0, 0)) (heap_alloc_at x8 _)) (by simp [Value.oneCell']) (by omega) (by unfold maxLen; omega) (by omega) (by simp; have := hmb9; omega) (x8.heap.size + 1) (by simp) ?_; intro g cap w2 hown2 hgrow2 hat2 hlt2; have HDF := Lib.hid (dadd_fin HS.out B8.out hown2 hgrow2 hat2 rfl); have hD2 := ((HS.out.below B8.out).below (below_new8 x8 (.cells #[.string t] 22))); have hmb2 : w2.heap[mb]? = some (.cells #[.slice va H.length vc] 40 (0, 0)) := (hgrow2.block mb (lt_of_heap hD2.mbk) (fun e => own_ne hD2.own hD2.mbk (by decide) mb e.symm rfl)).trans hD2.mbk; have hc2 : w2.cell? ⟨mb, 0, none⟩ = some (.slice va H.length vc) := (by rw [cell_of_row _ _ _ _ _ _ hmb2]; rfl); have hf2 := frozen_of_row _ _ 0 _ _ hmb2; clear hown2 hgrow2 hat2 hmb2 hD2)
          go_ret
          show DAddPost _ _ _ (addH H n t) (addX H n t) _ _ _
          rw [HX.out.1, HX.out.2]
          exact HDF.out
end Go.Proofs.YtnaodgljdbkmnaaDoor
