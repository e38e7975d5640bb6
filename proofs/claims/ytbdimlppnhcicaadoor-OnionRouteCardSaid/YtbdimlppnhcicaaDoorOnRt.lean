/- onion: OnionRoute, walked -/
import Derived.Test.YtbdimlppnhcicaaDoorOnZ
namespace Go.Proofs.YtbdimlppnhcicaaDoor
set_option linter.unusedVariables false
open Go.RowKit
/-! onion: OnionRoute, walked -/
/-- what lies in cells stays -/
def KeepC (W w' : World) : Prop := ∀ (k : Nat) (cs : Array Value) (t : TypeId) (f : Nat × Nat), W.heap[k]? = some (Obj.cells cs t f) → w'.heap[k]? = some (Obj.cells cs t f)
theorem keepC_below {W w' : World} (h : Below W.heap.size W w') : KeepC W w' := fun k cs t f hk => (h.block k (lt_of_heap hk)).trans hk
theorem keepC_cell {W w' : World} (h : KeepC W w') {p : Addr} {v : Value} (hc : W.cell? p = some v) : w'.cell? p = some v := by
  cases hb : W.heap[p.block]? with
  | none => simp [World.cell?, hb] at hc
  | some o =>
    cases o with
    | cells cs t f =>
      have h2 := h _ cs t f hb
      simp only [World.cell?, hb] at hc
      simp only [World.cell?, h2]
      exact hc
    | _ => simp [World.cell?, hb] at hc
theorem StrsAt.keep {o : Option Addr} {S : List ByteArray} {W w' : World} (h : StrsAt o S W) (hk : KeepC W w') : StrsAt o S w' := by
  rcases h with h | ⟨b, off, h1, h2⟩
  · exact .inl h
  · exact .inr ⟨b, off, h1, fun k s hs => keepC_cell hk (h2 k s hs)⟩
theorem HopsAt.keep {o : Option Addr} {S : List Hp} {W w' : World} (h : HopsAt o S W) (hk : KeepC W w') : HopsAt o S w' := by
  rcases h with h | ⟨b, off, h1, h2⟩
  · exact .inl h
  · exact .inr ⟨b, off, h1, fun k s hs => ⟨fun j v hj => keepC_cell hk ((h2 k s hs).1 j v hj), (h2 k s hs).2⟩⟩
/-- what stays through a round: the keys, the drawn secrets, the hops -/
structure Rw (w : World) (g : Nat) (o1 o2 : Option Addr) (l : List Nat) (W : World) : Prop where
  k : StrsAt (some ⟨g, 0, none⟩) (rKeys l) W
  d : StrsAt o1 (rDrawn l) W
  h : HopsAt o2 (rHops l) W
  b : Below w.heap.size w W
theorem Rw.next {w W W' : World} {g : Nat} {o1 o2 : Option Addr} {l : List Nat} (h : Rw w g o1 o2 l W) (hb : Below W.heap.size W W') : Rw w g o1 o2 l W' := ⟨h.k.below hb, h.d.below hb, h.h.below hb, h.b.trans (hb.mono h.b.size)⟩
theorem seen_base {w : World} {a b sb mm : Nat} {L : List ByteArray} (h : SeenAt w b sb mm L) (hab : a ≤ b) : SeenAt w a sb mm L := ⟨h.s, h.map, Nat.le_trans hab h.h1, Nat.le_trans hab h.h2⟩
/-- a peel with a memory, in a round -/
theorem rw_peel {w W : World} {g sb mm : Nat} {o1 o2 : Option Addr} {l : List Nat} {L : List ByteArray} (h : Rw w g o1 o2 l W) (hs : SeenAt W w.heap.size sb mm L) (x p : ByteArray) (hl : L.length ≤ 10) (hx : x.size ≤ maxLen) (hp : p.size ≤ maxLen) (hL : LibOk w) (hT : Tab w) :
    Calls Tryd.prog 18 #[.string x, .string p, .pointer (some ⟨sb, 0, none⟩)] W fun e w' => e = .returned (peelV (peelE x p (some L))) ∧ Rw w g o1 o2 l w' ∧ SeenAt w' w.heap.size sb mm (peelM x p L) ∧ KeepC W w' :=
  (opeel_mem x p W w.heap.size sb mm L hs h.b.size (by omega) hx hp (hL.below h.b) (hT.below h.b)).mono fun e w' ⟨h1, h2, h3⟩ => by
    obtain ⟨es, c, hm, _⟩ := hs.map
    have hk : KeepC W w' := fun k cs t f hk => (h2.block k (lt_of_heap hk) (fun e => by rw [e, hm] at hk; cases hk)).trans hk
    have hb : Below w.heap.size w w' := ⟨h2.os.trans h.b.os, h2.tape.trans h.b.tape, h2.output.trans h.b.output, Nat.le_trans h.b.size h2.size, fun k hk => (h2.block k (Nat.lt_of_lt_of_le hk h.b.size) (fun e => by have := hs.h2; omega)).trans (h.b.block k hk)⟩
    exact ⟨h1, ⟨h.k.keep hk, h.d.keep hk, h.h.keep hk, hb⟩, h3, hk⟩
theorem strs_get {l : List Nat} {o : Option Addr} {w : World} (h : StrsAt o (rDrawn l) w) {i v : Nat} (hi : l[i]? = some v) : ∃ b off, o = some ⟨b, off, none⟩ ∧ w.cell? ⟨b, off + i, none⟩ = some (.string (nameS (v : Int))) := by
  have hne : rDrawn l ≠ [] := by
    intro h
    have h2 := rDrawn_at hi
    rw [h] at h2; cases h2
  obtain ⟨b, off, h1, h2⟩ := h.resolve_left hne
  exact ⟨b, off, h1, h2 i _ (rDrawn_at hi)⟩
set_option maxRecDepth 100000 in
set_option maxHeartbeats 32000000 in
theorem oroute_any (o : Option Addr) (l : List Nat) (c : Nat) (oth : Int) (w : World) (hS : NumsAt o l w) (hl : l.length ≤ maxLen) (ho2 : oth ≤ 9223372036854775807) (hL : LibOk w) (hT : Tab w) :
    Calls Tryd.prog 5 #[.slice o l.length c, .int .i64 oth] w fun e w' => e = .returned (.bool true) ∧ Below w.heap.size w w' := by
  have HW : Hid (∀ W, Below w.heap.size w W → Calls Tryd.prog 12 #[] W fun e w' => e = .returned (.bool true) ∧ Below W.heap.size W w') := fun W hW => works_onion W (hL.below hW) (hT.below hW)
  have HL := Lib.hid hL
  have HT := Lib.hid hT
  have HS := Lib.hid hS
  have hll : (l.length : Int) ≤ 9223372036854775807 := by unfold maxLen at hl; omega
  clear hL hT hS
  by_cases hb : l.length < 1 ∨ 20 < l.length
  · have hb2 : (l.length : Int) < 1 ∨ (20 : Int) < (l.length : Int) := by omega
    have HWR := Lib.hid (HW.out w (Below.refl _ _))
    clear hb
    go_enter Tryd.func5, Tryd.ntmps5
    go_wp2_with (go_at_call 12; (with_reducible refine Calls.mono HWR.out ?_); rintro e w1 ⟨rfl, hb⟩; have B1 := Lib.hid hb; clear hb)
    all_goals
      go_ret
      exact ⟨rfl, B1.out⟩
  · have h1 : 1 ≤ l.length := by omega
    have h20 : l.length ≤ 20 := by omega
    have q1 : ¬ (l.length : Int) < 1 := by omega
    have q2 : ¬ (20 : Int) < (l.length : Int) := by omega
    have HV := Lib.hid HS.out.small
    have HR : Hid (∀ W, Below w.heap.size w W → Calls Tryd.prog 22 #[.slice o l.length c] W fun e w' => ∃ o1 c1 o2 c2, e = .returned (.tuple #[.slice o1 l.length c1, .slice o2 l.length c2]) ∧ StrsAt o1 (rDrawn l) w' ∧ HopsAt o2 (rHops l) w' ∧ Below W.heap.size W w') := fun W h => route_any o l c W (HS.out.below h) (by omega) (HL.out.below h) (HT.out.below h)
    have hl2 : (l.length : Int) ≤ 20 := by omega
    have HGB := Lib.hid (fun k hk => goB_route h20 HV.out k hk)
    clear hb
    go_enter Tryd.func5, Tryd.ntmps5
    go_upto_region 7 with (first
      | (go_at_call 22; (with_reducible refine Calls.mono (HR.out _ (Below.refl _ _)) ?_); rintro e w1 ⟨o1, c1, o2, c2, rfl, hd, hh, hb⟩; have B1 := Lib.hid hb; have HB := Lib.hid (obuild_route h1 h20 HV.out o1 c1 o2 c2 w1 hd hh (HL.out.below hb) (HT.out.below hb)); have HD := Lib.hid hd; have HH := Lib.hid hh; clear hb hd hh)
      | (go_at_call 14; (with_reducible refine Calls.mono HB.out ?_); rintro e w2 ⟨hb, g, cap, hc1, hc2, rfl, hs⟩; have RW2 : Hid (Rw w g o1 o2 l w2) := ⟨hs, HD.out.below hb, HH.out.below hb, B1.out.trans (hb.mono B1.out.size)⟩; clear hb hs HB HD HH))
    go_wp2_with fail
    go_loopw [7, 10] (fun pv iv wr => ∃ (i : Nat) (p : ByteArray), i ≤ l.length ∧ iv = .int .i64 i ∧ pv = .string p ∧ Hid (i < l.length → p = rPk l (l.length - i)) ∧ Hid (Rw w g o1 o2 l wr)) (fun _ iv _ => l.length - (intOf iv).toNat)
    case atStart => exact ⟨0, _, Nat.zero_le _, rfl, rfl, fun _ => rfl, RW2.out⟩
    case round =>
      obtain ⟨i, p, hi, rfl, rfl, hpi, hRw⟩ := hrel
      by_cases hlt : i < l.length
      · obtain ⟨v, hv⟩ : ∃ v, l[i]? = some v := ⟨_, List.getElem?_eq_getElem hlt⟩
        have hvs := HV.out v (List.mem_of_getElem? hv)
        obtain rfl := hpi.out hlt
        have hGB := HGB.out (l.length - i) (by omega)
        have hps : (rPk l (l.length - i)).size ≤ maxLen := by have := hGB.2.1.s; unfold maxLen; omega
        have hst := hGB.2.2.2 (l.length - 1 - i) v (by omega) (by rw [show l.length - 1 - (l.length - 1 - i) = i by omega]; exact hv)
        rw [show l.length - 1 - (l.length - 1 - i) = i by omega] at hst
        have hnd := (name_rt (100 + i) (by omega)).1
        have hns : (nameS ((100 + i : Nat) : Int)).size ≤ maxLen := by have := hnd.s; unfold maxLen; omega
        obtain ⟨X, hX⟩ : ∃ X, rLay l i = X := ⟨_, rfl⟩
        rw [hX] at hst
        have hki : (rKeys l).getD i e0 = rKey i v := by rw [List.getD_eq_getElem?_getD, rKeys_at hv]; rfl
        obtain ⟨p, hp⟩ : ∃ p, rPk l (l.length - i) = p := ⟨_, rfl⟩
        rw [hp] at hst hps ⊢
        obtain ⟨c1', a1, x1, p1, i1, l1⟩ := X
        obtain ⟨kk, hkk⟩ : ∃ kk, rKey i v = kk := ⟨_, rfl⟩
        rw [hkk] at hst hki
        obtain ⟨nd, hnde⟩ : ∃ nd, nameS ((100 + i : Nat) : Int) = nd := ⟨_, rfl⟩
        obtain ⟨kd, hkd⟩ : ∃ kd, keyS (nameS (v : Int)) = kd := ⟨_, rfl⟩
        have pe1 : peelE nd p (some []) = (0, ⟨c1', a1, x1, p1, i1, l1⟩, kk) := by rw [← hnde, hst.peel]; rfl
        have pe2 : peelE nd p (some [kd]) = (221, lay0, e0) := by rw [← hnde, hst.peel, hkd, if_pos (by simp [memHas])]
        have pm1 : peelM nd p [] = [kd] := by unfold peelM; rw [pe1, if_pos rfl, hst.fk, hkd]; rfl
        have pm2 : peelM nd p [kd] = [kd] := by unfold peelM; rw [pe2, if_neg (by simp)]
        rw [hnde] at hns
        have C1 : Hid (∀ sb mm W, Rw w g o1 o2 l W → SeenAt W w.heap.size sb mm [] → Calls Tryd.prog 18 #[.string nd, .string p, .pointer (some ⟨sb, 0, none⟩)] W fun e w' => e = .returned (.tuple #[.agg #[.string c1', .int .i64 a1, .int .i64 x1, .string p1, .string i1, .string kk, .bool l1], .int .i64 0]) ∧ Rw w g o1 o2 l w' ∧ SeenAt w' w.heap.size sb mm [kd] ∧ KeepC W w') := fun sb mm W h hs => by
          have h := rw_peel h hs nd p (by simp) hns hps HL.out HT.out
          rw [pe1, pm1] at h
          exact h
        have C2 : Hid (∀ sb mm W, Rw w g o1 o2 l W → SeenAt W w.heap.size sb mm [kd] → Calls Tryd.prog 18 #[.string nd, .string p, .pointer (some ⟨sb, 0, none⟩)] W fun e w' => e = .returned (.tuple #[.agg #[.string ⟨#[]⟩, .int .i64 0, .int .i64 0, .string ⟨#[]⟩, .string ⟨#[]⟩, .string ⟨#[]⟩, .bool false], .int .i64 221]) ∧ Rw w g o1 o2 l w' ∧ SeenAt w' w.heap.size sb mm [kd] ∧ KeepC W w') := fun sb mm W h hs => by
          have h := rw_peel h hs nd p (by simp) hns hps HL.out HT.out
          rw [pe2, pm2] at h
          exact h
        have HND : Hid (∀ W, Below w.heap.size w W → Calls Tryd.prog 23 #[.int .i64 (i : Int)] W fun e w' => e = .returned (.string nd) ∧ Below W.heap.size W w') := fun W h => hnde ▸ node_any i W (by omega) (HT.out.below h)
        have HOT : Hid (∀ k : Nat, k ≤ 9223372036854775807 → nameS (k : Int) ≠ nd → ∀ W, Below w.heap.size w W → Calls Tryd.prog 18 #[.string (nameS (k : Int)), .string p, .pointer none] W fun e w' => e = .returned (.tuple #[.agg #[.string ⟨#[]⟩, .int .i64 0, .int .i64 0, .string ⟨#[]⟩, .string ⟨#[]⟩, .string ⟨#[]⟩, .bool false], .int .i64 220]) ∧ Below W.heap.size W w') := fun k hk hne W h => by
          have h := opeel_nil (nameS (k : Int)) p W (by have := (name_rt k hk).1.s; unfold maxLen; omega) hps (HL.out.below h) (HT.out.below h)
          rw [hst.oth k hk (by rw [hnde]; exact hne)] at h
          exact h
        have hii : (i : Int) < (l.length : Int) := by omega
        have hXX := Lib.hid hX
        have HKI := Lib.hid hki
        have HVI := Lib.hid hv
        clear hGB hst pe1 pe2 pm1 pm2 hnd hns hps hnde hkd hkk hpi hX hki hv
        go_upto_region 12 with (first
          | (go_at_call 17; (with_reducible refine Calls.mono (seen_new _) ?_); rintro e w3 ⟨sb, mm, rfl, hs, hb⟩; have R3 := Lib.hid (hRw.out.next hb); have S3 : Hid (SeenAt w3 w.heap.size sb mm []) := seen_base hs hRw.out.b.size; clear hb hs)
          | (go_at_call 23; (with_reducible refine Calls.mono (HND.out _ R3.out.b) ?_); rintro e w4 ⟨rfl, hb⟩; have R4 := Lib.hid (R3.out.next hb); have S4 := Lib.hid (S3.out.below hb); clear hb)
          | (go_at_call 18; (with_reducible refine Calls.mono (C1.out _ _ _ R4.out S4.out) ?_); rintro e w5 ⟨rfl, hr, hs, hk⟩; have R5 := Lib.hid hr; have S5 := Lib.hid hs; clear hr hs hk))
        have nb := below_new' w5 (.cells #[.string c1', .int .i64 a1, .int .i64 x1, .string p1, .string i1, .string kk, .bool l1] 41)
        have kx6 := Lib.hid (heap_alloc_at w5 (.cells #[.string c1', .int .i64 a1, .int .i64 x1, .string p1, .string i1, .string kk, .bool l1] 41))
        have R6 := Lib.hid (R5.out.next nb)
        have S6 := Lib.hid (S5.out.below nb)
        clear nb
        generalize w5.alloc (.cells #[.string c1', .int .i64 a1, .int .i64 x1, .string p1, .string i1, .string kk, .bool l1] 41) = w6 at R6 S6 kx6 ⊢
        generalize w5.heap.size = xb at kx6 ⊢
        go_upto_region 13 with (first
          | (go_at_call 23; (with_reducible refine Calls.mono (HND.out _ R6.out.b) ?_); rintro e w7 ⟨rfl, hb⟩; have R7 := Lib.hid (R6.out.next hb); have S7 := Lib.hid (S6.out.below hb); have kx7 := Lib.hid ((hb.block _ (lt_of_heap kx6.out)).trans kx6.out); clear hb)
          | (go_at_call 18; (with_reducible refine Calls.mono (C2.out _ _ _ R7.out S7.out) ?_); rintro e w8 ⟨rfl, hr, hs, hk⟩; have R8 := Lib.hid hr; have S8 := Lib.hid hs; have kx8 := Lib.hid (hk _ _ _ _ kx7.out); clear hr hs hk))
        have nb := below_new' w8 (.cells #[.string ⟨#[]⟩, .int .i64 0, .int .i64 0, .string ⟨#[]⟩, .string ⟨#[]⟩, .string ⟨#[]⟩, .bool false] 41)
        have R9 := Lib.hid (R8.out.next nb)
        have S9 := Lib.hid (S8.out.below nb)
        have kx9 := Lib.hid ((nb.block _ (lt_of_heap kx8.out)).trans kx8.out)
        clear nb
        generalize w8.alloc (.cells #[.string ⟨#[]⟩, .int .i64 0, .int .i64 0, .string ⟨#[]⟩, .string ⟨#[]⟩, .string ⟨#[]⟩, .bool false] 41) = w9 at R9 S9 kx9 ⊢
        generalize w8.heap.size = zb
        obtain ⟨A0, A1, A2, A3, A4, A5, A6⟩ := seven_all kx9.out
        obtain ⟨kb, kf, hke, kc⟩ := keys_at R9.out.k hlt
        cases hke
        rw [Nat.zero_add, HKI.out] at kc
        have HCT : Hid (∀ n : Later w9, Calls Tryd.prog 21 #[.pointer (some ⟨sb, 0, none⟩)] n.at_ fun e w' => e = .returned (.int .i64 1) ∧ Below n.at_.heap.size n.at_ w') := fun n => seen_count w.heap.size sb mm [kd] n.at_ (S9.out.below n.below)
        have hlast : l1 = decide ((i : Int) + 1 = (l.length : Int)) := by
          have h := hXX.out
          unfold rLay at h
          by_cases hh : i + 1 < l.length
          · rw [if_pos hh] at h
            have h2 := congrArg Lay.last h
            rw [decide_eq_false (by omega)]; exact h2.symm
          · rw [if_neg hh] at h
            have h2 := congrArg Lay.last h
            rw [decide_eq_true (by omega)]; exact h2.symm
        obtain ⟨lb, hlb⟩ : ∃ lb, decide ((i : Int) + 1 = (l.length : Int)) = lb := ⟨_, rfl⟩
        have hlb2 : ((i : Int) + 1 == (l.length : Int)) = lb := by rw [← hlb]; by_cases hh : (i : Int) + 1 = (l.length : Int) <;> simp [hh]
        rw [hlb] at hlast
        have HLB := Lib.hid hlb
        subst hlast
        clear hlb
        replace A0 := Later.cell A0; replace A1 := Later.cell A1; replace A2 := Later.cell A2; replace A3 := Later.cell A3; replace A4 := Later.cell A4; replace A5 := Later.cell A5; replace A6 := Later.cell A6
        replace kc := Later.cell kc
        refine wp_region_later (by kernel_rfl) (by kernel_rfl) ?_
        repeat (go_big_quiet_step (first | (go_at_call 21; with_reducible exact calls_later (HCT.out _))))
        refine wpQuiet_nil ?_
        intro _ hw'
        obtain ⟨nq, rfl⟩ := hw'
        have R10 := Lib.hid (R9.out.next nq.below)
        have kx10 := Lib.hid ((nq.below.block _ (lt_of_heap kx9.out)).trans kx9.out)
        clear A0 A1 A2 A3 A4 A5 A6 kc HCT
        generalize nq.at_ = w10 at R10 kx10 ⊢
        cases l1 with
        | true =>
          have hn : i + 1 = l.length := by have := of_decide_eq_true HLB.out; omega
          have hx := hXX.out
          unfold rLay lastH at hx
          rw [if_neg (by omega), if_neg (by rw [rHops_len]; omega), getD_of (rHops_at HVI.out)] at hx
          simp only [Lay.mk.injEq, and_true] at hx
          obtain ⟨rfl, ha, he, rfl, rfl⟩ := hx
          obtain ⟨hb1, hf1, hx1, rfl, hxe, _, _, _, _, r2, r3⟩ := hops_cells R10.out.h (by rw [rHops_len]; exact hlt)
          rw [rHops_at HVI.out] at hxe
          cases hxe
          rw [ha] at r2
          rw [he] at r3
          have hem := empty_list
          obtain ⟨B0, B1, B2, B3, B4, B5, B6⟩ := seven_all kx10.out
          dsimp only [e0, hn9] at B0 B3 B4
          go_wp2_with fail
          go_quiet (fail)
          go_wp2_with fail
          have R11 := Lib.hid (R10.out.next (drewN_same w10 nq).1)
          have kx11 := Lib.hid (((drewN_same w10 nq).1.block _ (lt_of_heap kx10.out)).trans kx10.out)
          clear B0 B1 B2 B3 B4 B5 B6 R10 kx10
          generalize w10.drewN nq = w11 at R11 kx11 ⊢
          by_cases hneg : oth < 0
          · have HNG : Hid (∀ W, Calls Tryd.prog 24 #[.int .i64 oth] W fun e w' => e = .returned (.tuple #[.string ⟨#[]⟩, .int .i64 2]) ∧ Below W.heap.size W w') := fun W => (name_neg oth W hneg)
            go_upto_region 25 with (go_at_call 24; (with_reducible refine Calls.mono (HNG.out _) ?_); rintro e w12 ⟨rfl, hb⟩; have R12 := Lib.hid (R11.out.next hb); have kx12 := Lib.hid ((hb.block _ (lt_of_heap kx11.out)).trans kx11.out); clear hb)
            obtain ⟨D0, D1, D2, D3, D4, D5, D6⟩ := seven_all kx12.out
            go_wp2_with fail
            go_roundw
            case rel => exact ⟨i + 1, _, by omega, by go_num, rfl, fun h => by omega, R12.out⟩
            case measure => simp [intOf]; omega
          · obtain ⟨k, hk⟩ := Int.eq_ofNat_of_zero_le (show 0 ≤ oth by omega)
            have hk2 : k ≤ 9223372036854775807 := by omega
            have HNM : Hid (∀ W, Below w.heap.size w W → Calls Tryd.prog 24 #[.int .i64 oth] W fun e w' => e = .returned (.tuple #[.string (nameS (k : Int)), .int .i64 0]) ∧ Below W.heap.size W w') := fun W h => by rw [hk]; exact oname k W hk2 (HT.out.below h)
            by_cases e1 : nameS (k : Int) = nd
            · rw [e1] at HNM
              clear hk
              go_upto_region 25 with (first
                | (go_at_call 24; (with_reducible refine Calls.mono (HNM.out _ R11.out.b) ?_); rintro e w12 ⟨rfl, hb⟩; have R12 := Lib.hid (R11.out.next hb); have kx12 := Lib.hid ((hb.block _ (lt_of_heap kx11.out)).trans kx11.out); clear hb)
                | (go_at_call 23; (with_reducible refine Calls.mono (HND.out _ R12.out.b) ?_); rintro e w13 ⟨rfl, hb⟩; have R13 := Lib.hid (R12.out.next hb); have kx13 := Lib.hid ((hb.block _ (lt_of_heap kx12.out)).trans kx12.out); clear hb))
              obtain ⟨D0, D1, D2, D3, D4, D5, D6⟩ := seven_all kx13.out
              go_wp2_with fail
              go_roundw
              case rel => exact ⟨i + 1, _, by omega, by go_num, rfl, fun h => by omega, R13.out⟩
              case measure => simp [intOf]; omega
            · have HOTk := Lib.hid (HOT.out k hk2 e1)
              have n1 := toList_ne e1
              have n1' : (nameS (k : Int)).toList ≠ nd.toList := fun h => e1 (toList_inj' h)
              by_cases e2 : nameS (k : Int) = nameS (v : Int)
              · obtain ⟨nk, hnk⟩ : ∃ nk, nameS (k : Int) = nk := ⟨_, rfl⟩
                rw [hnk] at HNM HOTk n1 n1'
                have hvk : nameS (v : Int) = nk := by rw [← e2, hnk]
                clear hk e1 e2 hnk
                go_upto_region 21 with (go_at_call 24; (with_reducible refine Calls.mono (HNM.out _ R11.out.b) ?_); rintro e w12 ⟨rfl, hb⟩; have R12 := Lib.hid (R11.out.next hb); have kx12 := Lib.hid ((hb.block _ (lt_of_heap kx11.out)).trans kx11.out); clear hb)
                obtain ⟨db, df, hde, dc⟩ := strs_get R12.out.d HVI.out
                rw [hvk] at dc
                subst hde
                have DC : Hid (∀ W, Below w12.heap.size w12 W → W.cell? ⟨db, df + i, none⟩ = some (.string nk)) := fun W h => cell_later' h dc
                go_upto_region 25 with (go_at_call 23; (with_reducible refine Calls.mono (HND.out _ R12.out.b) ?_); rintro e w13 ⟨rfl, hb⟩; have R13 := Lib.hid (R12.out.next hb); have dc13 := DC.out _ hb; have kx13 := Lib.hid ((hb.block _ (lt_of_heap kx12.out)).trans kx12.out); clear hb)
                obtain ⟨D0, D1, D2, D3, D4, D5, D6⟩ := seven_all kx13.out
                go_wp2_with fail
                go_roundw
                case rel => exact ⟨i + 1, _, by omega, by go_num, rfl, fun h => by omega, R13.out⟩
                case measure => simp [intOf]; omega
              · have n2 := toList_ne e2
                have n2' : (nameS (k : Int)).toList ≠ (nameS (v : Int)).toList := fun h => e2 (toList_inj' h)
                obtain ⟨nk, hnk⟩ : ∃ nk, nameS (k : Int) = nk := ⟨_, rfl⟩
                obtain ⟨nv, hnv⟩ : ∃ nv, nameS (v : Int) = nv := ⟨_, rfl⟩
                rw [hnk] at HNM HOTk n1 n2 n1' n2'
                rw [hnv] at n2 n2'
                clear hk e1 e2 hnk
                go_upto_region 21 with (go_at_call 24; (with_reducible refine Calls.mono (HNM.out _ R11.out.b) ?_); rintro e w12 ⟨rfl, hb⟩; have R12 := Lib.hid (R11.out.next hb); have kx12 := Lib.hid ((hb.block _ (lt_of_heap kx11.out)).trans kx11.out); clear hb)
                obtain ⟨db, df, hde, dc⟩ := strs_get R12.out.d HVI.out
                rw [hnv] at dc
                subst hde
                have DC : Hid (∀ W, Below w12.heap.size w12 W → W.cell? ⟨db, df + i, none⟩ = some (.string nv)) := fun W h => cell_later' h dc
                go_upto_region 23 with (first
                  | (go_at_call 23; (with_reducible refine Calls.mono (HND.out _ R12.out.b) ?_); rintro e w13 ⟨rfl, hb⟩; have R13 := Lib.hid (R12.out.next hb); have dc13 := DC.out _ hb; have kx13 := Lib.hid ((hb.block _ (lt_of_heap kx12.out)).trans kx12.out); clear hb)
                  | (go_at_call 18; (with_reducible refine Calls.mono (HOTk.out _ R13.out.b) ?_); rintro e w14 ⟨rfl, hb⟩; have R14 := Lib.hid (R13.out.next hb); have kx14 := Lib.hid ((hb.block _ (lt_of_heap kx13.out)).trans kx13.out); clear hb))
                have nb := below_new' w14 (.cells #[.string ⟨#[]⟩, .int .i64 0, .int .i64 0, .string ⟨#[]⟩, .string ⟨#[]⟩, .string ⟨#[]⟩, .bool false] 41)
                have R15 := Lib.hid (R14.out.next nb)
                have kx15 := Lib.hid ((nb.block _ (lt_of_heap kx14.out)).trans kx14.out)
                clear nb
                generalize w14.alloc (.cells #[.string ⟨#[]⟩, .int .i64 0, .int .i64 0, .string ⟨#[]⟩, .string ⟨#[]⟩, .string ⟨#[]⟩, .bool false] 41) = w15 at R15 kx15 ⊢
                generalize w14.heap.size = yb
                obtain ⟨D0, D1, D2, D3, D4, D5, D6⟩ := seven_all kx15.out
                go_wp2_with fail
                go_roundw
                case rel => exact ⟨i + 1, _, by omega, by go_num, rfl, fun h => by omega, R15.out⟩
                case measure => simp [intOf]; omega
        | false =>
          have hn : ¬ (i + 1 = l.length) := by have := of_decide_eq_false HLB.out; omega
          have hn1 : i + 1 < l.length := by omega
          obtain ⟨u, hu⟩ : ∃ u, l[i + 1]? = some u := ⟨_, List.getElem?_eq_getElem hn1⟩
          have hx := hXX.out
          unfold rLay lastH nameAt at hx
          rw [if_pos hn1, if_pos (by rw [rHops_len]; exact hn1), if_pos (by rw [rHops_len]; exact hn1), getD_of (rHops_at hu)] at hx
          simp only [Lay.mk.injEq, and_true] at hx
          obtain ⟨hc, ha, he, rfl, hin⟩ := hx
          obtain ⟨hb1, hf1, hx1, rfl, hxe, _, _, r0, _, r2, r3⟩ := hops_cells R10.out.h (by rw [rHops_len]; exact hn1)
          rw [rHops_at hu] at hxe
          cases hxe
          rw [hc] at r0
          rw [ha] at r2
          rw [he] at r3
          have hem := empty_list
          obtain ⟨B0, B1, B2, B3, B4, B5, B6⟩ := seven_all kx10.out
          dsimp only [e0] at B3
          have hi2 : (i : Int) + 1 < (l.length : Int) := by omega
          obtain ⟨i2, hi2e⟩ : ∃ i2 : Nat, i + 1 = i2 := ⟨_, rfl⟩
          have hi3 : (i : Int) + 1 = (i2 : Int) := by omega
          rw [hi2e] at r0 r2 r3
          rw [hi3] at hi2
          go_wp2_with fail
          have hw1 : IntKind.i64.wrap ((i : Int) + 1) = (i2 : Int) := by rw [hi3]; exact IntWalk.i64_in _ (by omega)
          go_quiet (fail)
          go_wp2_with fail
          have R11 := Lib.hid (R10.out.next (drewN_same w10 nq).1)
          have kx11 := Lib.hid (((drewN_same w10 nq).1.block _ (lt_of_heap kx10.out)).trans kx10.out)
          clear B0 B1 B2 B3 B4 B5 B6 R10 kx10
          generalize w10.drewN nq = w11 at R11 kx11 ⊢
          by_cases hneg : oth < 0
          · have HNG : Hid (∀ W, Calls Tryd.prog 24 #[.int .i64 oth] W fun e w' => e = .returned (.tuple #[.string ⟨#[]⟩, .int .i64 2]) ∧ Below W.heap.size W w') := fun W => (name_neg oth W hneg)
            go_upto_region 25 with (go_at_call 24; (with_reducible refine Calls.mono (HNG.out _) ?_); rintro e w12 ⟨rfl, hb⟩; have R12 := Lib.hid (R11.out.next hb); have kx12 := Lib.hid ((hb.block _ (lt_of_heap kx11.out)).trans kx11.out); clear hb)
            obtain ⟨D0, D1, D2, D3, D4, D5, D6⟩ := seven_all kx12.out
            go_wp2_with fail
            go_roundw
            case rel => exact ⟨i + 1, _, by omega, by go_num, rfl, fun _ => by rw [← hin]; congr 1; omega, R12.out⟩
            case measure => simp [intOf]; omega
          · obtain ⟨k, hk⟩ := Int.eq_ofNat_of_zero_le (show 0 ≤ oth by omega)
            have hk2 : k ≤ 9223372036854775807 := by omega
            have HNM : Hid (∀ W, Below w.heap.size w W → Calls Tryd.prog 24 #[.int .i64 oth] W fun e w' => e = .returned (.tuple #[.string (nameS (k : Int)), .int .i64 0]) ∧ Below W.heap.size W w') := fun W h => by rw [hk]; exact oname k W hk2 (HT.out.below h)
            by_cases e1 : nameS (k : Int) = nd
            · rw [e1] at HNM
              clear hk
              go_upto_region 25 with (first
                | (go_at_call 24; (with_reducible refine Calls.mono (HNM.out _ R11.out.b) ?_); rintro e w12 ⟨rfl, hb⟩; have R12 := Lib.hid (R11.out.next hb); have kx12 := Lib.hid ((hb.block _ (lt_of_heap kx11.out)).trans kx11.out); clear hb)
                | (go_at_call 23; (with_reducible refine Calls.mono (HND.out _ R12.out.b) ?_); rintro e w13 ⟨rfl, hb⟩; have R13 := Lib.hid (R12.out.next hb); have kx13 := Lib.hid ((hb.block _ (lt_of_heap kx12.out)).trans kx12.out); clear hb))
              obtain ⟨D0, D1, D2, D3, D4, D5, D6⟩ := seven_all kx13.out
              go_wp2_with fail
              go_roundw
              case rel => exact ⟨i + 1, _, by omega, by go_num, rfl, fun _ => by rw [← hin]; congr 1; omega, R13.out⟩
              case measure => simp [intOf]; omega
            · have HOTk := Lib.hid (HOT.out k hk2 e1)
              have n1 := toList_ne e1
              have n1' : (nameS (k : Int)).toList ≠ nd.toList := fun h => e1 (toList_inj' h)
              by_cases e2 : nameS (k : Int) = nameS (v : Int)
              · obtain ⟨nk, hnk⟩ : ∃ nk, nameS (k : Int) = nk := ⟨_, rfl⟩
                rw [hnk] at HNM HOTk n1 n1'
                have hvk : nameS (v : Int) = nk := by rw [← e2, hnk]
                clear hk e1 e2 hnk
                go_upto_region 21 with (go_at_call 24; (with_reducible refine Calls.mono (HNM.out _ R11.out.b) ?_); rintro e w12 ⟨rfl, hb⟩; have R12 := Lib.hid (R11.out.next hb); have kx12 := Lib.hid ((hb.block _ (lt_of_heap kx11.out)).trans kx11.out); clear hb)
                obtain ⟨db, df, hde, dc⟩ := strs_get R12.out.d HVI.out
                rw [hvk] at dc
                subst hde
                have DC : Hid (∀ W, Below w12.heap.size w12 W → W.cell? ⟨db, df + i, none⟩ = some (.string nk)) := fun W h => cell_later' h dc
                go_upto_region 25 with (go_at_call 23; (with_reducible refine Calls.mono (HND.out _ R12.out.b) ?_); rintro e w13 ⟨rfl, hb⟩; have R13 := Lib.hid (R12.out.next hb); have dc13 := DC.out _ hb; have kx13 := Lib.hid ((hb.block _ (lt_of_heap kx12.out)).trans kx12.out); clear hb)
                obtain ⟨D0, D1, D2, D3, D4, D5, D6⟩ := seven_all kx13.out
                go_wp2_with fail
                go_roundw
                case rel => exact ⟨i + 1, _, by omega, by go_num, rfl, fun _ => by rw [← hin]; congr 1; omega, R13.out⟩
                case measure => simp [intOf]; omega
              · have n2 := toList_ne e2
                have n2' : (nameS (k : Int)).toList ≠ (nameS (v : Int)).toList := fun h => e2 (toList_inj' h)
                obtain ⟨nk, hnk⟩ : ∃ nk, nameS (k : Int) = nk := ⟨_, rfl⟩
                obtain ⟨nv, hnv⟩ : ∃ nv, nameS (v : Int) = nv := ⟨_, rfl⟩
                rw [hnk] at HNM HOTk n1 n2 n1' n2'
                rw [hnv] at n2 n2'
                clear hk e1 e2 hnk
                go_upto_region 21 with (go_at_call 24; (with_reducible refine Calls.mono (HNM.out _ R11.out.b) ?_); rintro e w12 ⟨rfl, hb⟩; have R12 := Lib.hid (R11.out.next hb); have kx12 := Lib.hid ((hb.block _ (lt_of_heap kx11.out)).trans kx11.out); clear hb)
                obtain ⟨db, df, hde, dc⟩ := strs_get R12.out.d HVI.out
                rw [hnv] at dc
                subst hde
                have DC : Hid (∀ W, Below w12.heap.size w12 W → W.cell? ⟨db, df + i, none⟩ = some (.string nv)) := fun W h => cell_later' h dc
                go_upto_region 23 with (first
                  | (go_at_call 23; (with_reducible refine Calls.mono (HND.out _ R12.out.b) ?_); rintro e w13 ⟨rfl, hb⟩; have R13 := Lib.hid (R12.out.next hb); have dc13 := DC.out _ hb; have kx13 := Lib.hid ((hb.block _ (lt_of_heap kx12.out)).trans kx12.out); clear hb)
                  | (go_at_call 18; (with_reducible refine Calls.mono (HOTk.out _ R13.out.b) ?_); rintro e w14 ⟨rfl, hb⟩; have R14 := Lib.hid (R13.out.next hb); have kx14 := Lib.hid ((hb.block _ (lt_of_heap kx13.out)).trans kx13.out); clear hb))
                have nb := below_new' w14 (.cells #[.string ⟨#[]⟩, .int .i64 0, .int .i64 0, .string ⟨#[]⟩, .string ⟨#[]⟩, .string ⟨#[]⟩, .bool false] 41)
                have R15 := Lib.hid (R14.out.next nb)
                have kx15 := Lib.hid ((nb.block _ (lt_of_heap kx14.out)).trans kx14.out)
                clear nb
                generalize w14.alloc (.cells #[.string ⟨#[]⟩, .int .i64 0, .int .i64 0, .string ⟨#[]⟩, .string ⟨#[]⟩, .string ⟨#[]⟩, .bool false] 41) = w15 at R15 kx15 ⊢
                generalize w14.heap.size = yb
                obtain ⟨D0, D1, D2, D3, D4, D5, D6⟩ := seven_all kx15.out
                go_wp2_with fail
                go_roundw
                case rel => exact ⟨i + 1, _, by omega, by go_num, rfl, fun _ => by rw [← hin]; congr 1; omega, R15.out⟩
                case measure => simp [intOf]; omega
      · obtain rfl : i = l.length := by omega
        go_wp2_with (go_at_call 12; (with_reducible refine Calls.mono (HW.out _ hRw.out.b) ?_); rintro e w3 ⟨rfl, hb⟩; have B3 := Lib.hid (hRw.out.b.trans (hb.mono hRw.out.b.size)); clear hb)
        go_ret
        exact ⟨rfl, B3.out⟩
end Go.Proofs.YtbdimlppnhcicaaDoor
