import Derived.Deep.CutBlock
import Derived.StillTailTactics
import Derived.Lib.ParseIntB
import Derived.Lib.Bytealg
import Derived.Lib.ItoaNum
import Derived.Lib.ParseIntBCases
import Derived.Shelf.Strings.Builder1
import Derived.Shelf.Small.Bits
import Derived.Shelf.Small.Strs
import Derived.Shelf.Small.Wraps
import Derived.Shelf.Strings.BuilderF
import Derived.Shelf.Strings.BuilderK
import Derived.Shelf.Strconv.Itoa0
import Derived.Shelf.Strconv.Itoa1
import Derived.Shelf.LaysM
import Derived.Shelf.Strconv.Itoa2
import Derived.Shelf.Strconv.Itoa3
import Derived.Shelf.Strconv.Itoa4
import Derived.Shelf.Strconv.ParseIntEmpty
import Derived.Shelf.Strconv.Clone
import Derived.Shelf.Strconv.SyntaxError
import Derived.Shelf.LaysC
import Derived.Shelf.Strconv.ToError
import Derived.Shelf.Strconv.Lower
import Derived.Shelf.Strconv.ParseUint10
import Derived.Shelf.Strconv.ParseUint10Empty
import Derived.Shelf.Strconv.ParseUint10Any
import Derived.Shelf.Strconv.ParseInt10
import Derived.Shelf.Strconv.RangeError
import Derived.Shelf.Strconv.ToErrorRange
import Derived.Shelf.Strconv.ParseUintEmpty
import Derived.Shelf.Strconv.ParseUint10b64
import Derived.Shelf.Strconv.ParseUint10b32
import Derived.Shelf.Strconv.ParseUint10b16
import Derived.Shelf.Strconv.ParseUint10b8
import Derived.Shelf.Strconv.ParseUint10At
import Derived.Shelf.Strconv.ParseInt10At64
import Derived.Shelf.Strconv.ParseInt10At32
import Derived.Shelf.Strconv.ParseInt10At16
import Derived.Shelf.Strconv.ParseInt10At8
import Derived.Shelf.Strconv.ParseInt10All
import Derived.Shelf.Strconv.ParseIntPublic10
import Derived.Shelf.Strconv.ErrVarParseInt
import Derived.Shelf.Strings.Search1
import Derived.Shelf.Bits.Mul64
import Derived.Shelf.Strings.BuilderCap
import Derived.Ground.Names2Prog
import Derived.Shelf.Slices.SearchI
import Derived.WalkKit
import Derived.WalkSpells
import Derived.WalkLawsBesides
import Derived.Handy
import Derived.Lib.Hide
import Derived.Deep.QuietTactic
import Derived.BigQuiet
import Derived.Deep.RegionHeld3
import Derived.Lib.Strings
import Derived.Lib.IndexBytes
import Derived.BigRegion
import Derived.Deep.RegionLaw
import Derived.Deep.AppendLies
import Derived.Deep.LoopGhost
import Derived.Deep.Onto
import Derived.Deep.WholeRow
import Derived.Deep.CutRange
import Derived.Laws.CopyOwn
import Derived.Lib.ItoaLen
import Derived.Lib.AppendIntMem
import Derived.Deep.MidRow
import Derived.Deep.RegionHeld
import Derived.Outline
import Derived.Laws.Tables
import Derived.Laws.MakeOwn
import Derived.Laws.OwnMore
import Derived.WalkMore
import Derived.MapKept
import Derived.Carry
import Derived.Test.YtbdimlppnhcicaaDoorRows
import Derived.Test.YtbdimlppnhcicaaDoorProg
import Derived.Test.YtbdimlppnhcicaaDoorNu
import Derived.Test.YtbdimlppnhcicaaDoorTa
import Derived.Test.YtbdimlppnhcicaaDoorRg
import Derived.Test.YtbdimlppnhcicaaDoorBa
import Derived.Test.YtbdimlppnhcicaaDoorVa
import Derived.Test.YtbdimlppnhcicaaDoorWg
import Derived.Test.YtbdimlppnhcicaaDoorSo
import Derived.Test.YtbdimlppnhcicaaDoorOnA
import Derived.Test.YtbdimlppnhcicaaDoorOe
import Derived.Test.YtbdimlppnhcicaaDoorRo1
import Derived.Test.YtbdimlppnhcicaaDoorOf
import Derived.Test.YtbdimlppnhcicaaDoorOh
import Derived.Test.YtbdimlppnhcicaaDoorOj
import Derived.Test.YtbdimlppnhcicaaDoorRo2
import Derived.Test.YtbdimlppnhcicaaDoorRo3
import Derived.Test.YtbdimlppnhcicaaDoorRo4
import Derived.Test.YtbdimlppnhcicaaDoorRo5
import Derived.Test.YtbdimlppnhcicaaDoorRo6
import Derived.Test.YtbdimlppnhcicaaDoorRu2
namespace Go.Proofs.YtbdimlppnhcicaaDoor
set_option linter.unusedVariables false
open Go.RowKit Rte
/-! route: what is found is a route -/
theorem val_hops {P : List Plc} {A : AskR} {W : List Rte.Way} (hA : timeB A.exp = true) : ∀ (l : List Hp) (t : ByteArray) (a x : Int), Val P A W t a x l → ∀ h ∈ l, HopOk h
  | [], _, _, _, _, h, hh => by cases hh
  | g :: r, t, a, x, ⟨w, _, _, _, _, _, _, _, _, hv⟩, h, hh => by
    rcases List.mem_cons.1 hh with rfl | hh
    · have := (time_iff _).1 (val_time hA r _ _ _ hv)
      unfold HopOk; omega
    · exact val_hops hA r _ _ _ hv h hh
theorem route_hops {P : List Plc} {A : AskR} {W : List Rte.Way} {l : List Hp} (hA : timeB A.exp = true) (h : Rte.Route P A W l) : (∀ h ∈ l, HopOk h) ∧ l.length ≠ 0 ∧ l.length ≤ 20 := by
  obtain ⟨g, r, rfl, w, _, _, _, _, _, _, _, hv, hr⟩ := h
  refine ⟨fun h hh => ?_, by simp, by simp; omega⟩
  rcases List.mem_cons.1 hh with rfl | hh
  · have := (time_iff _).1 (val_time hA r _ _ _ hv)
    unfold HopOk; omega
  · exact val_hops hA r _ _ _ hv h hh
theorem found_yes {E : List Edg} {P : List Plc} {A : AskR} {l : List Hp} (h : findN isKey E P A = (l, 0)) : refusedN isKey E P A = 0 ∧ Rte.Route P A (waysGo A.bad E) l := by
  unfold findN at h
  by_cases h0 : refusedN isKey E P A = 0
  · rw [if_neg (by rw [h0]; decide)] at h
    cases hx : findB P A (waysGo A.bad E) with
    | none => rw [hx] at h; cases h
    | some x =>
      rw [hx] at h
      cases h
      exact ⟨h0, (find_is hx).1⟩
  · rw [if_pos h0] at h
    exact absurd (congrArg Prod.snd h) h0
theorem check_is {E : List Edg} {P : List Plc} {A : AskR} (h0 : refusedN isKey E P A = 0) (l : List Hp) (hl0 : l.length ≠ 0) (hl : l.length ≤ 20) : (checkN isKey E P A l).2 = 0 ∧ ((checkN isKey E P A l).1 = true ↔ Rte.Route P A (waysGo A.bad E) l) := by
  have hf := fine_of h0
  unfold checkN
  rw [if_neg (by rw [h0]; decide), if_neg (by omega)]
  exact ⟨rfl, check_route (by have := hf.ask.a0; omega) hf.ask.ne (fun w hw => (ways_mem _ _ w hw).1) l hl hl0⟩
theorem is_yes {E : List Edg} {P : List Plc} {A : AskR} {l : List Hp} (h : findN isKey E P A = (l, 0)) : checkN isKey E P A l = (true, 0) ∧ ∀ h ∈ l, HopOk h := by
  obtain ⟨h0, hr⟩ := found_yes h
  have hf := fine_of h0
  obtain ⟨k1, k2, k3⟩ := route_hops ((time_iff _).2 ⟨hf.ask.e0, hf.ask.e1⟩) hr
  obtain ⟨c1, c2⟩ := check_is h0 l k2 k3
  exact ⟨Prod.ext (c2.2 hr) c1, k1⟩
theorem is_no {E : List Edg} {P : List Plc} {A : AskR} {l : List Hp} {e : Int} (h : findN isKey E P A = (l, e)) (he : e ≠ 0) : l = [] ∧ ∃ f, checkN isKey E P A [] = (false, f) ∧ (f = e ∨ e = 260 ∧ f = 0) := by
  unfold findN at h
  unfold checkN
  by_cases h0 : refusedN isKey E P A = 0
  · rw [if_neg (by rw [h0]; decide)] at h
    rw [if_neg (by rw [h0]; decide), if_pos (.inl rfl)]
    cases hx : findB P A (waysGo A.bad E) with
    | none => rw [hx] at h; cases h; exact ⟨rfl, _, rfl, .inr ⟨rfl, rfl⟩⟩
    | some x => rw [hx] at h; cases h; exact absurd rfl he
  · rw [if_pos h0] at h
    rw [if_pos h0]
    cases h
    exact ⟨rfl, _, rfl, .inl rfl⟩
theorem net_ask2 {w : World} {a b : Obj} : ((w.alloc a).alloc b).heap[w.heap.size]? = some a ∧ ((w.alloc a).alloc b).heap[w.heap.size + 1]? = some b := by
  refine ⟨(heap_alloc_old _ _ (by simp)).trans (heap_alloc_at w _), ?_⟩
  have := heap_alloc_at (w.alloc a) b
  simpa using this
set_option maxRecDepth 100000 in
set_option maxHeartbeats 16000000 in
theorem is_any (oe : Option Addr) (E : List Edg) (ce : Nat) (op : Option Addr) (P : List Plc) (cp : Nat) (A : AskR) (ob : Option Addr) (cb : Nat) (w : World)
    (hE : RowsAt 4 edgC oe E w) (hP : RowsAt 9 plcC op P w) (hB : StrsAt ob A.bad w) (hf : FitR E P A []) (hL : LibOk w) :
    Calls Tryd.prog 8 #[netV oe E.length ce op P.length cp, askV A ob cb] w fun e w' => e = .returned (.bool true) ∧ Below w.heap.size w w' := by
  have hs1 : A.frm.size ≤ maxLen := by have := hf.f; unfold maxLen; omega
  have hs2 : A.dst.size ≤ maxLen := by have := hf.f; unfold maxLen; omega
  have HLG := Lib.hid (fun W (h : Below w.heap.size w W) => large_r oe E ce op P cp A ob cb none [] 0 W (hE.below h) (hP.below h) (hB.below h) (.inl rfl) hf)
  have HWK := Lib.hid (fun W (h : Below w.heap.size w W) => works_r W (hL.below h))
  have HFD := Lib.hid (fun W (h : Below w.heap.size w W) => find_any oe E ce op P cp A ob cb W hs1 hs2 (hL.below h) (hE.below h) (hP.below h) (hB.below h))
  have HCK := Lib.hid (fun W (h : Below w.heap.size w W) (ol : Option Addr) (l : List Hp) (cl : Nat) (k1 : RowsAt 4 hpC ol l W) (k2 : ∀ h ∈ l, HopOk h) => check_any oe E ce op P cp A ob cb ol l cl W hs1 hs2 (hL.below h) (hE.below h) (hP.below h) (hB.below h) k1 k2)
  obtain ⟨⟨r, c⟩, hr⟩ : ∃ r, findN isKey E P A = r := ⟨_, rfl⟩
  have HY : Hid (c = 0 → checkN isKey E P A r = (true, 0) ∧ ∀ h ∈ r, HopOk h) := fun h => is_yes (by rw [hr, h])
  have HN : Hid (c ≠ 0 → r = [] ∧ ∃ f, checkN isKey E P A [] = (false, f) ∧ (f = c ∨ c = 260 ∧ f = 0)) := fun h => is_no hr h
  rw [hr] at HFD
  clear hE hP hB hf hL hs1 hs2 hr
  unfold LargeR at HLG
  unfold FindPost at HFD
  unfold CheckPost at HCK
  generalize checkN isKey E P A = cn at HCK HY HN
  obtain ⟨af, ad, aa, ax, al, ae, bad⟩ := A
  unfold askV at HLG HFD HCK ⊢
  unfold netV at HLG ⊢
  dsimp only at HLG HFD HCK ⊢
  simp only [List.length_nil] at HLG
  generalize E.length = el at HLG HFD HCK ⊢
  generalize P.length = pl at HLG HFD HCK ⊢
  generalize bad.length = bl at HLG HFD HCK ⊢
  go_enter Tryd.func8, Tryd.ntmps8
  go_upto_region 1 with fail
  have B2 : Hid (Below w.heap.size w ((w.alloc (.cells #[.slice oe el ce, .slice op pl cp] 74)).alloc (.cells #[.string af, .string ad, .int .i64 aa, .int .i64 ax, .int .i64 al, .int .i64 ae, .slice ob bl cb] 77))) := ((Below.refl _ _).alloc (Nat.le_refl _) _).alloc (by simp) _
  have K2 : Hid (((w.alloc (.cells #[.slice oe el ce, .slice op pl cp] 74)).alloc (.cells #[.string af, .string ad, .int .i64 aa, .int .i64 ax, .int .i64 al, .int .i64 ae, .slice ob bl cb] 77)).heap[w.heap.size]? = some (.cells #[.slice oe el ce, .slice op pl cp] 74 (0, 0)) ∧ ((w.alloc (.cells #[.slice oe el ce, .slice op pl cp] 74)).alloc (.cells #[.string af, .string ad, .int .i64 aa, .int .i64 ax, .int .i64 al, .int .i64 ae, .slice ob bl cb] 77)).heap[w.heap.size + 1]? = some (.cells #[.string af, .string ad, .int .i64 aa, .int .i64 ax, .int .i64 al, .int .i64 ae, .slice ob bl cb] 77 (0, 0))) := net_ask2
  generalize ((w.alloc (.cells #[.slice oe el ce, .slice op pl cp] 74)).alloc (.cells #[.string af, .string ad, .int .i64 aa, .int .i64 ax, .int .i64 al, .int .i64 ae, .slice ob bl cb] 77)) = w2 at B2 K2 ⊢
  have KK : Hid (∀ W, Below w2.heap.size w2 W → Below w.heap.size w W ∧ (W.cell? ⟨w.heap.size, 0, none⟩ = some (.slice oe el ce) ∧ W.cell? ⟨w.heap.size, 1, none⟩ = some (.slice op pl cp)) ∧ (W.cell? ⟨w.heap.size + 1, 0, none⟩ = some (.string af) ∧ W.cell? ⟨w.heap.size + 1, 1, none⟩ = some (.string ad) ∧ W.cell? ⟨w.heap.size + 1, 2, none⟩ = some (.int .i64 aa) ∧ W.cell? ⟨w.heap.size + 1, 3, none⟩ = some (.int .i64 ax) ∧ W.cell? ⟨w.heap.size + 1, 4, none⟩ = some (.int .i64 al) ∧ W.cell? ⟨w.heap.size + 1, 5, none⟩ = some (.int .i64 ae) ∧ W.cell? ⟨w.heap.size + 1, 6, none⟩ = some (.slice ob bl cb)) ∧ w.heap.size + 1 < W.heap.size) := fun W h => by
    have e0 := (h.block _ (lt_of_heap K2.out.1)).trans K2.out.1
    have e1 := (h.block _ (lt_of_heap K2.out.2)).trans K2.out.2
    exact ⟨btr B2.out h, ⟨by rw [cell_of_row _ _ _ _ _ _ e0]; rfl, by rw [cell_of_row _ _ _ _ _ _ e0]; rfl⟩, ask_cells e1, lt_of_heap e1⟩
  obtain ⟨-, ⟨n0, n1⟩, ⟨a0, a1, a2, a3, a4, a5, a6⟩, l2⟩ := KK.out w2 (Below.refl _ _)
  go_cut [11] from 9 (fun v wx => ∃ b, v = .bool b ∧ Hid (Below w2.heap.size w2 wx))
  case first =>
    go_wp2_with (go_at_call 37; (with_reducible refine Calls.mono (HLG.out _ B2.out) ?_); rintro e4 w4 ⟨b, rfl, -, hb4⟩; have B4 := Lib.hid hb4; clear hb4)
    all_goals go_meet
    all_goals exact ⟨_, rfl, B4.out⟩
  case rest =>
    clear n0 n1 a0 a1 a2 a3 a4 a5 a6 l2 HLG
    obtain ⟨b, rfl, HB4⟩ := hcut
    obtain ⟨w4, rfl⟩ : ∃ q, q = wc := ⟨wc, rfl⟩
    obtain ⟨b4, ⟨n0, n1⟩, ⟨a0, a1, a2, a3, a4, a5, a6⟩, l4⟩ := KK.out w4 HB4.out
    have B4 := Lib.hid b4
    clear b4
    cases b with
    | true =>
      go_wp2_with (go_at_call 38; (with_reducible refine Calls.mono (HWK.out _ B4.out) ?_); rintro e w5 ⟨rfl, hb⟩; have B5 := Lib.hid (btr B4.out hb); clear hb)
      go_ret
      exact ⟨rfl, B5.out⟩
    | false =>
      by_cases hc : c = 0
      · subst hc
        obtain ⟨hy, hko⟩ := HY.out rfl
        have HCC : Hid (∀ W, Below w.heap.size w W → ∀ (ol : Option Addr) (cl : Nat), RowsAt 4 hpC ol r W → Calls Tryd.prog 40 #[.slice oe el ce, .slice op pl cp, .agg #[.string af, .string ad, .int .i64 aa, .int .i64 ax, .int .i64 al, .int .i64 ae, .slice ob bl cb], .slice ol r.length cl] W fun e w' => e = .returned (.tuple #[.bool true, .int .i64 0]) ∧ Below W.heap.size W w') := fun W h ol cl k => by
          have := HCK.out W h ol r cl k hko
          rw [hy] at this
          exact this
        clear hy hko HCK HY HN
        go_wp2_with (first
          | (go_at_call 39; (with_reducible refine Calls.mono (HFD.out _ B4.out) ?_); rintro e5 w5 ⟨hb5, v5, rfl, hown5⟩; obtain ⟨lo, lc, rfl⟩ := own_slice hown5; have B5 := Lib.hid (btr B4.out hb5); obtain ⟨o', c', e', h'⟩ := own_rows hpC_len hown5 rfl; cases e'; have R5 := Lib.hid h'; obtain ⟨-, ⟨m0, m1⟩, ⟨p0, p1, p2, p3, p4, p5, p6⟩, l5⟩ := KK.out _ (btr HB4.out hb5); clear hb5 hown5 h')
          | (go_at_call 40; (with_reducible refine Calls.mono (HCC.out _ B5.out lo lc R5.out) ?_); rintro e6 w6 ⟨rfl, hb6⟩; have B6 := Lib.hid (btr B5.out hb6); clear hb6)
          | (go_at_call 38; (with_reducible refine Calls.mono (HWK.out _ B6.out) ?_); rintro e7 w7 ⟨rfl, hb7⟩; have B7 := Lib.hid (btr B6.out hb7); clear hb7))
        go_ret
        exact ⟨rfl, B7.out⟩
      · obtain ⟨rfl, f, hy, hor⟩ := HN.out hc
        have HCC : Hid (∀ W, Below w.heap.size w W → ∀ (ol : Option Addr) (cl : Nat), Calls Tryd.prog 40 #[.slice oe el ce, .slice op pl cp, .agg #[.string af, .string ad, .int .i64 aa, .int .i64 ax, .int .i64 al, .int .i64 ae, .slice ob bl cb], .slice ol 0 cl] W fun e w' => e = .returned (.tuple #[.bool false, .int .i64 f]) ∧ Below W.heap.size W w') := fun W h ol cl => by
          have := HCK.out W h ol [] cl (.inl rfl) (fun h hh => by cases hh)
          rw [hy] at this
          exact this
        have e1 : (c != 0) = true := by simpa using hc
        simp only [List.length_nil] at HFD
        clear hy HCK HY HN
        have HOR := Lib.hid hor
        clear hor
        by_cases hfc : f = c
        · subst hfc
          have e2 : (f == f) = true := by simp
          clear hc
          go_wp2_with (first
            | (go_at_call 39; (with_reducible refine Calls.mono (HFD.out _ B4.out) ?_); rintro e5 w5 ⟨hb5, v5, rfl, hown5⟩; obtain ⟨lo, lc, rfl⟩ := own_slice hown5; have B5 := Lib.hid (btr B4.out hb5); obtain ⟨-, ⟨m0, m1⟩, ⟨p0, p1, p2, p3, p4, p5, p6⟩, l5⟩ := KK.out _ (btr HB4.out hb5); clear hb5 hown5)
            | (go_at_call 40; (with_reducible refine Calls.mono (HCC.out _ B5.out lo lc) ?_); rintro e6 w6 ⟨rfl, hb6⟩; have B6 := Lib.hid (btr B5.out hb6); clear hb6)
            | (go_at_call 38; (with_reducible refine Calls.mono (HWK.out _ B6.out) ?_); rintro e7 w7 ⟨rfl, hb7⟩; have B7 := Lib.hid (btr B6.out hb7); clear hb7))
          go_ret
          exact ⟨rfl, B7.out⟩
        · obtain ⟨h260, h0⟩ := HOR.out.resolve_left hfc
          subst h260 h0
          have e2 : ((0 : Int) == 260) = false := rfl
          clear hc hfc HOR
          go_wp2_with (first
            | (go_at_call 39; (with_reducible refine Calls.mono (HFD.out _ B4.out) ?_); rintro e5 w5 ⟨hb5, v5, rfl, hown5⟩; obtain ⟨lo, lc, rfl⟩ := own_slice hown5; have B5 := Lib.hid (btr B4.out hb5); obtain ⟨-, ⟨m0, m1⟩, ⟨p0, p1, p2, p3, p4, p5, p6⟩, l5⟩ := KK.out _ (btr HB4.out hb5); clear hb5 hown5)
            | (go_at_call 40; (with_reducible refine Calls.mono (HCC.out _ B5.out lo lc) ?_); rintro e6 w6 ⟨rfl, hb6⟩; have B6 := Lib.hid (btr B5.out hb6); clear hb6)
            | (go_at_call 38; (with_reducible refine Calls.mono (HWK.out _ B6.out) ?_); rintro e7 w7 ⟨rfl, hb7⟩; have B7 := Lib.hid (btr B6.out hb7); clear hb7))
          go_ret
          exact ⟨rfl, B7.out⟩
end Go.Proofs.YtbdimlppnhcicaaDoor
namespace Go.Proofs.YtbdimlppnhcicaaDoor
set_option linter.unusedVariables false
open Go.RowKit Rte
/-! route: no route is better -/
theorem bet_amt {x y : En} (h : x.amt ≠ y.amt) : betB x y = decide (x.amt < y.amt) := by
  unfold betB
  rw [Bool.eq_iff_iff, key_lt, decide_eq_true_iff]
  constructor
  · rintro (k | ⟨k, _⟩)
    · exact k
    · exact absurd k h
  · exact .inl
theorem bet_exp {x y : En} (h : x.amt = y.amt) (h2 : x.exp ≠ y.exp) : betB x y = decide (x.exp < y.exp) := by
  unfold betB
  rw [Bool.eq_iff_iff, key_lt, decide_eq_true_iff]
  constructor
  · rintro (k | ⟨_, k | ⟨k, _⟩⟩)
    · omega
    · exact k
    · exact absurd k h2
  · exact fun k => .inr ⟨h, .inl k⟩
theorem bet_len {x y : En} (h : x.amt = y.amt) (h2 : x.exp = y.exp) (h3 : x.hops.length ≠ y.hops.length) : betB x y = decide (x.hops.length < y.hops.length) := by
  unfold betB
  rw [Bool.eq_iff_iff, key_lt, decide_eq_true_iff]
  constructor
  · rintro (k | ⟨_, k | ⟨_, k | ⟨k, _⟩⟩⟩)
    · omega
    · omega
    · omega
    · exact absurd k h3
  · exact fun k => .inr ⟨h, .inr ⟨h2, .inl (by omega)⟩⟩
theorem bet_tail {x y : En} (h : x.amt = y.amt) (h2 : x.exp = y.exp) (h3 : x.hops.length = y.hops.length) : betB x y = lexB (tailK x.hops) (tailK y.hops) := by
  unfold betB
  rw [Bool.eq_iff_iff, key_lt]
  constructor
  · rintro (k | ⟨_, k | ⟨_, k | ⟨_, k⟩⟩⟩)
    · omega
    · omega
    · omega
    · exact k
  · exact fun k => .inr ⟨h, .inr ⟨h2, .inr ⟨h3, k⟩⟩⟩
theorem tail_ne {h g : Hp} {x y : List Hp} (hc : h.chan ≠ g.chan) : lexB (tailK (h :: x)) (tailK (g :: y)) = Op.bytesLess h.chan.toList g.chan.toList := by
  unfold tailK
  rw [List.flatMap_cons, List.flatMap_cons, cmpS_enc]
  unfold cmpS
  cases hb : Op.bytesLess h.chan.toList g.chan.toList with
  | true => simp
  | false => rw [if_neg (by decide), if_neg hc]; simp
theorem tail_eq {h g : Hp} {x y : List Hp} (hc : h.chan = g.chan) : lexB (tailK (h :: x)) (tailK (g :: y)) = lexB (tailK x) (tailK y) := by
  unfold tailK
  rw [List.flatMap_cons, List.flatMap_cons, hc, lex_app]
theorem neq_int {a b : Int} (h : a ≠ b) : (a != b) = true := by simpa using h
set_option maxRecDepth 100000 in
set_option maxHeartbeats 8000000 in
theorem better_l (f : Hp) (ra : List Hp) (g : Hp) (rb : List Hp) (o1 : Option Addr) (c1 : Nat) (o2 : Option Addr) (c2 : Nat) (w : World) (h1 : RowsAt 4 hpC o1 (f :: ra) w) (h2 : RowsAt 4 hpC o2 (g :: rb) w) (hl1 : (f :: ra).length ≤ 1000) (hl2 : (g :: rb).length ≤ 1000) :
    Calls Tryd.prog 41 #[.slice o1 (f :: ra).length c1, .slice o2 (g :: rb).length c2] w fun e w' => e = .returned (.bool (betB ⟨f.amt, f.exp, f :: ra⟩ ⟨g.amt, g.exp, g :: rb⟩)) ∧ Below w.heap.size w w' := by
  obtain ⟨out, hout⟩ : ∃ o, betB ⟨f.amt, f.exp, f :: ra⟩ ⟨g.amt, g.exp, g :: rb⟩ = o := ⟨_, rfl⟩
  rw [hout]
  have ho1 := hout
  obtain ⟨l1, hq1⟩ : ∃ l, f :: ra = l := ⟨_, rfl⟩
  obtain ⟨l2, hq2⟩ : ∃ l, g :: rb = l := ⟨_, rfl⟩
  have hx1 : l1[0]? = some f := by rw [← hq1]; rfl
  have hx2 : l2[0]? = some g := by rw [← hq2]; rfl
  rw [hq1] at h1 hl1 ho1 ⊢
  rw [hq2] at h2 hl2 ho1 ⊢
  have H1 := Lib.hid h1; have H2 := Lib.hid h2
  obtain ⟨b1, f1, rfl, hc1⟩ := rows_at h1 hx1
  obtain ⟨b2, f2, rfl, hc2⟩ := rows_at h2 hx2
  have y2 : w.cell? ⟨b1, f1 + 2, none⟩ = some (.int .i64 f.amt) := by have := hc1 2 _ rfl; simpa using this
  have y3 : w.cell? ⟨b1, f1 + 3, none⟩ = some (.int .i64 f.exp) := by have := hc1 3 _ rfl; simpa using this
  have z2 : w.cell? ⟨b2, f2 + 2, none⟩ = some (.int .i64 g.amt) := by have := hc2 2 _ rfl; simpa using this
  have z3 : w.cell? ⟨b2, f2 + 3, none⟩ = some (.int .i64 g.exp) := by have := hc2 3 _ rfl; simpa using this
  have n1 : 0 < l1.length := (List.getElem?_eq_some_iff.1 hx1).1
  have n2 : 0 < l2.length := (List.getElem?_eq_some_iff.1 hx2).1
  have i1 : (0 : Int) < (l1.length : Int) := by omega
  have i2 : (0 : Int) < (l2.length : Int) := by omega
  have j1 : (l1.length : Int) ≤ 1000 := by omega
  have j2 : (l2.length : Int) ≤ 1000 := by omega
  have HJ1 := Lib.hid hl1; have HJ2 := Lib.hid hl2
  clear hout hq1 hq2 hc1 hc2 h1 h2 hx1 hx2 hl1 hl2 n1 n2
  by_cases g1 : f.amt = g.amt
  · have e1 : (f.amt != g.amt) = false := by simp [g1]
    by_cases g2 : f.exp = g.exp
    · have e2 : (f.exp != g.exp) = false := by simp [g2]
      by_cases g3 : l1.length = l2.length
      · have e3 : ((l1.length : Int) != (l2.length : Int)) = false := by simp [g3]
        have HO : Hid (lexB (tailK (l1.drop 0)) (tailK (l2.drop 0)) = out) := by
          show _ = _
          rw [← ho1, bet_tail g1 g2 g3]; rfl
        have HG3 := Lib.hid g3
        clear ho1
        go_enter Tryd.func41, Tryd.ntmps41
        go_wp2_with fail
        go_quiet (fail)
        go_wp2_with fail
        go_quiet (fail)
        go_wp2_with fail
        clear y2 y3 z2 z3 e1 e2 e3 g1 g2 g3
        go_loopw [5] (fun iv wr => ∃ i : Nat, i ≤ l1.length ∧ iv = .int .i64 i ∧ Hid (lexB (tailK (l1.drop i)) (tailK (l2.drop i)) = out) ∧ Hid (Below w.heap.size w wr)) (fun iv _ => l1.length - (intOf iv).toNat)
        case atStart => exact ⟨0, Nat.zero_le _, rfl, HO.out, by repeat (first | exact Below.refl _ _ | refine bdN ?_ _ | refine Below.drew ?_)⟩
        case round =>
          clear HO
          obtain ⟨i, hi, rfl, hT, hB⟩ := hrel
          by_cases hlt : i < l1.length
          · have hlt2 : i < l2.length := by have := HG3.out; omega
            obtain ⟨x, hx⟩ : ∃ x, l1[i]? = some x := ⟨_, List.getElem?_eq_getElem hlt⟩
            obtain ⟨y, hy⟩ : ∃ y, l2[i]? = some y := ⟨_, List.getElem?_eq_getElem hlt2⟩
            obtain ⟨b1', f1', q1, hc1⟩ := rows_at H1.out hx
            obtain ⟨b2', f2', q2, hc2⟩ := rows_at H2.out hy
            cases q1; cases q2
            have u0 : wr.cell? ⟨b1, f1 + i * 4, none⟩ = some (.string x.chan) := cell_later' hB.out (hc1 0 _ rfl)
            have v0 : wr.cell? ⟨b2, f2 + i * 4, none⟩ = some (.string y.chan) := cell_later' hB.out (hc2 0 _ rfl)
            have hd1 : l1.drop i = x :: l1.drop (i + 1) := by rw [List.drop_eq_getElem_cons hlt]; congr 1; rw [List.getElem?_eq_getElem hlt] at hx; exact Option.some.inj hx
            have hd2 : l2.drop i = y :: l2.drop (i + 1) := by rw [List.drop_eq_getElem_cons hlt2]; congr 1; rw [List.getElem?_eq_getElem hlt2] at hy; exact Option.some.inj hy
            rw [hd1, hd2] at hT
            have hii : (i : Int) < (l1.length : Int) := by omega
            have hii2 : (i : Int) < (l2.length : Int) := by omega
            have hii3 : (i : Int) ≤ 1000 := by have := HJ1.out; omega
            clear hc1 hc2 hx hy hd1 hd2 hi
            by_cases hne : x.chan = y.chan
            · have q1 : x.chan.toList = y.chan.toList := by rw [hne]
              have HT2 : Hid (lexB (tailK (l1.drop (i + 1))) (tailK (l2.drop (i + 1))) = out) := by show _ = _; rw [← tail_eq hne]; exact hT.out
              clear hne hT
              go_wp2_with fail
              go_quiet (fail)
              go_wp2_with fail
              go_roundw
              case rel => exact ⟨i + 1, hlt, by go_num, HT2.out, bdN hB.out _⟩
              case measure => simp only [intOf]; omega
            · have q1 := toList_ne hne
              have ht := hT.out
              rw [tail_ne hne] at ht
              have q2 : Op.bytesLess x.chan.toList y.chan.toList = out := ht
              clear hne hT ht
              go_wp2_with fail
              go_quiet (fail)
              go_wp2_with fail
              go_quiet (fail)
              go_wp2_with fail
              go_ret
              exact ⟨rfl, bdN (bdN hB.out _) _⟩
          · obtain rfl : i = l1.length := by omega
            have hof : out = false := by
              have h3 := hT.out
              rw [List.drop_length, HG3.out, List.drop_length] at h3
              exact h3.symm
            subst hof
            clear hi hlt hT
            go_wp2_with fail
            go_ret
            exact ⟨rfl, hB.out⟩
      · have e3 : ((l1.length : Int) != (l2.length : Int)) = true := neq_int (by omega)
        rw [bet_len g1 g2 g3] at ho1
        dsimp only at ho1
        have e4 : decide (l1.length < l2.length) = out := ho1
        clear ho1 g1 g2 g3
        go_enter Tryd.func41, Tryd.ntmps41
        go_wp2_with fail
        go_quiet (fail)
        go_wp2_with fail
        go_quiet (fail)
        go_wp2_with fail
        go_ret
        exact ⟨rfl, by repeat (first | exact Below.refl _ _ | refine bdN ?_ _ | refine Below.drew ?_)⟩
    · have e2 : (f.exp != g.exp) = true := neq_int g2
      rw [bet_exp g1 g2] at ho1
      dsimp only at ho1
      clear g1 g2
      go_enter Tryd.func41, Tryd.ntmps41
      go_wp2_with fail
      go_quiet (fail)
      go_wp2_with fail
      go_quiet (fail)
      go_wp2_with fail
      go_quiet (fail)
      go_wp2_with fail
      go_ret
      exact ⟨rfl, by repeat (first | exact Below.refl _ _ | refine bdN ?_ _ | refine Below.drew ?_)⟩
  · have e1 : (f.amt != g.amt) = true := neq_int g1
    rw [bet_amt g1] at ho1
    dsimp only at ho1
    clear g1
    go_enter Tryd.func41, Tryd.ntmps41
    go_wp2_with fail
    go_quiet (fail)
    go_wp2_with fail
    go_quiet (fail)
    go_wp2_with fail
    go_ret
    exact ⟨rfl, by repeat (first | exact Below.refl _ _ | refine bdN ?_ _ | refine Below.drew ?_)⟩
end Go.Proofs.YtbdimlppnhcicaaDoor
namespace Go.Proofs.YtbdimlppnhcicaaDoor
set_option linter.unusedVariables false
open Go.RowKit Rte
/-! route: RouteBest -/
def lateA (A : AskR) : AskR := ⟨A.frm, A.dst, A.amt, A.exp, 2147483647, A.fee, A.bad⟩
/-- what the law says of a row of hops that is a route -/
theorem best_plain {E : List Edg} {P : List Plc} {A : AskR} {l : List Hp} {f : Int} (hc : checkN isKey E P (lateA A) l = (true, f)) (hp : ∀ p ∈ P, p.min ≤ A.amt ∧ p.delta ≤ 10000000 ∧ A.exp ≤ 1000000000) :
    ∃ g r h m, l = g :: r ∧ findN isKey E P (lateA A) = (h :: m, 0) ∧ betB ⟨g.amt, g.exp, g :: r⟩ ⟨h.amt, h.exp, h :: m⟩ = false ∧ (h :: m).length ≤ 20 := by
  have h0 : refusedN isKey E P (lateA A) = 0 := by
    by_cases h0 : refusedN isKey E P (lateA A) = 0
    · exact h0
    · unfold checkN at hc; rw [if_pos h0] at hc; cases hc
  have hl : l.length ≠ 0 ∧ l.length ≤ 20 := by
    unfold checkN at hc
    rw [if_neg (by rw [h0]; decide)] at hc
    by_cases hl : l.length = 0 ∨ 20 < l.length
    · rw [if_pos hl] at hc; cases hc
    · omega
  have hf := fine_of h0
  have hr := (check_is h0 l hl.1 hl.2).2.1 (by rw [hc])
  have hE : Easy P (lateA A) := ⟨fun p h => (hp p h).1, fun p h => (hf.plc p h).d0, fun p h => (hp p h).2.1, hf.ask.a0, hf.ask.e0, fun ⟨p, h⟩ => (hp p h).2.2⟩
  obtain ⟨x, hx, hle⟩ := find_best hE (by have := hf.ask.e1; omega) rfl hr
  obtain ⟨hxr, ha, he⟩ := find_is hx
  have h20 := (route_hops ((time_iff _).2 ⟨hf.ask.e0, hf.ask.e1⟩) hxr).2.2
  obtain ⟨g, r, rfl, -⟩ := hr
  obtain ⟨h, m, hm, -⟩ := hxr
  have hfn : findN isKey E P (lateA A) = (x.hops, 0) := by
    unfold findN; rw [if_neg (by rw [h0]; decide), hx]; rfl
  obtain ⟨xa, xe, xh⟩ := x
  dsimp only at hm ha he hfn h20
  subst hm
  rw [List.headD_cons] at ha he
  subst ha he
  exact ⟨g, r, h, m, rfl, hfn, hle, h20⟩
set_option maxRecDepth 100000 in
set_option maxHeartbeats 16000000 in
theorem bestl_any (oe : Option Addr) (E : List Edg) (ce : Nat) (op : Option Addr) (P : List Plc) (cp : Nat) (A : AskR) (ob : Option Addr) (cb : Nat) (ol : Option Addr) (l : List Hp) (cl : Nat) (w : World)
    (hE : RowsAt 4 edgC oe E w) (hP : RowsAt 9 plcC op P w) (hB : StrsAt ob A.bad w) (hl : RowsAt 4 hpC ol l w) (hf : FitR E P A l) (hlk : ∀ h ∈ l, HopOk h) (hL : LibOk w) :
    Calls Tryd.prog 9 #[netV oe E.length ce op P.length cp, askV A ob cb, .slice ol l.length cl] w fun e w' => e = .returned (.bool true) ∧ Below w.heap.size w w' := by
  have hs1 : A.frm.size ≤ maxLen := by have := hf.f; unfold maxLen; omega
  have hs2 : A.dst.size ≤ maxLen := by have := hf.f; unfold maxLen; omega
  have HLG := Lib.hid (fun W (h : Below w.heap.size w W) => large_r oe E ce op P cp A ob cb ol l cl W (hE.below h) (hP.below h) (hB.below h) (hl.below h) hf)
  have HWK := Lib.hid (fun W (h : Below w.heap.size w W) => works_r W (hL.below h))
  have HFD := Lib.hid (fun W (h : Below w.heap.size w W) => find_any oe E ce op P cp (lateA A) ob cb W hs1 hs2 (hL.below h) (hE.below h) (hP.below h) (hB.below h))
  have HCK := Lib.hid (fun W (h : Below w.heap.size w W) => check_any oe E ce op P cp (lateA A) ob cb ol l cl W hs1 hs2 (hL.below h) (hE.below h) (hP.below h) (hB.below h) (hl.below h) hlk)
  have HBP := Lib.hid (fun f (hc : checkN isKey E P (lateA A) l = (true, f)) (hp : ∀ p ∈ P, p.min ≤ A.amt ∧ p.delta ≤ 10000000 ∧ A.exp ≤ 1000000000) => best_plain hc hp)
  have HP := Lib.hid hP; have HL := Lib.hid hl
  obtain ⟨⟨b1, f1⟩, hr⟩ : ∃ r, checkN isKey E P (lateA A) l = r := ⟨_, rfl⟩
  rw [hr] at HCK HBP
  have HBF : Hid (b1 = true → f1 = 0) := fun hb => by
    subst hb
    unfold checkN at hr
    split at hr
    · cases (congrArg Prod.fst hr)
    · split at hr
      · cases (congrArg Prod.fst hr)
      · exact (congrArg Prod.snd hr).symm
  clear hE hP hB hl hf hlk hL hs1 hs2 hr
  unfold LargeR at HLG
  unfold FindPost at HFD
  unfold CheckPost at HCK
  generalize findN isKey E P (lateA A) = fnd at HFD HBP
  obtain ⟨af, ad, aa, ax, al, ae, bad⟩ := A
  unfold askV at HLG HFD HCK ⊢
  unfold netV at HLG ⊢
  unfold lateA at HFD HCK
  dsimp only at HLG HFD HCK HBP ⊢
  obtain ⟨pl, hpl⟩ : ∃ n, P.length = n := ⟨_, rfl⟩
  have HPL := Lib.hid hpl
  rw [hpl] at HLG HFD HCK ⊢
  clear hpl
  generalize E.length = el at HLG HFD HCK ⊢
  generalize bad.length = bl at HLG HFD HCK ⊢
  go_enter Tryd.func9, Tryd.ntmps9
  go_upto_region 1 with fail
  have B2 : Hid (Below w.heap.size w ((w.alloc (.cells #[.slice oe el ce, .slice op pl cp] 74)).alloc (.cells #[.string af, .string ad, .int .i64 aa, .int .i64 ax, .int .i64 al, .int .i64 ae, .slice ob bl cb] 77))) := ((Below.refl _ _).alloc (Nat.le_refl _) _).alloc (by simp) _
  have K2 : Hid (((w.alloc (.cells #[.slice oe el ce, .slice op pl cp] 74)).alloc (.cells #[.string af, .string ad, .int .i64 aa, .int .i64 ax, .int .i64 al, .int .i64 ae, .slice ob bl cb] 77)).heap[w.heap.size]? = some (.cells #[.slice oe el ce, .slice op pl cp] 74 (0, 0)) ∧ ((w.alloc (.cells #[.slice oe el ce, .slice op pl cp] 74)).alloc (.cells #[.string af, .string ad, .int .i64 aa, .int .i64 ax, .int .i64 al, .int .i64 ae, .slice ob bl cb] 77)).heap[w.heap.size + 1]? = some (.cells #[.string af, .string ad, .int .i64 aa, .int .i64 ax, .int .i64 al, .int .i64 ae, .slice ob bl cb] 77 (0, 0))) := net_ask2
  generalize ((w.alloc (.cells #[.slice oe el ce, .slice op pl cp] 74)).alloc (.cells #[.string af, .string ad, .int .i64 aa, .int .i64 ax, .int .i64 al, .int .i64 ae, .slice ob bl cb] 77)) = w2 at B2 K2 ⊢
  have KK : Hid (∀ W, Below w2.heap.size w2 W → Below w.heap.size w W ∧ (W.cell? ⟨w.heap.size, 0, none⟩ = some (.slice oe el ce) ∧ W.cell? ⟨w.heap.size, 1, none⟩ = some (.slice op pl cp)) ∧ (W.cell? ⟨w.heap.size + 1, 0, none⟩ = some (.string af) ∧ W.cell? ⟨w.heap.size + 1, 1, none⟩ = some (.string ad) ∧ W.cell? ⟨w.heap.size + 1, 2, none⟩ = some (.int .i64 aa) ∧ W.cell? ⟨w.heap.size + 1, 3, none⟩ = some (.int .i64 ax) ∧ W.cell? ⟨w.heap.size + 1, 4, none⟩ = some (.int .i64 al) ∧ W.cell? ⟨w.heap.size + 1, 5, none⟩ = some (.int .i64 ae) ∧ W.cell? ⟨w.heap.size + 1, 6, none⟩ = some (.slice ob bl cb)) ∧ w.heap.size + 1 < W.heap.size) := fun W h => by
    have e0 := (h.block _ (lt_of_heap K2.out.1)).trans K2.out.1
    have e1 := (h.block _ (lt_of_heap K2.out.2)).trans K2.out.2
    exact ⟨btr B2.out h, ⟨by rw [cell_of_row _ _ _ _ _ _ e0]; rfl, by rw [cell_of_row _ _ _ _ _ _ e0]; rfl⟩, ask_cells e1, lt_of_heap e1⟩
  obtain ⟨-, ⟨n0, n1⟩, ⟨a0, a1, a2, a3, a4, a5, a6⟩, l2⟩ := KK.out w2 (Below.refl _ _)
  go_cut [15] from 12 (fun v wx => ∃ b, v = .bool b ∧ (b = false → pl ≤ 600 ∧ l.length ≤ 40) ∧ Hid (Below w2.heap.size w2 wx))
  case first =>
    go_wp2_with (go_at_call 37; (with_reducible refine Calls.mono (HLG.out _ B2.out) ?_); rintro e4 w4 ⟨b, rfl, hbb, hb4⟩; have B4 := Lib.hid hb4; have HBB : Hid (b = false → pl ≤ 600 ∧ l.length ≤ 40) := fun h => ⟨(hbb h).2.1, (hbb h).2.2.2⟩; clear hb4 hbb)
    all_goals go_meet
    all_goals exact ⟨_, rfl, HBB.out, B4.out⟩
  case rest =>
    clear n0 n1 a0 a1 a2 a3 a4 a5 a6 l2 HLG
    obtain ⟨b, rfl, hbb, HB4⟩ := hcut
    obtain ⟨w4, rfl⟩ : ∃ q, q = wc := ⟨wc, rfl⟩
    cases b with
    | true =>
      have B4 := Lib.hid (KK.out w4 HB4.out).1
      go_wp2_with (go_at_call 38; (with_reducible refine Calls.mono (HWK.out _ B4.out) ?_); rintro e w5 ⟨rfl, hb⟩; have B5 := Lib.hid (btr B4.out hb); clear hb)
      go_ret
      exact ⟨rfl, B5.out⟩
    | false =>
      obtain ⟨q1, q2⟩ := hbb rfl
      have Q1 := Lib.hid q1; have Q2 := Lib.hid q2
      clear hbb q1 q2
      go_wp2_with fail
      go_loopw [7] (fun iv wr => ∃ i : Nat, i ≤ pl ∧ iv = .int .i64 i ∧ Hid (Below w2.heap.size w2 wr) ∧ Hid (∀ p ∈ P.take i, p.min ≤ aa ∧ p.delta ≤ 10000000 ∧ ax ≤ 1000000000)) (fun iv _ => pl - (intOf iv).toNat)
      case atStart => exact ⟨0, Nat.zero_le _, rfl, HB4.out, fun p hp => by simp at hp⟩
      case round =>
        clear HB4
        obtain ⟨i, hi, rfl, hB, hT⟩ := hrel
        have hpl6 := Q1.out
        obtain ⟨b5, ⟨n0, n1⟩, ⟨a0, a1, a2, a3, a4, a5, a6⟩, l5⟩ := KK.out wr hB.out
        have B5 := Lib.hid b5
        clear b5
        by_cases hlt : i < pl
        · obtain ⟨p, hp⟩ : ∃ p, P[i]? = some p := ⟨_, List.getElem?_eq_getElem (by rw [HPL.out]; exact hlt)⟩
          obtain ⟨pb, po, rfl, hc⟩ := rows_at (HP.out.below B5.out) hp
          have z5 : wr.cell? ⟨pb, po + i * 9 + 5, none⟩ = some (.int .i64 p.delta) := hc 5 _ rfl
          have z6 : wr.cell? ⟨pb, po + i * 9 + 6, none⟩ = some (.int .i64 p.min) := hc 6 _ rfl
          have hii : (i : Int) < (pl : Int) := by omega
          have hii2 : (pl : Int) ≤ 600 := by omega
          have HNX : Hid (p.min ≤ aa → p.delta ≤ 10000000 → ax ≤ 1000000000 → ∀ p ∈ P.take (i + 1), p.min ≤ aa ∧ p.delta ≤ 10000000 ∧ ax ≤ 1000000000) := fun h1 h2 h3 q hq => by
            rw [List.take_add_one, hp] at hq
            rcases List.mem_append.1 hq with hq | hq
            · exact hT.out q hq
            · obtain rfl : q = p := by simpa using hq
              exact ⟨h1, h2, h3⟩
          clear hc hp hi hT hpl6
          by_cases c1 : p.min ≤ aa
          · have d1 : decide (aa < p.min) = false := decide_eq_false (by omega)
            by_cases c2 : p.delta ≤ 10000000
            · have d2 : decide (10000000 < p.delta) = false := decide_eq_false (by omega)
              by_cases c3 : ax ≤ 1000000000
              · have d3 : decide (1000000000 < ax) = false := decide_eq_false (by omega)
                have HN2 := Lib.hid (HNX.out c1 c2 c3)
                clear c1 c2 c3 HNX
                go_wp2_with fail
                go_quiet (fail)
                go_wp2_with fail
                go_roundw
                case rel => exact ⟨i + 1, hlt, by go_num, bdN hB.out _, HN2.out⟩
                case measure => simp only [intOf]; omega
              · have d3 : decide (1000000000 < ax) = true := decide_eq_true (by omega)
                clear c1 c2 c3 HNX
                go_wp2_with fail
                go_quiet (fail)
                generalize hq : wr.drewN _ = w6
                have B6 : Hid (Below w.heap.size w w6) := by rw [← hq]; exact bdN B5.out _
                clear hq
                go_wp2_with ((go_at_call 38; (with_reducible refine Calls.mono (HWK.out _ B6.out) ?_); rintro e w7 ⟨rfl, hb⟩; have B7 := Lib.hid (btr B6.out hb); clear hb))
                go_ret
                exact ⟨rfl, B7.out⟩
            · have d2 : decide (10000000 < p.delta) = true := decide_eq_true (by omega)
              clear c1 c2 HNX
              go_wp2_with fail
              go_quiet (fail)
              generalize hq : wr.drewN _ = w6
              have B6 : Hid (Below w.heap.size w w6) := by rw [← hq]; exact bdN B5.out _
              clear hq
              go_wp2_with ((go_at_call 38; (with_reducible refine Calls.mono (HWK.out _ B6.out) ?_); rintro e w7 ⟨rfl, hb⟩; have B7 := Lib.hid (btr B6.out hb); clear hb))
              go_ret
              exact ⟨rfl, B7.out⟩
          · have d1 : decide (aa < p.min) = true := decide_eq_true (by omega)
            clear c1 HNX
            go_wp2_with fail
            go_quiet (fail)
            generalize hq : wr.drewN _ = w6
            have B6 : Hid (Below w.heap.size w w6) := by rw [← hq]; exact bdN B5.out _
            clear hq
            go_wp2_with ((go_at_call 38; (with_reducible refine Calls.mono (HWK.out _ B6.out) ?_); rintro e w7 ⟨rfl, hb⟩; have B7 := Lib.hid (btr B6.out hb); clear hb))
            go_ret
            exact ⟨rfl, B7.out⟩
        · obtain rfl : pl = i := by omega
          have HALL : Hid (∀ p ∈ P, p.min ≤ aa ∧ p.delta ≤ 10000000 ∧ ax ≤ 1000000000) := by
            have h1 := hT.out
            rw [List.take_of_length_le (by rw [HPL.out]; exact Nat.le_refl _)] at h1
            exact h1
          have k1 := (hB.out.block _ (lt_of_heap K2.out.2)).trans K2.out.2
          have k0 := (hB.out.block _ (lt_of_heap K2.out.1)).trans K2.out.1
          have f4 := (show wr.frozen? ⟨w.heap.size + 1, 4, none⟩ = false by simp [World.frozen?, k1])
          have S0 : Hid ((wr.setCell ⟨w.heap.size + 1, 4, none⟩ (.int .i64 2147483647)).heap[w.heap.size]? = some (.cells #[.slice oe el ce, .slice op pl cp] 74 (0, 0))) := by
            show _ = _
            rw [heap_setCell_other _ _ _ _ (by simp)]; exact k0
          have S1 : Hid ((wr.setCell ⟨w.heap.size + 1, 4, none⟩ (.int .i64 2147483647)).heap[w.heap.size + 1]? = some (.cells #[.string af, .string ad, .int .i64 aa, .int .i64 ax, .int .i64 2147483647, .int .i64 ae, .slice ob bl cb] 77 (0, 0))) := by
            show _ = _
            rw [heap_setCell_same _ _ _ _ _ _ k1]; rfl
          have SB : Hid (Below w.heap.size w (wr.setCell ⟨w.heap.size + 1, 4, none⟩ (.int .i64 2147483647))) := Below.setCell B5.out (by simp) _
          clear k0 k1 hT hi hlt hpl6
          go_upto_region 9 with fail
          clear n0 n1 a0 a1 a2 a3 a4 a5 a6 l5 f4 KK K2 B2 B5 hB
          generalize (wr.setCell ⟨w.heap.size + 1, 4, none⟩ (.int .i64 2147483647)) = w6 at S0 S1 SB ⊢
          have n0 : w6.cell? ⟨w.heap.size, 0, none⟩ = some (.slice oe el ce) := by rw [cell_of_row _ _ _ _ _ _ S0.out]; rfl
          have n1 : w6.cell? ⟨w.heap.size, 1, none⟩ = some (.slice op pl cp) := by rw [cell_of_row _ _ _ _ _ _ S0.out]; rfl
          obtain ⟨a0, a1, a2, a3, a4, a5, a6⟩ := ask_cells S1.out
          have l6 := lt_of_heap S1.out
          cases b1 with
          | false =>
            by_cases hf1 : f1 = 0
            · subst hf1
              clear HBP HBF HFD
              go_wp2_with (first
                | (go_at_call 40; (with_reducible refine Calls.mono (HCK.out _ SB.out) ?_); rintro e w7 ⟨rfl, hb⟩; have B7 := Lib.hid (btr SB.out hb); clear hb)
                | (go_at_call 38; (with_reducible refine Calls.mono (HWK.out _ B7.out) ?_); rintro e w8 ⟨rfl, hb⟩; have B8 := Lib.hid (btr B7.out hb); clear hb))
              go_ret
              exact ⟨rfl, B8.out⟩
            · have e1 : (f1 != 0) = true := by simpa using hf1
              clear HBP HBF HFD hf1
              go_wp2_with (first
                | (go_at_call 40; (with_reducible refine Calls.mono (HCK.out _ SB.out) ?_); rintro e w7 ⟨rfl, hb⟩; have B7 := Lib.hid (btr SB.out hb); clear hb)
                | (go_at_call 38; (with_reducible refine Calls.mono (HWK.out _ B7.out) ?_); rintro e w8 ⟨rfl, hb⟩; have B8 := Lib.hid (btr B7.out hb); clear hb))
              go_ret
              exact ⟨rfl, B8.out⟩
          | true =>
            obtain rfl : f1 = 0 := HBF.out rfl
            obtain ⟨g, r, h, m, hl, hfd, hbt, hml⟩ := HBP.out 0 rfl HALL.out
            subst hfd
            subst hl
            dsimp only at HFD
            have HBT : Hid (∀ W (o : Option Addr) (c : Nat), Below w.heap.size w W → RowsAt 4 hpC o (h :: m) W → (h :: m).length ≤ 1000 → Calls Tryd.prog 41 #[.slice ol (g :: r).length cl, .slice o (h :: m).length c] W fun e w' => e = .returned (.bool false) ∧ Below W.heap.size W w') := fun W o c hb hr hn => hbt ▸ better_l g r h m ol cl o c W (HL.out.below hb) hr (by have := Q2.out; omega) hn
            clear hbt HBP HBF HALL
            have HLM : Hid ((h :: m).length ≤ 1000) := by show _ ≤ _; omega
            obtain ⟨lm, hlm⟩ : ∃ n, (h :: m).length = n := ⟨_, rfl⟩
            have hlm0 : 0 < lm := by rw [← hlm]; simp
            have HLMM := Lib.hid hlm
            have i1 : (0 : Int) < (lm : Int) := by omega
            rw [hlm] at HFD HBT
            clear hlm0 hml hlm
            obtain ⟨lr, hlr⟩ : ∃ n, (g :: r).length = n := ⟨_, rfl⟩
            rw [hlr] at HCK HBT ⊢
            clear hlr
            go_wp2_with (first
              | (go_at_call 40; (with_reducible refine Calls.mono (HCK.out _ SB.out) ?_); rintro e w7 ⟨rfl, hb⟩; have B7 := Lib.hid (btr SB.out hb); have T0 := Lib.hid ((hb.block _ (lt_of_heap S0.out)).trans S0.out); have T1 := Lib.hid ((hb.block _ (lt_of_heap S1.out)).trans S1.out); have m0 : w7.cell? ⟨w.heap.size, 0, none⟩ = some (.slice oe el ce) := (by rw [cell_of_row _ _ _ _ _ _ T0.out]; rfl); have m1 : w7.cell? ⟨w.heap.size, 1, none⟩ = some (.slice op pl cp) := (by rw [cell_of_row _ _ _ _ _ _ T0.out]; rfl); obtain ⟨p0, p1, p2, p3, p4, p5, p6⟩ := ask_cells T1.out; have l7 := lt_of_heap T1.out; clear hb)
              | (go_at_call 39; (with_reducible refine Calls.mono (HFD.out _ B7.out) ?_); rintro e8 w8 ⟨hb8, v8, rfl, hown8⟩; obtain ⟨lo, lc, rfl⟩ := own_slice hown8; have B8 := Lib.hid (btr B7.out hb8); obtain ⟨o', c', e', h'⟩ := own_rows hpC_len hown8 HLMM.out; cases e'; have R8 := Lib.hid h'; clear hb8 hown8 h')
              | (go_at_call 41; (with_reducible refine Calls.mono (HBT.out _ lo lc B8.out R8.out (by rw [HLMM.out] at HLM; exact HLM.out)) ?_); rintro e9 w9 ⟨rfl, hb⟩; have B9 := Lib.hid (btr B8.out hb); clear hb)
              | (go_at_call 38; (with_reducible refine Calls.mono (HWK.out _ B9.out) ?_); rintro e10 w10 ⟨rfl, hb⟩; have B10 := Lib.hid (btr B9.out hb); clear hb))
            go_ret
            exact ⟨rfl, B10.out⟩
end Go.Proofs.YtbdimlppnhcicaaDoor
namespace Go.Proofs.YtbdimlppnhcicaaDoor
set_option linter.unusedVariables false
open Go.RowKit Rte
/-! route: the laws as their frames take them -/
theorem len_fit {n : Nat} (h : n ≤ maxLen) : n ≤ 9223372036854775807 := by unfold maxLen at h; omega
theorem is_law (oe : Option Addr) (E : List Edg) (ce : Nat) (op : Option Addr) (P : List Plc) (cp : Nat) (A : AskR) (ob : Option Addr) (cb : Nat) (w : World)
    (hE : RowsAt 4 edgC oe E w) (hP : RowsAt 9 plcC op P w) (mE : E.length ≤ maxLen) (mP : P.length ≤ maxLen) (zE : ∀ x ∈ E, x.chan.size ≤ 140737488351232 ∧ x.a.size ≤ 140737488351232 ∧ x.b.size ≤ 140737488351232) (zP : ∀ x ∈ P, x.chan.size ≤ 140737488351232 ∧ x.frm.size ≤ 140737488351232)
    (hB : StrsAt ob A.bad w) (mB : A.bad.length ≤ maxLen) (zB : ∀ z ∈ A.bad, z.size ≤ 140737488351232) (zf : A.frm.size ≤ 140737488351232) (zd : A.dst.size ≤ 140737488351232) (hL : LibOk w) :
    Calls Tryd.prog 8 #[netV oe E.length ce op P.length cp, askV A ob cb] w fun e w' => e = .returned (.bool true) ∧ Below w.heap.size w w' :=
  is_any oe E ce op P cp A ob cb w hE hP hB ⟨zE, zP, zB, (fun x hx => by cases hx), ⟨zf, zd⟩, len_fit mE, len_fit mP, len_fit mB, by simp⟩ hL
theorem bestl_law (oe : Option Addr) (E : List Edg) (ce : Nat) (op : Option Addr) (P : List Plc) (cp : Nat) (A : AskR) (ob : Option Addr) (cb : Nat) (ol : Option Addr) (l : List Hp) (cl : Nat) (w : World)
    (hE : RowsAt 4 edgC oe E w) (hP : RowsAt 9 plcC op P w) (mE : E.length ≤ maxLen) (mP : P.length ≤ maxLen) (zE : ∀ x ∈ E, x.chan.size ≤ 140737488351232 ∧ x.a.size ≤ 140737488351232 ∧ x.b.size ≤ 140737488351232) (zP : ∀ x ∈ P, x.chan.size ≤ 140737488351232 ∧ x.frm.size ≤ 140737488351232)
    (hB : StrsAt ob A.bad w) (mB : A.bad.length ≤ maxLen) (zB : ∀ z ∈ A.bad, z.size ≤ 140737488351232) (zf : A.frm.size ≤ 140737488351232) (zd : A.dst.size ≤ 140737488351232)
    (hl : RowsAt 4 hpC ol l w) (ml : l.length ≤ maxLen) (zl : ∀ x ∈ l, x.chan.size ≤ 140737488351232 ∧ x.node.size ≤ 140737488351232) (kl : ∀ x ∈ l, HopOk x) (hL : LibOk w) :
    Calls Tryd.prog 9 #[netV oe E.length ce op P.length cp, askV A ob cb, .slice ol l.length cl] w fun e w' => e = .returned (.bool true) ∧ Below w.heap.size w w' :=
  bestl_any oe E ce op P cp A ob cb ol l cl w hE hP hB hl ⟨zE, zP, zB, zl, ⟨zf, zd⟩, len_fit mE, len_fit mP, len_fit mB, len_fit ml⟩ kl hL
end Go.Proofs.YtbdimlppnhcicaaDoor
