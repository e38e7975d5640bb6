/- BookPlays, walked -/
import Derived.Test.YtnaodgljdbkmnaaDoorBookS
import Derived.Test.YtnaodgljdbkmnaaDoorBookN
import Derived.Test.YtnaodgljdbkmnaaDoorBookL
import Derived.Test.YtnaodgljdbkmnaaDoorBookI
import Derived.Test.YtnaodgljdbkmnaaDoorBookK
import Derived.Deep.MidRow
import Derived.Deep.RegionHeld3
namespace Go.Proofs.YtnaodgljdbkmnaaDoor
set_option linter.unusedVariables false
open Go.RowKit
set_option maxRecDepth 100000 in
set_option maxHeartbeats 8000000 in
theorem bsame_any (b : Bil) (w : World) : Calls Tryd.prog 59 #[.agg #[.string b.hash, .string b.pre, .int .i64 b.amt, .int .i64 b.stamp, .int .i64 b.exp, .int .i64 b.delta, .string b.memo, .bool b.paid], .agg #[.string b.hash, .string b.pre, .int .i64 b.amt, .int .i64 b.stamp, .int .i64 b.exp, .int .i64 b.delta, .string b.memo, .bool b.paid]] w fun e w' => e = .returned (.bool true) ∧ Below w.heap.size w w' := by
  have hbb : (b.paid == b.paid) = true := by simp
  go_enter Tryd.func59, Tryd.ntmps59
  go_upto_region 1 with fail
  have K1 := heap_alloc_at w (.cells #[.string b.hash, .string b.pre, .int .i64 b.amt, .int .i64 b.stamp, .int .i64 b.exp, .int .i64 b.delta, .string b.memo, .bool b.paid] 58)
  have B1 := below_new' w (.cells #[.string b.hash, .string b.pre, .int .i64 b.amt, .int .i64 b.stamp, .int .i64 b.exp, .int .i64 b.delta, .string b.memo, .bool b.paid] 58)
  have hz1 : (w.alloc (.cells #[.string b.hash, .string b.pre, .int .i64 b.amt, .int .i64 b.stamp, .int .i64 b.exp, .int .i64 b.delta, .string b.memo, .bool b.paid] 58)).heap.size = w.heap.size + 1 := by simp
  generalize w.alloc (.cells #[.string b.hash, .string b.pre, .int .i64 b.amt, .int .i64 b.stamp, .int .i64 b.exp, .int .i64 b.delta, .string b.memo, .bool b.paid] 58) = w1 at K1 B1 hz1 ⊢
  obtain ⟨k1, hk1⟩ : ∃ k, w.heap.size = k := ⟨_, rfl⟩
  have HK1 := Lib.hid hk1
  rw [hk1] at K1 hz1 ⊢
  clear hk1
  have K2 := heap_alloc_at w1 (.cells #[.string b.hash, .string b.pre, .int .i64 b.amt, .int .i64 b.stamp, .int .i64 b.exp, .int .i64 b.delta, .string b.memo, .bool b.paid] 101)
  have B2 := below_new' w1 (.cells #[.string b.hash, .string b.pre, .int .i64 b.amt, .int .i64 b.stamp, .int .i64 b.exp, .int .i64 b.delta, .string b.memo, .bool b.paid] 101)
  have K3 := (B2.block k1 (lt_of_heap K1)).trans K1
  have BB := Lib.hid (B1.trans (B2.mono B1.size))
  generalize w1.alloc (.cells #[.string b.hash, .string b.pre, .int .i64 b.amt, .int .i64 b.stamp, .int .i64 b.exp, .int .i64 b.delta, .string b.memo, .bool b.paid] 101) = w2 at K2 K3 BB ⊢
  rw [hz1] at K2
  obtain ⟨a0, a1, a2, a3, a4, a5, a6, a7⟩ := eight K3
  obtain ⟨r0, r1, r2, r3, r4, r5, r6, r7⟩ := eight K2
  clear K1 K2 K3 B1 B2 hz1
  go_wp2_with fail
  go_ret
  exact ⟨rfl, BB.out⟩
/-- what is told, from a place on -/
def RowFrom (W : World) (g cap : Nat) (L : List Ent) (k : Nat) : Prop := ∃ cur : Array Value, W.heap[g]? = some (.cells cur 58 (0, 0)) ∧ cur.size = cap * 8 ∧ ∀ i, k * 8 ≤ i → i < L.length * 8 → cur[i]? = (billCells L)[i]?
theorem RowFrom.below {W W' : World} {g cap : Nat} {L : List Ent} {k : Nat} (h : RowFrom W g cap L k) (hb : Below W.heap.size W W') : RowFrom W' g cap L k := by
  obtain ⟨cur, h1, h2⟩ := h
  exact ⟨cur, (hb.block g (lt_of_heap h1)).trans h1, h2⟩
theorem RowFrom.set {W : World} {g cap : Nat} {L : List Ent} {k : Nat} (h : RowFrom W g cap L k) (x y : Value) : RowFrom ((W.setCell ⟨g, k * 8 + 7, none⟩ x).setCell ⟨g, k * 8 + 6, none⟩ y) g cap L (k + 1) := by
  obtain ⟨cur, h1, h2, h3⟩ := h
  refine ⟨(cur.setIfInBounds (k * 8 + 7) x).setIfInBounds (k * 8 + 6) y, ?_, by simp [h2], fun i hi hl => ?_⟩
  · rw [heap_setCell_same _ g _ _ 58 _ (heap_setCell_same _ g _ _ 58 _ h1)]
  · rw [Array.getElem?_setIfInBounds_ne (by omega), Array.getElem?_setIfInBounds_ne (by omega)]
    exact h3 i (by omega) hl
theorem RowFrom.at {W : World} {g cap : Nat} {L : List Ent} {k : Nat} {e : Ent} (h : RowFrom W g cap L k) (he : L[k]? = some e) : W.rangeAt g (k * 8) [.string e.2.hash, .string e.2.pre, .int .i64 e.2.amt, .int .i64 e.2.stamp, .int .i64 e.2.exp, .int .i64 e.2.delta, .string e.2.memo, .bool e.2.paid] ∧ W.cell? ⟨g, k * 8 + 7, none⟩ = some (.bool e.2.paid) ∧ W.frozen? ⟨g, k * 8 + 7, none⟩ = false ∧ W.cell? ⟨g, k * 8 + 6, none⟩ = some (.string e.2.memo) ∧ W.frozen? ⟨g, k * 8 + 6, none⟩ = false := by
  obtain ⟨cur, h1, h2, h3⟩ := h
  have hk := (List.getElem?_eq_some_iff.1 he).1
  have hat : ∀ j, j < 8 → W.cell? ⟨g, k * 8 + j, none⟩ = e.2.cells[j]? := fun j hj => by
    rw [cell_of_row _ _ _ _ _ _ h1, h3 _ (by omega) (by omega), bill_at he j hj]
  refine ⟨fun j v hv => ?_, hat 7 (by omega), frozen_of_row _ _ _ _ _ h1, hat 6 (by omega), frozen_of_row _ _ _ _ _ h1⟩
  have hj : j < 8 := (List.getElem?_eq_some_iff.1 hv).1
  exact (hat j hj).trans hv
set_option maxRecDepth 100000 in
set_option maxHeartbeats 16000000 in
theorem ball_any (base bk mm db : Nat) (v u : Value) (L : List Ent) (w : World) (h : BookAt w base bk mm v L) (hd : DBookAt w base db u L) : Calls Tryd.prog 38 #[.pointer (some ⟨bk, 0, none⟩), .pointer (some ⟨db, 0, none⟩)] w fun e w' => e = .returned (.bool true) ∧ Below w.heap.size w w' := by
  obtain ⟨ua, uc, rfl⟩ := own_slice hd.own
  have HB := Lib.hid h
  have HD := Lib.hid hd
  have hfew := h.few
  have HBL : Hid (Calls Tryd.prog 41 #[.pointer (some ⟨bk, 0, none⟩)] w (BillsPost L w)) := bills_any base bk mm v L w h
  have HC : Hid (∀ W, Below w.heap.size w W → Calls Tryd.prog 36 #[.pointer (some ⟨bk, 0, none⟩)] W fun e w' => e = .returned (.int .i64 L.length) ∧ Below W.heap.size W w') := fun W hW => bcount_any base bk mm v L W (h.below hW)
  clear h hd
  go_enter Tryd.func38, Tryd.ntmps38
  go_upto_region 4 with (first
    | (go_at_call 41; (with_reducible refine Calls.mono HBL.out ?_); rintro e w1 ⟨lv, rfl, hrow, hb1⟩; have B1 := Lib.hid hb1; obtain ⟨la, lc, rfl⟩ := own_slice hrow; have HR1 := Lib.hid hrow; have d1 := (HD.out.below hb1).cell; clear hb1 hrow)
    | (go_at_call 36; (with_reducible refine Calls.mono (HC.out _ B1.out) ?_); rintro e w2 ⟨rfl, hb2⟩; have B2 := Lib.hid (B1.out.trans (hb2.mono B1.out.size)); have HR2 := Lib.hid (own_below HR1.out hb2); clear hb2))
  go_wp2_with fail
  go_loopw [6] (fun iv wr => ∃ k : Nat, k ≤ L.length ∧ iv = .int .i64 k ∧ Hid (Below w.heap.size w wr) ∧ Hid (∀ g, la = some ⟨g, 0, none⟩ → RowFrom wr g lc L k)) (fun iv _ => L.length - (intOf iv).toNat)
  case atStart =>
    refine ⟨0, Nat.zero_le _, rfl, B2.out, fun g hg => ?_⟩
    subst hg
    rcases HR2.out.2 with ⟨hv, _⟩ | ⟨g', cap, cur, hv, _, hh, _, _, hs, ht⟩
    · cases hv
    · cases hv
      refine ⟨cur, hh, hs, fun i _ hi => ?_⟩
      rw [← ht, List.getElem?_take, if_pos hi, Array.getElem?_toList]
  case round =>
    obtain ⟨k, hk, rfl, hB, hF⟩ := hrel
    have hBs := hB.out.size
    by_cases hlt : k < L.length
    · obtain ⟨e, he⟩ : ∃ e, L[k]? = some e := ⟨_, List.getElem?_eq_getElem hlt⟩
      obtain ⟨g0, cap0, cur0, hv0, hgb, _⟩ := row_cellsG HR2.out (by omega)
      cases hv0
      obtain ⟨hr1, c7, f7, c6, f6⟩ := (hF.out g0 rfl).at he
      obtain ⟨g, cap, hvv, hr2, _, _, _⟩ := (HD.out.below hB.out).bill he
      cases hvv
      have d1 := (HD.out.below hB.out).cell
      have hkl : (k : Int) < (L.length : Int) := by omega
      have a0 := fun n : Later wr => cell_later n.below (show wr.cell? ⟨g0, k * 8, none⟩ = some (.string e.2.hash) from hr1 0 _ rfl)
      have a1 := fun n : Later wr => cell_later n.below (show wr.cell? ⟨g0, k * 8 + 1, none⟩ = some (.string e.2.pre) from hr1 1 _ rfl)
      have a2 := fun n : Later wr => cell_later n.below (show wr.cell? ⟨g0, k * 8 + 2, none⟩ = some (.int .i64 e.2.amt) from hr1 2 _ rfl)
      have a3 := fun n : Later wr => cell_later n.below (show wr.cell? ⟨g0, k * 8 + 3, none⟩ = some (.int .i64 e.2.stamp) from hr1 3 _ rfl)
      have a4 := fun n : Later wr => cell_later n.below (show wr.cell? ⟨g0, k * 8 + 4, none⟩ = some (.int .i64 e.2.exp) from hr1 4 _ rfl)
      have a5 := fun n : Later wr => cell_later n.below (show wr.cell? ⟨g0, k * 8 + 5, none⟩ = some (.int .i64 e.2.delta) from hr1 5 _ rfl)
      have a6 := fun n : Later wr => cell_later n.below (show wr.cell? ⟨g0, k * 8 + 6, none⟩ = some (.string e.2.memo) from hr1 6 _ rfl)
      have a7 := fun n : Later wr => cell_later n.below (show wr.cell? ⟨g0, k * 8 + 7, none⟩ = some (.bool e.2.paid) from hr1 7 _ rfl)
      have b0 := fun n : Later wr => cell_later n.below (show wr.cell? ⟨g, k * 8, none⟩ = some (.string e.2.hash) from hr2 0 _ rfl)
      have b1 := fun n : Later wr => cell_later n.below (show wr.cell? ⟨g, k * 8 + 1, none⟩ = some (.string e.2.pre) from hr2 1 _ rfl)
      have b2 := fun n : Later wr => cell_later n.below (show wr.cell? ⟨g, k * 8 + 2, none⟩ = some (.int .i64 e.2.amt) from hr2 2 _ rfl)
      have b3 := fun n : Later wr => cell_later n.below (show wr.cell? ⟨g, k * 8 + 3, none⟩ = some (.int .i64 e.2.stamp) from hr2 3 _ rfl)
      have b4 := fun n : Later wr => cell_later n.below (show wr.cell? ⟨g, k * 8 + 4, none⟩ = some (.int .i64 e.2.exp) from hr2 4 _ rfl)
      have b5 := fun n : Later wr => cell_later n.below (show wr.cell? ⟨g, k * 8 + 5, none⟩ = some (.int .i64 e.2.delta) from hr2 5 _ rfl)
      have b6 := fun n : Later wr => cell_later n.below (show wr.cell? ⟨g, k * 8 + 6, none⟩ = some (.string e.2.memo) from hr2 6 _ rfl)
      have b7 := fun n : Later wr => cell_later n.below (show wr.cell? ⟨g, k * 8 + 7, none⟩ = some (.bool e.2.paid) from hr2 7 _ rfl)
      have dl := fun n : Later wr => cell_later n.below d1
      have HC7 := Lib.hid c7
      have HC6 := Lib.hid c6
      have HF7 := Lib.hid f7
      have HF6 := Lib.hid f6
      clear he hr1 hr2 c7 f7 c6 f6 d1
      go_upto_region 7 with fail
      refine wp_region_later (by kernel_rfl) (by kernel_rfl) ?_
      repeat (go_big_quiet_step ((go_at_call 59; exact calls_later (bsame_any e.2 _))))
      refine wpQuiet_nil ?_
      intro _ hw'
      obtain ⟨nq, rfl⟩ := hw'
      clear dl a0 b0 a1 b1 a2 b2 a3 b3 a4 b4 a5 b5 a6 b6 a7 b7
      have hF3 := Lib.hid ((hF.out g0 rfl).below nq.below)
      have B3 := Lib.hid (hB.out.trans (nq.below.mono hBs))
      have c7 := cell_later nq.below HC7.out
      have c6 := cell_later nq.below HC6.out
      have f7 : nq.at_.frozen? ⟨g0, k * 8 + 7, none⟩ = false := by obtain ⟨cur, h1, _⟩ := hF3.out; exact frozen_of_row _ _ _ _ _ h1
      have f6 : nq.at_.frozen? ⟨g0, k * 8 + 6, none⟩ = false := by obtain ⟨cur, h1, _⟩ := hF3.out; exact frozen_of_row _ _ _ _ _ h1
      generalize nq.at_ = wq at hF3 B3 c7 c6 f7 f6 ⊢
      go_wp2_with fail
      go_roundw
      case rel =>
        refine ⟨k + 1, by omega, by go_num, (B3.out.setCell (p := ⟨g0, k * 8 + 7, none⟩) hgb _).setCell (p := ⟨g0, k * 8 + 6, none⟩) hgb _, fun g hg => ?_⟩
        cases hg
        exact hF3.out.set _ _
      case measure => simp [intOf]; omega
    · obtain rfl : k = L.length := by omega
      go_wp2_with fail
      go_ret
      exact ⟨rfl, hB.out⟩
theorem BookAt.nice' {w : World} {base bk mm : Nat} {v : Value} {L : List Ent} (h : BookAt w base bk mm v L) : Nice L := ⟨h.uni, h.few, h.ok⟩
/-- a book and the document's -/
def TwoX (w0 w : World) (base bk mm db : Nat) (L1 L2 : List Ent) : Prop := ∃ v u, BookAt w base bk mm v L1 ∧ DBookAt w base db u L2 ∧ Nice L2 ∧ Below w0.heap.size w0 w
theorem TwoX.bel {w0 w : World} {base bk mm db : Nat} {L1 L2 : List Ent} (h : TwoX w0 w base bk mm db L1 L2) : Below w0.heap.size w0 w := by
  obtain ⟨_, _, _, _, _, h⟩ := h
  exact h
theorem TwoX.next {w0 w w' : World} {base bk mm db : Nat} {L1 L2 : List Ent} (h : TwoX w0 w base bk mm db L1 L2) (hb : Below w.heap.size w w') : TwoX w0 w' base bk mm db L1 L2 := by
  obtain ⟨v, u, h1, h2, h3, h4⟩ := h
  exact ⟨v, u, h1.below hb, h2.below hb, h3, h4.trans (hb.mono h4.size)⟩
theorem TwoX.turnP {w0 w w' : World} {base bk mm db : Nat} {v u x : Value} {L1 L1' L2 : List Ent} {y : Ending} (hb0 : w0.heap.size ≤ base) (h1 : BookAt w base bk mm v L1) (h2 : DBookAt w base db u L2) (hn : Nice L2) (hb : Below w0.heap.size w0 w) (ht : BTurn base bk mm v L1 L1' x w y w') : TwoX w0 w' base bk mm db L1' L2 := by
  have hB := ht.below h1
  obtain ⟨_, v', h1', _, hF⟩ := ht
  have hd : ∀ k, k < w.heap.size → ¬ BkS bk mm v L1 k → w'.heap[k]? = w.heap[k]? := fun k hk hs => hF.block k hk hs
  have kd := hd db (lt_of_heap h2.dbk) (BkS.not h1 h2.dbk (by decide) (by decide) (by decide))
  refine ⟨v', u, h1', ⟨kd.trans h2.dbk, own_blocks h2.own fun g hg => ?_, h2.h1⟩, hn, hb.trans (hB.mono hb0)⟩
  rcases h2.own.2 with ⟨hv, _⟩ | ⟨g', cap, cur, hv, _, hh, _⟩
  · rw [hv] at hg; cases hg
  · rw [hv] at hg
    simp only [Value.ownBlock, Option.some.injEq] at hg
    subst hg
    exact hd g' (lt_of_heap hh) (BkS.not h1 hh (by decide) (by decide) (by decide))
theorem TwoX.turnD {w0 w w' : World} {base bk mm db : Nat} {v u x : Value} {L1 L2 L2' : List Ent} {y : Ending} (hb0 : w0.heap.size ≤ base) (h1 : BookAt w base bk mm v L1) (h2 : DBookAt w base db u L2) (hn : Nice L2') (hb : Below w0.heap.size w0 w) (ht : DTurn base db u L2 L2' x w y w') : TwoX w0 w' base bk mm db L1 L2' := by
  obtain ⟨_, u', h2', _, hF⟩ := ht
  have hlt := lt_of_heap h2.dbk
  have hge : ∀ k, (k = db ∨ u.ownBlock = some k) → base ≤ k := fun k hk => by
    rcases hk with rfl | hk
    · exact h2.h1
    · exact (h2.own.lt k hk).1
  refine ⟨v, u', h1.of_fr hF (fun k hk hs => ?_), h2', hn, hb.trans ((hF.toBelow' (B := w0.heap.size) (fun k _ hs => Nat.le_trans hb0 (hge k hs)) hb.size))⟩
  rcases hs with rfl | hs
  · exact BkS.not h1 h2.dbk (by decide) (by decide) (by decide) hk
  · rcases h2.own.2 with ⟨hv, _⟩ | ⟨g', cap, cur, hv, _, hh, _⟩
    · rw [hv] at hs; cases hs
    · rw [hv] at hs
      simp only [Value.ownBlock, Option.some.injEq] at hs
      subst hs
      exact BkS.not h1 hh (by decide) (by decide) (by decide) hk
theorem nice_pay {L : List Ent} (h : Nice L) (x : ByteArray) : Nice (setL x L) := by
  unfold setL
  by_cases hs : setE x L = 0
  · rw [if_pos hs]
    refine ⟨by rw [payB_hash]; exact h.uni, by unfold payB; rw [List.length_map]; exact h.few, fun e he => ?_⟩
    unfold payB at he
    obtain ⟨e', he', rfl⟩ := List.mem_map.1 he
    have := h.ok e' he'
    by_cases hb : (x == e'.2.hash) = true
    · rw [if_pos hb]; exact ⟨this.a0, this.a1, this.s0, this.s1, this.e0, this.e1, this.d0, this.d1, this.hs, this.ps, this.ms⟩
    · rw [if_neg hb]; exact this
  · rw [if_neg hs]; exact h
theorem nice_prune {L : List Ent} (h : Nice L) (now : Int) : Nice (L.filter (kp now)) :=
  ⟨nodup_filter_map h.uni, Nat.le_trans (List.length_filter_le _ _) h.few, fun e he => h.ok e (List.mem_filter.1 he).1⟩
/-- the books, and a call's argument in memory -/
def RdX (w0 w : World) (base bk mm db k6 : Nat) (cs : Array Value) (L1 L2 : List Ent) : Prop := TwoX w0 w base bk mm db L1 L2 ∧ w.heap[k6]? = some (.cells cs 50 (0, 0))
section
variable {w0 W : World} {base bk mm db k6 : Nat} {L1 L2 : List Ent} {cs : Array Value}
theorem TwoX.base_le (h : TwoX w0 W base bk mm db L1 L2) : base ≤ W.heap.size := by
  obtain ⟨v, u, h1, h2, hn, hb⟩ := h
  have := h1.h1
  have := lt_of_heap h1.bkk
  omega
theorem rdx_settledP (hb0 : w0.heap.size ≤ base) (h : RdX w0 W base bk mm db k6 cs L1 L2) (x : ByteArray) : Calls Tryd.prog 31 #[.pointer (some ⟨bk, 0, none⟩), .string x] W fun y w' => y = .returned (.int .i64 (setE x L1)) ∧ RdX w0 w' base bk mm db k6 cs (setL x L1) L2 := by
  obtain ⟨⟨v, u, h1, h2, hn, hb⟩, hk⟩ := h
  refine (settled_any base bk mm v L1 W h1 x).mono fun y w' ht => ⟨ht.1, TwoX.turnP hb0 h1 h2 hn hb ht, ?_⟩
  exact ht.keep h1 hk (by decide) (by decide) (by decide)
theorem keepD {v u x : Value} {L2' : List Ent} {y : Ending} {w' : World} (h2 : DBookAt W base db u L2) (ht : DTurn base db u L2 L2' x W y w') (hk : W.heap[k6]? = some (.cells cs 50 (0, 0))) : w'.heap[k6]? = some (.cells cs 50 (0, 0)) := by
  obtain ⟨_, u', h2', _, hF⟩ := ht
  refine (hF.block k6 (lt_of_heap hk) (fun hs => ?_)).trans hk
  rcases hs with hs | hs
  · exact type_ne hk h2.dbk (by decide) hs
  · exact own_neT h2.own hk (by decide) k6 hs rfl
theorem rdx_settledD (hb0 : w0.heap.size ≤ base) (h : RdX w0 W base bk mm db k6 cs L1 L2) (x : ByteArray) : Calls Tryd.prog 55 #[.pointer (some ⟨db, 0, none⟩), .string x] W fun y w' => y = .returned (.int .i64 (setE x L2)) ∧ RdX w0 w' base bk mm db k6 cs L1 (setL x L2) := by
  obtain ⟨⟨v, u, h1, h2, hn, hb⟩, hk⟩ := h
  exact (dsettled_any base db u L2 W h2 hn x).mono fun y w' ht => ⟨ht.1, TwoX.turnD hb0 h1 h2 (nice_pay hn x) hb ht, keepD (v := v) h2 ht hk⟩
theorem rdx_pruneP (hb0 : w0.heap.size ≤ base) (h : RdX w0 W base bk mm db k6 cs L1 L2) (now : Int) : Calls Tryd.prog 32 #[.pointer (some ⟨bk, 0, none⟩), .int .i64 now] W fun y w' => y = .returned (.int .i64 ((L1.length : Int) - ((L1.filter (kp now)).length : Int))) ∧ RdX w0 w' base bk mm db k6 cs (L1.filter (kp now)) L2 := by
  obtain ⟨⟨v, u, h1, h2, hn, hb⟩, hk⟩ := h
  refine (prune_any base bk mm v L1 W h1 now).mono fun y w' ht => ⟨ht.1, TwoX.turnP hb0 h1 h2 hn hb ht, ?_⟩
  exact ht.keep h1 hk (by decide) (by decide) (by decide)
theorem rdx_pruneD (hb0 : w0.heap.size ≤ base) (h : RdX w0 W base bk mm db k6 cs L1 L2) (now : Int) : Calls Tryd.prog 56 #[.pointer (some ⟨db, 0, none⟩), .int .i64 now] W fun y w' => y = .returned (.int .i64 ((L2.length : Int) - ((L2.filter (kp now)).length : Int))) ∧ RdX w0 w' base bk mm db k6 cs L1 (L2.filter (kp now)) := by
  have hbl := h.1.base_le
  obtain ⟨⟨v, u, h1, h2, hn, hb⟩, hk⟩ := h
  exact (dprune_any base db u L2 W h2 hn hbl now).mono fun y w' ht => ⟨ht.1, TwoX.turnD hb0 h1 h2 (nice_prune hn now) hb ht, keepD (v := v) h2 ht hk⟩
theorem twx_askP (hb0 : w0.heap.size ≤ base) (h : RdX w0 W base bk mm db k6 cs L1 L2) (pre : ByteArray) (amt now exp delta : Int) (memo : ByteArray) (hp : pre.size ≤ maxLen) (hmm : memo.size ≤ maxLen) (hL : LibOk W) :
    Calls Tryd.prog 33 #[.pointer (some ⟨bk, 0, none⟩), .string pre, .int .i64 amt, .int .i64 now, .int .i64 exp, .int .i64 delta, .string memo] W fun y w' => y = .returned (askV L1 pre amt now exp delta memo) ∧ ∃ L', AskD L1 L' pre amt now exp delta memo ∧ RdX w0 w' base bk mm db k6 cs L' L2 := by
  obtain ⟨⟨v, u, h1, h2, hn, hb⟩, hk⟩ := h
  refine (ask_sum base bk mm v L1 W h1 pre amt now exp delta memo hp hmm hL).mono fun y w' ⟨L', ht, hd⟩ => ⟨ht.1, L', hd, TwoX.turnP hb0 h1 h2 hn hb ht, ?_⟩
  exact ht.keep h1 hk (by decide) (by decide) (by decide)
theorem twx_askD {L' : List Ent} (hb0 : w0.heap.size ≤ base) (h : RdX w0 W base bk mm db k6 cs L' L1) (pre : ByteArray) (amt now exp delta : Int) (memo : ByteArray) (hp : pre.size ≤ maxLen) (hmm : memo.size ≤ maxLen) (hd : AskD L1 L' pre amt now exp delta memo) :
    Calls Tryd.prog 60 #[.pointer (some ⟨db, 0, none⟩), .string pre, .int .i64 amt, .int .i64 now, .int .i64 exp, .int .i64 delta, .string memo] W fun y w' => y = .returned (askV L1 pre amt now exp delta memo) ∧ RdX w0 w' base bk mm db k6 cs L' L' := by
  obtain ⟨⟨v, u, h1, h2, hn, hb⟩, hk⟩ := h
  have hn' := h1.nice'
  refine (dask_any base db u L1 W h2 hn pre amt now exp delta memo hp hmm).mono fun y w' ht => ?_
  rcases ht with ⟨h0, ht⟩ | ⟨h0, ht⟩
  · rcases hd with ⟨_, rfl⟩ | ⟨h0', _⟩
    · refine ⟨?_, TwoX.turnD hb0 h1 h2 hn' hb ht, keepD (v := v) h2 ht hk⟩
      rw [ht.1]; unfold askV; rw [if_neg h0]
    · exact absurd h0' h0
  · rcases hd with ⟨h0', _⟩ | ⟨_, bb, rfl⟩
    · exact absurd h0 h0'
    · refine ⟨?_, TwoX.turnD hb0 h1 h2 hn' hb (ht bb), keepD (v := v) h2 (ht bb) hk⟩
      rw [(ht bb).1]; unfold askV; rw [if_pos h0]
theorem rdx_offer (h : RdX w0 W base bk mm db k6 cs L1 L1) (x : ByteArray) (amt now height expiry : Int) : ∃ u y0, (Calls Tryd.prog 29 #[.pointer (some ⟨bk, 0, none⟩), .string x, .int .i64 amt, .int .i64 now, .int .i64 height, .int .i64 expiry] W fun y w' => y = .returned (.tuple #[.string u, .int .i64 y0]) ∧ Below W.heap.size W w') ∧
    ∀ W', Below W.heap.size W W' → Calls Tryd.prog 54 #[.pointer (some ⟨db, 0, none⟩), .string x, .int .i64 amt, .int .i64 now, .int .i64 height, .int .i64 expiry] W' fun y w' => y = .returned (.tuple #[.string u, .int .i64 y0]) ∧ Below W'.heap.size W' w' := by
  obtain ⟨⟨v, u, h1, h2, hn, hb⟩, hk⟩ := h
  obtain ⟨a, b, hV⟩ := offV_shape (findB x L1 0) amt now height expiry
  refine ⟨a, b, ?_, fun W' hW => ?_⟩
  · have := offer_any base bk mm v L1 W h1 x amt now height expiry
    rw [hV] at this; exact this
  · have := doffer_any base db u L1 W' (h2.below hW) hn x amt now height expiry
    rw [hV] at this; exact this
theorem RdX.next {w' : World} (h : RdX w0 W base bk mm db k6 cs L1 L2) (hb : Below W.heap.size W w') : RdX w0 w' base bk mm db k6 cs L1 L2 := ⟨h.1.next hb, (hb.block k6 (lt_of_heap h.2)).trans h.2⟩
end
theorem run_eql_inv (w : World) (a b : Int) (h p m : ByteArray) (c d : Int) : (binOp .eql 62 (.agg #[.int .i64 a, .int .i64 b, .string h, .string p, .string m, .int .i64 c, .int .i64 d, .string ⟨#[]⟩]) (.agg #[.int .i64 a, .int .i64 b, .string h, .string p, .string m, .int .i64 c, .int .i64 d, .string ⟨#[]⟩])).run Tryd.prog w = .ok (.bool true) w := by
  have hf : (Tryd.prog.fieldsOf 62).toList.map (fun f => (f.name, f.type, f.offset)) = [("Amount", 2, 0), ("Stamp", 2, 1), ("Hash", 22, 2), ("Payee", 22, 3), ("Memo", 9, 4), ("Expiry", 2, 5), ("Delta", 3, 6), ("Sig", 22, 7)] := by kernel_rfl
  have key : ∀ (l : List Field), l.map (fun f => (f.name, f.type, f.offset)) = [("Amount", 2, 0), ("Stamp", 2, 1), ("Hash", 22, 2), ("Payee", 22, 3), ("Memo", 9, 4), ("Expiry", 2, 5), ("Delta", 3, 6), ("Sig", 22, 7)] →
      (Op.eqFields 9999 #[.int .i64 a, .int .i64 b, .string h, .string p, .string m, .int .i64 c, .int .i64 d, .string ⟨#[]⟩] #[.int .i64 a, .int .i64 b, .string h, .string p, .string m, .int .i64 c, .int .i64 d, .string ⟨#[]⟩] l).run Tryd.prog w = .ok true w := by
    intro l hl
    have hlen : l.length = 8 := by have := congrArg List.length hl; simpa using this
    match l, hlen, hl with
    | [f0, f1, f2, f3, f4, f5, f6, f7], _, hl =>
      simp only [List.map_cons, List.map_nil, List.cons.injEq, Prod.mk.injEq, and_true] at hl
      obtain ⟨⟨n0, t0, o0⟩, ⟨n1, t1, o1⟩, ⟨n2, t2, o2⟩, ⟨n3, t3, o3⟩, ⟨n4, t4, o4⟩, ⟨n5, t5, o5⟩, ⟨n6, t6, o6⟩, ⟨n7, t7, o7⟩⟩ := hl
      obtain ⟨p0, p1, p2, p3, p4, p5, p6, p7⟩ := run_part_inv (.int .i64 a) (.int .i64 b) (.string h) (.string p) (.string m) (.int .i64 c) (.int .i64 d) (.string ⟨#[]⟩) w
      simp only [Op.eqFields, n0, t0, o0, n1, t1, o1, n2, t2, o2, n3, t3, o3, n4, t4, o4, n5, t5, o5, n6, t6, o6, n7, t7, o7]
      simp only [Sem.run_bind, Sem.run_ite, p0, p1, p2, p3, p4, p5, p6, p7, Result.andThen_ok, run_equalIn_string w _ 9 m m Tryd.underlying9, run_equalIn_string w _ 22 h h Tryd.underlying22, run_equalIn_string w _ 22 p p Tryd.underlying22, run_equalIn_string w _ 22 ⟨#[]⟩ ⟨#[]⟩ Tryd.underlying22, run_equalIn_int w _ 2 .i64 .i64 _ _ Tryd.underlying2, run_equalIn_int w _ 3 .i64 .i64 _ _ Tryd.underlying3, Sem.run_pure]
      simp
  have he : (Op.equal 62 (.agg #[.int .i64 a, .int .i64 b, .string h, .string p, .string m, .int .i64 c, .int .i64 d, .string ⟨#[]⟩]) (.agg #[.int .i64 a, .int .i64 b, .string h, .string p, .string m, .int .i64 c, .int .i64 d, .string ⟨#[]⟩])).run Tryd.prog w = .ok true w := by
    unfold Op.equal Op.maxDepth
    rw [run_equalIn_agg w 9999 62 _ _ (by kernel_rfl) (by kernel_rfl)]
    exact key _ hf
  simp [binOp, he]
def BPost (w0 : World) (base bk mm db : Nat) (e : Ending) (w' : World) : Prop := e = .returned (.bool true) ∧ ∃ L, TwoX w0 w' base bk mm db L L
set_option maxRecDepth 100000 in
set_option maxHeartbeats 32000000 in
theorem bplays_any (w0 W : World) (base bk mm db : Nat) (L : List Ent) (hb0 : w0.heap.size ≤ base) (hT : TwoX w0 W base bk mm db L L) (kd am n e h : Int) (t s : ByteArray) (hk0 : 0 ≤ kd) (hk1 : kd < 256) (ht : t.size ≤ maxLen) (hs : s.size ≤ maxLen) (hL : LibOk w0) :
    Calls Tryd.prog 37 #[.pointer (some ⟨bk, 0, none⟩), .pointer (some ⟨db, 0, none⟩), .agg #[.int .u8 kd, .string t, .int .i64 am, .int .i64 n, .int .i64 e, .int .i64 h, .string s]] W (BPost w0 base bk mm db) := by
  have HT := Lib.hid hT
  have HL : Hid (∀ W, Below w0.heap.size w0 W → LibOk W) := fun W hW => hL.below hW
  clear hT hL
  go_enter Tryd.func37, Tryd.ntmps37
  go_upto_region 1 with fail
  have K6 := heap_alloc_at W (.cells #[.int .u8 kd, .string t, .int .i64 am, .int .i64 n, .int .i64 e, .int .i64 h, .string s] 50)
  have R6 : Hid (RdX w0 (W.alloc (.cells #[.int .u8 kd, .string t, .int .i64 am, .int .i64 n, .int .i64 e, .int .i64 h, .string s] 50)) base bk mm db W.heap.size #[.int .u8 kd, .string t, .int .i64 am, .int .i64 n, .int .i64 e, .int .i64 h, .string s] L L) := ⟨HT.out.next (below_new' W _), K6⟩
  generalize W.alloc (.cells #[.int .u8 kd, .string t, .int .i64 am, .int .i64 n, .int .i64 e, .int .i64 h, .string s] 50) = wa at K6 R6 ⊢
  generalize W.heap.size = k6 at K6 R6 ⊢
  obtain ⟨r0, r1, r2, r3, r4, r5, r6⟩ := seven K6
  clear K6
  by_cases k2 : kd % 6 = 2
  · have e2 : (kd % 6 == 2) = true := by simpa using k2
    clear k2
    obtain ⟨u, x, h1, h2⟩ := rdx_offer R6.out t am n h e
    have HO1 := Lib.hid h1
    have HO2 := Lib.hid h2
    clear h1 h2
    have huu : (u.toList == u.toList) = true := by simp
    go_wp2_with (first
      | (go_at_call 54; (with_reducible refine Calls.mono (HO2.out w5 B5.out) ?_); rintro y w7 ⟨rfl, hb7⟩; have B7 := Lib.hid (B5.out.trans (hb7.mono B5.out.size)); clear hb7)
      | (go_at_call 29; (with_reducible refine Calls.mono HO1.out ?_); rintro y w5 ⟨rfl, hb5⟩; have B5 := Lib.hid hb5; obtain ⟨s0, s1, s2, s3, s4, s5, s6⟩ := seven ((hb5.block _ (lt_of_heap R6.out.2)).trans R6.out.2); clear hb5))
    go_ret
    exact ⟨by simp, L, R6.out.1.next B7.out⟩
  have e2 : (kd % 6 == 2) = false := by simpa using k2
  by_cases k3 : kd % 6 = 3
  · have e3 : (kd % 6 == 3) = true := by simpa using k3
    clear k3
    obtain ⟨x, hx⟩ : ∃ x, setE t L = x := ⟨_, rfl⟩
    have HSA : Hid (∀ W L2, RdX w0 W base bk mm db k6 #[.int .u8 kd, .string t, .int .i64 am, .int .i64 n, .int .i64 e, .int .i64 h, .string s] L L2 → Calls Tryd.prog 31 #[.pointer (some ⟨bk, 0, none⟩), .string t] W fun y w' => y = .returned (.int .i64 x) ∧ RdX w0 w' base bk mm db k6 #[.int .u8 kd, .string t, .int .i64 am, .int .i64 n, .int .i64 e, .int .i64 h, .string s] (setL t L) L2 ∧ w'.cell? ⟨k6, 1, none⟩ = some (.string t)) := fun W L2 hW => (rdx_settledP hb0 hW t).mono fun y w' ⟨h1, h2⟩ => ⟨by rw [h1, hx], h2, (seven h2.2).2.1⟩
    have HSB : Hid (∀ W L1, RdX w0 W base bk mm db k6 #[.int .u8 kd, .string t, .int .i64 am, .int .i64 n, .int .i64 e, .int .i64 h, .string s] L1 L → Calls Tryd.prog 55 #[.pointer (some ⟨db, 0, none⟩), .string t] W fun y w' => y = .returned (.int .i64 x) ∧ RdX w0 w' base bk mm db k6 #[.int .u8 kd, .string t, .int .i64 am, .int .i64 n, .int .i64 e, .int .i64 h, .string s] L1 (setL t L) ∧ w'.cell? ⟨k6, 1, none⟩ = some (.string t)) := fun W L1 hW => (rdx_settledD hb0 hW t).mono fun y w' ⟨h1, h2⟩ => ⟨by rw [h1, hx], h2, (seven h2.2).2.1⟩
    clear hx r2 r3 r4 r5 r6
    go_upto_region 7 with fail
    clear r0
    have Z0 : RdX w0 wa.drew base bk mm db k6 #[.int .u8 kd, .string t, .int .i64 am, .int .i64 n, .int .i64 e, .int .i64 h, .string s] L L := R6.out.next (Below.refl _ _).drew
    go_region_held3 (fun w' => w'.cell? ⟨k6, 1, none⟩ = some (.string t))
      (first | go_keep | assumption)
      ((first
        | (go_at_call 31; (with_reducible refine Calls.mono (HSA.out _ _ (by assumption)) ?_); rintro y w7 ⟨rfl, Z1, c7⟩)
        | (go_at_call 55; (with_reducible refine Calls.mono (HSB.out _ _ (by assumption)) ?_); rintro y w8 ⟨rfl, Z2, c8⟩)))
    all_goals go_wp2_with fail
    all_goals go_ret
    all_goals exact ⟨by simp, setL t L, (by assumption : RdX w0 _ base bk mm db k6 #[.int .u8 kd, .string t, .int .i64 am, .int .i64 n, .int .i64 e, .int .i64 h, .string s] (setL t L) (setL t L)).1⟩
  have e3 : (kd % 6 == 3) = false := by simpa using k3
  by_cases k4 : kd % 6 = 4
  · have e4 : (kd % 6 == 4) = true := by simpa using k4
    clear k4
    obtain ⟨x, hx⟩ : ∃ x, ((L.length : Int) - ((L.filter (kp n)).length : Int)) = x := ⟨_, rfl⟩
    have HSA : Hid (∀ W L2, RdX w0 W base bk mm db k6 #[.int .u8 kd, .string t, .int .i64 am, .int .i64 n, .int .i64 e, .int .i64 h, .string s] L L2 → Calls Tryd.prog 32 #[.pointer (some ⟨bk, 0, none⟩), .int .i64 n] W fun y w' => y = .returned (.int .i64 x) ∧ RdX w0 w' base bk mm db k6 #[.int .u8 kd, .string t, .int .i64 am, .int .i64 n, .int .i64 e, .int .i64 h, .string s] (L.filter (kp n)) L2 ∧ w'.cell? ⟨k6, 3, none⟩ = some (.int .i64 n)) := fun W L2 hW => (rdx_pruneP hb0 hW n).mono fun y w' ⟨h1, h2⟩ => ⟨by rw [h1, hx], h2, (seven h2.2).2.2.2.1⟩
    have HSB : Hid (∀ W L1, RdX w0 W base bk mm db k6 #[.int .u8 kd, .string t, .int .i64 am, .int .i64 n, .int .i64 e, .int .i64 h, .string s] L1 L → Calls Tryd.prog 56 #[.pointer (some ⟨db, 0, none⟩), .int .i64 n] W fun y w' => y = .returned (.int .i64 x) ∧ RdX w0 w' base bk mm db k6 #[.int .u8 kd, .string t, .int .i64 am, .int .i64 n, .int .i64 e, .int .i64 h, .string s] L1 (L.filter (kp n)) ∧ w'.cell? ⟨k6, 3, none⟩ = some (.int .i64 n)) := fun W L1 hW => (rdx_pruneD hb0 hW n).mono fun y w' ⟨h1, h2⟩ => ⟨by rw [h1, hx], h2, (seven h2.2).2.2.2.1⟩
    clear hx r1 r2 r4 r5 r6
    go_upto_region 9 with fail
    clear r0
    have Z0 : RdX w0 wa.drew base bk mm db k6 #[.int .u8 kd, .string t, .int .i64 am, .int .i64 n, .int .i64 e, .int .i64 h, .string s] L L := R6.out.next (Below.refl _ _).drew
    go_region_held3 (fun w' => w'.cell? ⟨k6, 3, none⟩ = some (.int .i64 n))
      (first | go_keep | assumption)
      ((first
        | (go_at_call 32; (with_reducible refine Calls.mono (HSA.out _ _ (by assumption)) ?_); rintro y w7 ⟨rfl, Z1, c7⟩)
        | (go_at_call 56; (with_reducible refine Calls.mono (HSB.out _ _ (by assumption)) ?_); rintro y w8 ⟨rfl, Z2, c8⟩)))
    all_goals go_wp2_with fail
    all_goals go_ret
    all_goals exact ⟨by simp, L.filter (kp n), (by assumption : RdX w0 _ base bk mm db k6 #[.int .u8 kd, .string t, .int .i64 am, .int .i64 n, .int .i64 e, .int .i64 h, .string s] (L.filter (kp n)) (L.filter (kp n))).1⟩
  have e4 : (kd % 6 == 4) = false := by simpa using k4
  by_cases k5 : kd % 6 = 5
  · have e5 : (kd % 6 == 5) = true := by simpa using k5
    clear k5
    obtain ⟨B, hB⟩ : ∃ B, gotB (findB t L 0) = B := ⟨_, rfl⟩
    obtain ⟨f, hf⟩ : ∃ f, (findB t L 0).isSome = f := ⟨_, rfl⟩
    obtain ⟨va, vb, vh, vp, vm, vc, vd, hV⟩ := invO_shape (findB t L 0) ⟨#[80, 110, 49, 59]⟩
    obtain ⟨x, hx⟩ : ∃ x : Int, (if (findB t L 0).isSome then 0 else 230) = x := ⟨_, rfl⟩
    have HB1 : Hid (∀ W, RdX w0 W base bk mm db k6 #[.int .u8 kd, .string t, .int .i64 am, .int .i64 n, .int .i64 e, .int .i64 h, .string s] L L → Calls Tryd.prog 34 #[.pointer (some ⟨bk, 0, none⟩), .string t] W fun y w' => y = .returned (.tuple #[.agg #[.string B.hash, .string B.pre, .int .i64 B.amt, .int .i64 B.stamp, .int .i64 B.exp, .int .i64 B.delta, .string B.memo, .bool B.paid], .bool f]) ∧ Below W.heap.size W w') := fun W hW => by
      obtain ⟨⟨v, u, h1, h2, hn, hb⟩, hk⟩ := hW
      have := bill_any base bk mm v L W h1 t
      rw [hB, hf] at this; exact this
    have HB2 : Hid (∀ W, RdX w0 W base bk mm db k6 #[.int .u8 kd, .string t, .int .i64 am, .int .i64 n, .int .i64 e, .int .i64 h, .string s] L L → Calls Tryd.prog 57 #[.pointer (some ⟨db, 0, none⟩), .string t] W fun y w' => y = .returned (.tuple #[.agg #[.string B.hash, .string B.pre, .int .i64 B.amt, .int .i64 B.stamp, .int .i64 B.exp, .int .i64 B.delta, .string B.memo, .bool B.paid], .bool f]) ∧ Below W.heap.size W w') := fun W hW => by
      obtain ⟨⟨v, u, h1, h2, hn, hb⟩, hk⟩ := hW
      have := dbill_any base db u L W h2 hn t
      rw [hB, hf] at this; exact this
    have HI1 : Hid (∀ W, RdX w0 W base bk mm db k6 #[.int .u8 kd, .string t, .int .i64 am, .int .i64 n, .int .i64 e, .int .i64 h, .string s] L L → Calls Tryd.prog 35 #[.pointer (some ⟨bk, 0, none⟩), .string t, .string ⟨#[80, 110, 49, 59]⟩] W fun y w' => y = .returned (.tuple #[.agg #[.int .i64 va, .int .i64 vb, .string vh, .string vp, .string vm, .int .i64 vc, .int .i64 vd, .string ⟨#[]⟩], .int .i64 x]) ∧ Below W.heap.size W w') := fun W hW => by
      obtain ⟨⟨v, u, h1, h2, hn, hb⟩, hk⟩ := hW
      have := invoice_any base bk mm v L W h1 t ⟨#[80, 110, 49, 59]⟩
      rw [hV, hx] at this; exact this
    have HI2 : Hid (∀ W, RdX w0 W base bk mm db k6 #[.int .u8 kd, .string t, .int .i64 am, .int .i64 n, .int .i64 e, .int .i64 h, .string s] L L → Calls Tryd.prog 58 #[.pointer (some ⟨db, 0, none⟩), .string t, .string ⟨#[80, 110, 49, 59]⟩] W fun y w' => y = .returned (.tuple #[.agg #[.int .i64 va, .int .i64 vb, .string vh, .string vp, .string vm, .int .i64 vc, .int .i64 vd, .string ⟨#[]⟩], .int .i64 x]) ∧ Below W.heap.size W w') := fun W hW => by
      obtain ⟨⟨v, u, h1, h2, hn, hb⟩, hk⟩ := hW
      have := dinvoice_any base db u L W h2 hn t ⟨#[80, 110, 49, 59]⟩
      rw [hV, hx] at this; exact this
    clear hB hf hV hx
    have hff : (f == f) = true := by simp
    clear r2 r3 r4 r5 r6
    go_upto_region 12 with (go_at_call 34; (with_reducible refine Calls.mono (HB1.out _ R6.out) ?_); rintro y wc0 ⟨rfl, hb⟩; have Rc0 := Lib.hid (R6.out.next hb); clear hb)
    have BN0 := below_new' wc0 (.cells #[.string B.hash, .string B.pre, .int .i64 B.amt, .int .i64 B.stamp, .int .i64 B.exp, .int .i64 B.delta, .string B.memo, .bool B.paid] 58)
    have K11n := Lib.hid (heap_alloc_at wc0 (.cells #[.string B.hash, .string B.pre, .int .i64 B.amt, .int .i64 B.stamp, .int .i64 B.exp, .int .i64 B.delta, .string B.memo, .bool B.paid] 58))
    have Rd0 := Lib.hid (Rc0.out.next BN0)
    obtain ⟨_, s0, _, _, _, _, _⟩ := seven Rd0.out.2
    clear BN0 r1
    generalize wc0.alloc (.cells #[.string B.hash, .string B.pre, .int .i64 B.amt, .int .i64 B.stamp, .int .i64 B.exp, .int .i64 B.delta, .string B.memo, .bool B.paid] 58) = wd0 at K11n Rd0 s0 ⊢
    generalize wc0.heap.size = k11 at K11n ⊢
    go_upto_region 13 with (go_at_call 57; (with_reducible refine Calls.mono (HB2.out _ Rd0.out) ?_); rintro y wc1 ⟨rfl, hb⟩; have Rc1 := Lib.hid (Rd0.out.next hb); have K11c1 := Lib.hid ((hb.block _ (lt_of_heap K11n.out)).trans K11n.out); clear hb)
    have BN1 := below_new' wc1 (.cells #[.string B.hash, .string B.pre, .int .i64 B.amt, .int .i64 B.stamp, .int .i64 B.exp, .int .i64 B.delta, .string B.memo, .bool B.paid] 101)
    have K13n := Lib.hid (heap_alloc_at wc1 (.cells #[.string B.hash, .string B.pre, .int .i64 B.amt, .int .i64 B.stamp, .int .i64 B.exp, .int .i64 B.delta, .string B.memo, .bool B.paid] 101))
    have K11d1 := Lib.hid ((BN1.block _ (lt_of_heap K11c1.out)).trans K11c1.out)
    have Rd1 := Lib.hid (Rc1.out.next BN1)
    obtain ⟨_, s1, _, _, _, _, _⟩ := seven Rd1.out.2
    clear BN1 s0
    generalize wc1.alloc (.cells #[.string B.hash, .string B.pre, .int .i64 B.amt, .int .i64 B.stamp, .int .i64 B.exp, .int .i64 B.delta, .string B.memo, .bool B.paid] 101) = wd1 at K13n K11d1 Rd1 s1 ⊢
    generalize wc1.heap.size = k13 at K13n ⊢
    go_upto_region 14 with (go_at_call 35; (with_reducible refine Calls.mono (HI1.out _ Rd1.out) ?_); rintro y wc2 ⟨rfl, hb⟩; have Rc2 := Lib.hid (Rd1.out.next hb); have K11c2 := Lib.hid ((hb.block _ (lt_of_heap K11d1.out)).trans K11d1.out); have K13c2 := Lib.hid ((hb.block _ (lt_of_heap K13n.out)).trans K13n.out); clear hb)
    have BN2 := below_new' wc2 (.cells #[.int .i64 va, .int .i64 vb, .string vh, .string vp, .string vm, .int .i64 vc, .int .i64 vd, .string ⟨#[]⟩] 62)
    have K15n := Lib.hid (heap_alloc_at wc2 (.cells #[.int .i64 va, .int .i64 vb, .string vh, .string vp, .string vm, .int .i64 vc, .int .i64 vd, .string ⟨#[]⟩] 62))
    have K11d2 := Lib.hid ((BN2.block _ (lt_of_heap K11c2.out)).trans K11c2.out)
    have K13d2 := Lib.hid ((BN2.block _ (lt_of_heap K13c2.out)).trans K13c2.out)
    have Rd2 := Lib.hid (Rc2.out.next BN2)
    obtain ⟨_, s2, _, _, _, _, _⟩ := seven Rd2.out.2
    clear BN2 s1
    generalize wc2.alloc (.cells #[.int .i64 va, .int .i64 vb, .string vh, .string vp, .string vm, .int .i64 vc, .int .i64 vd, .string ⟨#[]⟩] 62) = wd2 at K15n K11d2 K13d2 Rd2 s2 ⊢
    generalize wc2.heap.size = k15 at K15n ⊢
    go_upto_region 15 with (go_at_call 58; (with_reducible refine Calls.mono (HI2.out _ Rd2.out) ?_); rintro y wc3 ⟨rfl, hb⟩; have Rc3 := Lib.hid (Rd2.out.next hb); have K11c3 := Lib.hid ((hb.block _ (lt_of_heap K11d2.out)).trans K11d2.out); have K13c3 := Lib.hid ((hb.block _ (lt_of_heap K13d2.out)).trans K13d2.out); have K15c3 := Lib.hid ((hb.block _ (lt_of_heap K15n.out)).trans K15n.out); clear hb)
    have BN3 := below_new' wc3 (.cells #[.int .i64 va, .int .i64 vb, .string vh, .string vp, .string vm, .int .i64 vc, .int .i64 vd, .string ⟨#[]⟩] 62)
    have K17n := Lib.hid (heap_alloc_at wc3 (.cells #[.int .i64 va, .int .i64 vb, .string vh, .string vp, .string vm, .int .i64 vc, .int .i64 vd, .string ⟨#[]⟩] 62))
    have K11d3 := Lib.hid ((BN3.block _ (lt_of_heap K11c3.out)).trans K11c3.out)
    have K13d3 := Lib.hid ((BN3.block _ (lt_of_heap K13c3.out)).trans K13c3.out)
    have K15d3 := Lib.hid ((BN3.block _ (lt_of_heap K15c3.out)).trans K15c3.out)
    have Rd3 := Lib.hid (Rc3.out.next BN3)
    obtain ⟨_, s3, _, _, _, _, _⟩ := seven Rd3.out.2
    clear BN3 s2
    generalize wc3.alloc (.cells #[.int .i64 va, .int .i64 vb, .string vh, .string vp, .string vm, .int .i64 vc, .int .i64 vd, .string ⟨#[]⟩] 62) = wd3 at K17n K11d3 K13d3 K15d3 Rd3 s3 ⊢
    generalize wc3.heap.size = k17 at K17n ⊢
    obtain ⟨a0, a1, a2, a3, a4, a5, a6, a7⟩ := eight K11d3.out
    obtain ⟨b0, b1, b2, b3, b4, b5, b6, b7⟩ := eight K13d3.out
    clear s3
    have hql := run_eql_inv
    have HQL := Lib.hid hql
    clear hql
    go_wp2_with (go_at_call 59; (with_reducible refine Calls.mono (bsame_any B _) ?_); rintro y wz ⟨rfl, hbz⟩; have BZ := Lib.hid hbz; obtain ⟨m0, m1, m2, m3, m4, m5, m6, m7⟩ := eight ((hbz.block _ (lt_of_heap K15d3.out)).trans K15d3.out); obtain ⟨n0, n1, n2, n3, n4, n5, n6, n7⟩ := eight ((hbz.block _ (lt_of_heap K17n.out)).trans K17n.out); have hq := HQL.out wz va vb vh vp vm vc vd; clear hbz)
    go_ret
    exact ⟨by simp, L, Rd3.out.1.next BZ.out⟩
  have e5 : (kd % 6 == 5) = false := by simpa using k5
  clear k2 k3 k4 k5
  obtain ⟨u, x, hV⟩ : ∃ u x, askV L t am n e h s = .tuple #[.string u, .int .i64 x] := by
    unfold askV
    by_cases h0 : askE L t am n e h s = 0
    · rw [if_pos h0]; exact ⟨_, _, rfl⟩
    · rw [if_neg h0]; exact ⟨_, _, rfl⟩
  have HA1 : Hid (∀ W, RdX w0 W base bk mm db k6 #[.int .u8 kd, .string t, .int .i64 am, .int .i64 n, .int .i64 e, .int .i64 h, .string s] L L → Calls Tryd.prog 33 #[.pointer (some ⟨bk, 0, none⟩), .string t, .int .i64 am, .int .i64 n, .int .i64 e, .int .i64 h, .string s] W fun y w' => y = .returned (.tuple #[.string u, .int .i64 x]) ∧ ∃ L', AskD L L' t am n e h s ∧ RdX w0 w' base bk mm db k6 #[.int .u8 kd, .string t, .int .i64 am, .int .i64 n, .int .i64 e, .int .i64 h, .string s] L' L) := fun W hW => by
    have := twx_askP hb0 hW t am n e h s ht hs (HL.out W hW.1.bel)
    rw [hV] at this; exact this
  have HA2 : Hid (∀ W L', AskD L L' t am n e h s → RdX w0 W base bk mm db k6 #[.int .u8 kd, .string t, .int .i64 am, .int .i64 n, .int .i64 e, .int .i64 h, .string s] L' L → Calls Tryd.prog 60 #[.pointer (some ⟨db, 0, none⟩), .string t, .int .i64 am, .int .i64 n, .int .i64 e, .int .i64 h, .string s] W fun y w' => y = .returned (.tuple #[.string u, .int .i64 x]) ∧ RdX w0 w' base bk mm db k6 #[.int .u8 kd, .string t, .int .i64 am, .int .i64 n, .int .i64 e, .int .i64 h, .string s] L' L') := fun W L' hd hW => by
    have := twx_askD hb0 hW t am n e h s ht hs hd
    rw [hV] at this; exact this
  clear hV ht hs
  have huu : (u.toList == u.toList) = true := by simp
  go_wp2_with (first
    | (go_at_call 60; (with_reducible refine Calls.mono (HA2.out w5 L' D5.out R5.out) ?_); rintro y w7 ⟨rfl, hr7⟩; have R7 := Lib.hid hr7; clear hr7)
    | (go_at_call 33; (with_reducible refine Calls.mono (HA1.out _ R6.out) ?_); rintro y w5 ⟨rfl, L', hd5, hr5⟩; have R5 := Lib.hid hr5; have D5 := Lib.hid hd5; obtain ⟨s0, s1, s2, s3, s4, s5, s6⟩ := seven hr5.2; clear hd5 hr5))
  go_ret
  exact ⟨by simp, L', R7.out.1⟩
theorem twox_new {w0 w1 w2 : World} {bk mm : Nat} (h : BookAt w2 w1.heap.size bk mm (.slice none 0 0) []) (hb1 : Below w0.heap.size w0 w1) (hb2 : Below w1.heap.size w1 w2) : TwoX w0 (w2.alloc (.cells #[.slice none 0 0] 69)) w1.heap.size bk mm w2.heap.size [] [] := by
  have hb : Below w0.heap.size w0 w2 := hb1.trans (hb2.mono hb1.size)
  exact ⟨_, _, h.below (below_new' w2 _), ⟨heap_alloc_at w2 _, World.ownsRow_nil _ _ _ _, hb2.size⟩, ⟨by simp, by simp, by simp⟩, hb.trans ((below_new' w2 _).mono hb.size)⟩
set_option maxRecDepth 100000 in
set_option maxHeartbeats 16000000 in
theorem bookPlays_any (a : Option Addr) (cp : Nat) (ops : List Opr) (w : World) (hm : ops.length ≤ maxLen) (ho : OpsAt w a ops) (hL : LibOk w) : Calls Tryd.prog 10 #[.slice a ops.length cp] w fun e w' => e = .returned (.bool true) ∧ Below w.heap.size w w' := by
  have HLG := Lib.hid (blarge_any a cp ops w hm ho)
  have HO := Lib.hid ho
  have HL := Lib.hid hL
  have LW : Hid (∀ W, Below w.heap.size w W → Calls Tryd.prog 26 #[] W fun e w' => e = .returned (.bool true) ∧ Below W.heap.size W w') := fun W hW => bworks_any W (hL.below hW)
  clear ho hL
  unfold maxLen at hm
  go_enter Tryd.func10, Tryd.ntmps10
  go_wp2_with fail
  refine Calls.mono HLG.out ?_
  rintro e w1 ⟨b, rfl, hfew, hb1⟩
  have B1 := Lib.hid hb1
  clear hb1
  cases b with
  | true =>
    go_wp2_with (go_at_call 26; (with_reducible refine Calls.mono (LW.out _ B1.out) ?_); rintro e w9 ⟨rfl, hb9⟩; have B9 := Lib.hid (B1.out.trans (hb9.mono B1.out.size)); clear hb9)
    go_ret
    exact ⟨rfl, B9.out⟩
  | false =>
    have hfew' : (ops.length : Int) ≤ 400 := by have := hfew rfl; omega
    clear hfew
    have hbase : w.heap.size ≤ w1.heap.size := B1.out.size
    go_upto_region 4 with (go_at_call 27; (with_reducible refine Calls.mono (bnew_any w1) ?_); rintro e w2 ⟨bk, mm, rfl, hr2, hb2⟩; have R2 := Lib.hid (twox_new hr2 B1.out hb2); clear hr2 hb2)
    generalize w2.alloc (.cells #[.slice none 0 0] 69) = w3 at R2 ⊢
    generalize w2.heap.size = db at R2 ⊢
    obtain ⟨base, hbs⟩ : ∃ base, w1.heap.size = base := ⟨_, rfl⟩
    rw [hbs] at R2 hbase
    clear hbs
    go_wp2_with fail
    go_loopw [5] (fun iv wr => ∃ (i : Nat) (L : List Ent), i ≤ ops.length ∧ iv = .int .i64 i ∧ Hid (TwoX w wr base bk mm db L L)) (fun iv _ => ops.length - (intOf iv).toNat)
    case atStart => exact ⟨0, [], Nat.zero_le _, rfl, R2.out⟩
    case round =>
      obtain ⟨i, L, hi, rfl, hT⟩ := hrel
      by_cases hlt : i < ops.length
      · obtain ⟨o, hoo⟩ : ∃ o, ops[i]? = some o := ⟨_, List.getElem?_eq_getElem hlt⟩
        have hne : ops ≠ [] := by intro h; rw [h] at hlt; simp at hlt
        obtain ⟨b, off, rfl, hrec0⟩ := (HO.out.below hT.out.bel).resolve_left hne
        obtain ⟨hc0, hk0, hk1, ht, hs⟩ := hrec0 i o hoo
        obtain ⟨kd, t, am, n, e, h, s⟩ := o
        have hrng : wr.rangeAt b (off + i * 7) [.int .u8 kd, .string t, .int .i64 am, .int .i64 n, .int .i64 e, .int .i64 h, .string s] := fun j v hv => by
          have hj : j < 7 := (List.getElem?_eq_some_iff.1 hv).1
          exact (hc0 j hj).trans hv
        have HRNG := Lib.hid hrng
        have hii : (i : Int) < (ops.length : Int) := by omega
        simp only at hk0 hk1 ht hs
        have HP := Lib.hid (bplays_any w wr base bk mm db L hbase hT.out kd am n e h t s hk0 hk1 ht hs HL.out)
        have HAL : Hid (∀ W L', TwoX w W base bk mm db L' L' → Calls Tryd.prog 38 #[.pointer (some ⟨bk, 0, none⟩), .pointer (some ⟨db, 0, none⟩)] W fun y w' => y = .returned (.bool true) ∧ TwoX w w' base bk mm db L' L') := fun W L' hW => by
          obtain ⟨v, u, h1, h2, hn, hb⟩ := hW
          exact (ball_any base bk mm db v u L' W h1 h2).mono fun y w' ⟨h3, h4⟩ => ⟨h3, TwoX.next ⟨v, u, h1, h2, hn, hb⟩ h4⟩
        clear hoo hrec0 hc0 hrng ht hs hne hk0 hk1
        go_wp2_with (first
          | (refine wpList_load_mid rfl 50 (.tmp 22) rfl b (off + i * 7) rfl [.int .u8 kd, .string t, .int .i64 am, .int .i64 n, .int .i64 e, .int .i64 h, .string s] _ HRNG.out Tryd.underlying50 rfl (by kernel_rfl) ?_)
          | (go_at_call 37; (with_reducible refine Calls.mono HP.out ?_); rintro y w5 ⟨rfl, L', hr5⟩; have R5 := Lib.hid hr5; clear hr5)
          | (go_at_call 38; (with_reducible refine Calls.mono (HAL.out w7 L' R7.out) ?_); rintro y w8 ⟨rfl, hr8⟩; have R8 := Lib.hid hr8; clear hr8)
          | (go_at_call 38; (with_reducible refine Calls.mono (HAL.out w5 L' R5.out) ?_); rintro y w7 ⟨rfl, hr7⟩; have R7 := Lib.hid hr7; clear hr7))
        go_roundw
        case rel => exact ⟨i + 1, L', by omega, by go_num, R8⟩
        case measure => simp [intOf]; omega
      · obtain rfl : i = ops.length := by omega
        go_wp2_with (go_at_call 26; (with_reducible refine Calls.mono (LW.out _ hT.out.bel) ?_); rintro e w9 ⟨rfl, hb9⟩; have B9 := Lib.hid (hT.out.next hb9); clear hb9)
        go_ret
        exact ⟨rfl, B9.out.bel⟩
end Go.Proofs.YtnaodgljdbkmnaaDoor
