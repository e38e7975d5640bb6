/- the document's Settled, Bill, Invoice -/
import Derived.Test.YtnaodgljdbkmnaaDoorBookQ
import Derived.Laws.Rows
import Derived.Laws.Tables
import Derived.Deep.MidRow
namespace Go.Proofs.YtnaodgljdbkmnaaDoor
set_option linter.unusedVariables false
open Go.RowKit
/-- the document's book turned by a call -/
def DTurn (base db : Nat) (v : Value) (L L' : List Ent) (x : Value) (w : World) (e : Ending) (w' : World) : Prop :=
  e = .returned x ∧ ∃ v', DBookAt w' base db v' L' ∧ (∀ g, v'.ownBlock = some g → v.ownBlock = some g ∨ w.heap.size ≤ g) ∧ Fr (fun k => k = db ∨ v.ownBlock = some k) w w'
theorem dturn_same {base db : Nat} {v : Value} {L : List Ent} {x : Value} {w : World} {e : Ending} {w' : World} (h : DBookAt w base db v L) (he : e = .returned x) (hb : Below w.heap.size w w') : DTurn base db v L L x w e w' :=
  ⟨he, v, h.below hb, fun g hg => .inl hg, Fr.below hb⟩
theorem payB_none {x : ByteArray} {L : List Ent} (h : ∀ e ∈ L, e.2.hash ≠ x) : payB x L = L := by
  unfold payB
  rw [List.map_congr_left (g := id)]
  · simp
  · intro e he
    rw [if_neg (fun hb => h e he ((ba_beq _ _).1 hb).symm)]; rfl
theorem bill_pay {x : ByteArray} : ∀ {L : List Ent} {i j : Nat} {e : Ent}, (L.map (·.2.hash)).Nodup → findB x L i = some (j, e) → billCells (payB x L) = (billCells L).set ((j - i) * 8 + 7) (.bool true)
  | [], _, _, _, _, h => by simp [findB] at h
  | c :: L, i, j, e, hu, h => by
    simp only [List.map_cons, List.nodup_cons] at hu
    have hc : billCells (payB x (c :: L)) = (if (x == c.2.hash) = true then (c.1, { c.2 with paid := true }) else c).2.cells ++ billCells (payB x L) := rfl
    rw [hc, show billCells (c :: L) = c.2.cells ++ billCells L from rfl]
    unfold findB at h
    by_cases hb : (x == c.2.hash) = true
    · rw [if_pos hb] at h ⊢
      cases h
      have hx : c.2.hash = x := ((ba_beq _ _).1 hb).symm
      rw [payB_none (fun e he hq => hu.1 (List.mem_map.2 ⟨e, he, by rw [hq, hx]⟩)), Nat.sub_self, Nat.zero_mul, Nat.zero_add, List.set_append_left _ _ (show 7 < 8 by omega)]
      rfl
    · rw [if_neg hb] at h ⊢
      obtain ⟨h1, _⟩ := findB_idx h
      rw [bill_pay hu.2 h, List.set_append_right _ _ (show 8 ≤ (j - i) * 8 + 7 by omega)]
      congr 2
      show _ = (j - i) * 8 + 7 - 8
      omega
theorem DBookAt.pay {w : World} {base db : Nat} {L : List Ent} {g cap : Nat} (h : DBookAt w base db (.slice (some ⟨g, 0, none⟩) L.length cap) L) (hu : (L.map (·.2.hash)).Nodup) {x : ByteArray} {j : Nat} {e : Ent} (hf : findB x L 0 = some (j, e)) :
    DBookAt (w.setCell ⟨g, j * 8 + 7, none⟩ (.bool true)) base db (.slice (some ⟨g, 0, none⟩) L.length cap) (payB x L) := by
  obtain ⟨_, hj⟩ := findB_idx hf
  rw [Nat.sub_zero] at hj
  have hjl := (List.getElem?_eq_some_iff.1 hj).1
  rcases h.own.2 with ⟨hv, _⟩ | ⟨g', cap', cur, hv, hg, hh, hc, hm, hs, ht⟩
  · cases hv
  · cases hv
    have hgd : db ≠ g := type_ne h.dbk hh (by decide)
    have hlen : (payB x L).length = L.length := by unfold payB; rw [List.length_map]
    refine ⟨(heap_setCell_other _ _ _ _ hgd).trans h.dbk, ?_, h.h1⟩
    rw [hlen, bill_pay hu hf, Nat.sub_zero]
    refine ⟨by rw [List.length_set]; exact h.own.1, .inr ⟨g, cap, cur.setIfInBounds (j * 8 + 7) (.bool true), rfl, hg, ?_, hc, hm, by simpa using hs, ?_⟩⟩
    · rw [heap_setCell_same _ g _ _ 101 _ hh]
    · rw [Array.toList_setIfInBounds, List.take_set, ht]
theorem own_lower {w : World} {b b' t sz n : Nat} {v : Value} {xs : List Value} (h : w.ownsRow b' t sz v n xs) (hb : b ≤ b') : w.ownsRow b t sz v n xs := by
  refine ⟨h.1, ?_⟩
  rcases h.2 with h | ⟨g, cap, cur, hv, hg, h⟩
  · exact .inl h
  · exact .inr ⟨g, cap, cur, hv, Nat.le_trans hb hg, h⟩
set_option maxRecDepth 100000 in
set_option maxHeartbeats 8000000 in
theorem dsettled_any (base db : Nat) (v : Value) (L : List Ent) (w : World) (h : DBookAt w base db v L) (hn : Nice L) (x : ByteArray) : Calls Tryd.prog 55 #[.pointer (some ⟨db, 0, none⟩), .string x] w (DTurn base db v L (setL x L) (.int .i64 (setE x L)) w) := by
  have HF : Hid (Calls Tryd.prog 73 #[.pointer (some ⟨db, 0, none⟩), .string x] w fun e w' => e = .returned (.int .i64 (idxI (findB x L 0))) ∧ Below w.heap.size w w') := dfind_any base db v L w h hn x
  have hfew := hn.few
  unfold setL setE
  cases hf : findB x L 0 with
  | none =>
    rw [hf] at HF
    unfold idxI at HF
    simp only at HF ⊢
    rw [if_neg (by decide)]
    have HH := Lib.hid h
    clear h hf hn
    go_enter Tryd.func55, Tryd.ntmps55
    go_wp2_with (go_at_call 73; (with_reducible refine Calls.mono HF.out ?_); rintro e w1 ⟨rfl, hb1⟩; have B1 := Lib.hid hb1; clear hb1)
    go_ret
    exact dturn_same HH.out rfl B1.out
  | some q =>
    obtain ⟨j, e⟩ := q
    have HFF := Lib.hid hf
    rw [hf] at HF
    unfold idxI at HF
    simp only at HF ⊢
    obtain ⟨_, hj⟩ := findB_idx hf
    rw [Nat.sub_zero] at hj
    have hjl := (List.getElem?_eq_some_iff.1 hj).1
    obtain ⟨g, cap, hvv, _, _, _, _⟩ := h.bill hj
    subst hvv
    have HH := Lib.hid h
    have HJ := Lib.hid hj
    have HN := Lib.hid hn
    have hji : (j : Int) < (L.length : Int) := by omega
    clear h hf hn hj
    rcases Bool.eq_false_or_eq_true e.2.paid with hp | hp
    · simp only [hp, if_true]
      rw [if_neg (by decide)]
      go_enter Tryd.func55, Tryd.ntmps55
      go_wp2_with (go_at_call 73; (with_reducible refine Calls.mono HF.out ?_); rintro e' w1 ⟨rfl, hb1⟩; have B1 := Lib.hid hb1; have h1 := HH.out.below hb1; have c0 := h1.cell; obtain ⟨_, _, hv', _, _, c7, _⟩ := h1.bill HJ.out; cases hv'; rw [hp] at c7; clear hb1 h1)
      go_ret
      exact dturn_same HH.out rfl B1.out
    · simp only [hp, Bool.false_eq_true, if_false]
      rw [if_pos trivial]
      go_enter Tryd.func55, Tryd.ntmps55
      go_wp2_with (go_at_call 73; (with_reducible refine Calls.mono HF.out ?_); rintro e' w1 ⟨rfl, hb1⟩; have B1 := Lib.hid hb1; have h1 := HH.out.below hb1; have c0 := h1.cell; obtain ⟨_, _, hv', _, _, c7, f7⟩ := h1.bill HJ.out; cases hv'; rw [hp] at c7; clear hb1 h1)
      go_ret
      exact ⟨rfl, _, (HH.out.below B1.out).pay HN.out.uni HFF.out, fun g hg => .inl hg, (Fr.below B1.out).set g _ _ (.inr rfl)⟩
set_option maxRecDepth 100000 in
set_option maxHeartbeats 8000000 in
theorem dbill_any (base db : Nat) (v : Value) (L : List Ent) (w : World) (h : DBookAt w base db v L) (hn : Nice L) (x : ByteArray) : Calls Tryd.prog 57 #[.pointer (some ⟨db, 0, none⟩), .string x] w fun e w' => e = .returned (.tuple #[.agg (gotB (findB x L 0)).cells.toArray, .bool (findB x L 0).isSome]) ∧ Below w.heap.size w w' := by
  have HF : Hid (∀ W, Below w.heap.size w W → Calls Tryd.prog 73 #[.pointer (some ⟨db, 0, none⟩), .string x] W fun e w' => e = .returned (.int .i64 (idxI (findB x L 0))) ∧ Below W.heap.size W w') := fun W hW => dfind_any base db v L W (h.below hW) hn x
  have hfew := hn.few
  have i101 : ∀ b : Bil, (Tryd.prog.info? 101).map (·.size) = some b.cells.toArray.size := fun b => by kernel_rfl
  cases hf : findB x L 0 with
  | none =>
    rw [hf] at HF
    unfold idxI at HF
    simp only [Option.isSome_none] at HF ⊢
    clear h hf hn
    go_enter Tryd.func57, Tryd.ntmps57
    go_upto_region 1 with fail
    have Q0 := Lib.hid (heap_alloc_at w (.cells #[.string ⟨#[]⟩, .string ⟨#[]⟩, .int .i64 0, .int .i64 0, .int .i64 0, .int .i64 0, .string ⟨#[]⟩, .bool false] 101))
    have B0 := Lib.hid (below_new' w (.cells #[.string ⟨#[]⟩, .string ⟨#[]⟩, .int .i64 0, .int .i64 0, .int .i64 0, .int .i64 0, .string ⟨#[]⟩, .bool false] 101))
    generalize w.alloc (.cells #[.string ⟨#[]⟩, .string ⟨#[]⟩, .int .i64 0, .int .i64 0, .int .i64 0, .int .i64 0, .string ⟨#[]⟩, .bool false] 101) = w0 at Q0 B0 ⊢
    obtain ⟨r4, hr4⟩ : ∃ r4, w.heap.size = r4 := ⟨_, rfl⟩
    have HR4 := Lib.hid hr4
    rw [hr4] at Q0 ⊢
    clear hr4
    go_wp2_with (first
      | (go_at_call 73; (with_reducible refine Calls.mono (HF.out _ B0.out) ?_); rintro e w1 ⟨rfl, hb1⟩; have B1 : Hid (Below w.heap.size w w1) := B0.out.trans (hb1.mono B0.out.size); have Q1 : Hid (w1.heap[r4]? = _) := (hb1.block r4 (lt_of_heap Q0.out)).trans Q0.out; clear hb1)
      | (refine wpList_store_row rfl 101 (.tmp 4) (.tmp 12) rfl r4 bil0.cells.toArray rfl rfl 101 _ Q1.out (i101 _) rfl (one58 _) ?_))
    have hl := run_loadVar_row (P := Tryd.prog) (w1.setRow r4 bil0.cells.toArray) r4 101 101 bil0.cells.toArray (0, 0) _ (setRow_heap w1 r4 _ _ 101 _ Q1.out) Tryd.underlying101 rfl (i101 _)
    exact bodyPost_ret (results_cell_tmp Tryd.results57 _ _ _ rfl hl) rfl ⟨rfl, below_setRow B1.out (by have := HR4.out; omega) _⟩
  | some q =>
    obtain ⟨j, ⟨bb, b⟩⟩ := q
    rw [hf] at HF
    unfold idxI at HF
    simp only [Option.isSome_some] at HF ⊢
    obtain ⟨_, hj⟩ := findB_idx hf
    rw [Nat.sub_zero] at hj
    have hjl := (List.getElem?_eq_some_iff.1 hj).1
    obtain ⟨g, cap, hvv, _, _, _, _⟩ := h.bill hj
    subst hvv
    have HH := Lib.hid h
    have HJ := Lib.hid hj
    have hji : (j : Int) < (L.length : Int) := by omega
    clear h hf hn hj
    show Calls _ _ _ _ fun e w' => e = .returned (.tuple #[.agg b.cells.toArray, .bool true]) ∧ _
    go_enter Tryd.func57, Tryd.ntmps57
    go_upto_region 1 with fail
    have Q0 := Lib.hid (heap_alloc_at w (.cells #[.string ⟨#[]⟩, .string ⟨#[]⟩, .int .i64 0, .int .i64 0, .int .i64 0, .int .i64 0, .string ⟨#[]⟩, .bool false] 101))
    have B0 := Lib.hid (below_new' w (.cells #[.string ⟨#[]⟩, .string ⟨#[]⟩, .int .i64 0, .int .i64 0, .int .i64 0, .int .i64 0, .string ⟨#[]⟩, .bool false] 101))
    generalize w.alloc (.cells #[.string ⟨#[]⟩, .string ⟨#[]⟩, .int .i64 0, .int .i64 0, .int .i64 0, .int .i64 0, .string ⟨#[]⟩, .bool false] 101) = w0 at Q0 B0 ⊢
    obtain ⟨r4, hr4⟩ : ∃ r4, w.heap.size = r4 := ⟨_, rfl⟩
    have HR4 := Lib.hid hr4
    rw [hr4] at Q0 ⊢
    clear hr4
    go_wp2_with (first
      | (go_at_call 73; (with_reducible refine Calls.mono (HF.out _ B0.out) ?_); rintro e w1 ⟨rfl, hb1⟩; have B1 : Hid (Below w.heap.size w w1) := B0.out.trans (hb1.mono B0.out.size); have c0 := (HH.out.below B1.out).cell; have Q1 : Hid (w1.heap[r4]? = _) := (hb1.block r4 (lt_of_heap Q0.out)).trans Q0.out; clear hb1)
      | (refine wpList_load_mid rfl 101 (.tmp 18) rfl g (j * 8) rfl b.cells _ (by obtain ⟨g', cap', hv', hr', _⟩ := (HH.out.below B1.out).bill HJ.out; cases hv'; exact hr') Tryd.underlying101 rfl (by kernel_rfl) ?_)
      | (refine wpList_store_row rfl 101 (.tmp 4) (.tmp 19) rfl r4 b.cells.toArray rfl rfl 101 _ Q1.out (i101 _) rfl (one58 _) ?_))
    have hl := run_loadVar_row (P := Tryd.prog) (w1.setRow r4 b.cells.toArray) r4 101 101 b.cells.toArray (0, 0) _ (setRow_heap w1 r4 _ _ 101 _ Q1.out) Tryd.underlying101 rfl (i101 _)
    exact bodyPost_ret (results_cell_tmp Tryd.results57 _ _ _ rfl hl) rfl ⟨rfl, below_setRow B1.out (by have := HR4.out; omega) _⟩
set_option maxRecDepth 100000 in
set_option maxHeartbeats 8000000 in
theorem dinvoice_any (base db : Nat) (v : Value) (L : List Ent) (w : World) (h : DBookAt w base db v L) (hn : Nice L) (x payee : ByteArray) : Calls Tryd.prog 58 #[.pointer (some ⟨db, 0, none⟩), .string x, .string payee] w fun e w' => e = .returned (.tuple #[.agg (invO (findB x L 0) payee).toArray, .int .i64 (if (findB x L 0).isSome then 0 else 230)]) ∧ Below w.heap.size w w' := by
  have HF : Hid (∀ W, Below w.heap.size w W → Calls Tryd.prog 73 #[.pointer (some ⟨db, 0, none⟩), .string x] W fun e w' => e = .returned (.int .i64 (idxI (findB x L 0))) ∧ Below W.heap.size W w') := fun W hW => dfind_any base db v L W (h.below hW) hn x
  have hfew := hn.few
  cases hf : findB x L 0 with
  | none =>
    rw [hf] at HF
    unfold idxI at HF
    simp only [Option.isSome_none, Bool.false_eq_true, if_false] at HF ⊢
    clear h hf hn
    go_enter Tryd.func58, Tryd.ntmps58
    go_upto_region 1 with fail
    have Q0 := Lib.hid (heap_alloc_at w (.cells #[.int .i64 0, .int .i64 0, .string ⟨#[]⟩, .string ⟨#[]⟩, .string ⟨#[]⟩, .int .i64 0, .int .i64 0, .string ⟨#[]⟩] 62))
    have B0 := Lib.hid (below_new' w (.cells #[.int .i64 0, .int .i64 0, .string ⟨#[]⟩, .string ⟨#[]⟩, .string ⟨#[]⟩, .int .i64 0, .int .i64 0, .string ⟨#[]⟩] 62))
    generalize w.alloc (.cells #[.int .i64 0, .int .i64 0, .string ⟨#[]⟩, .string ⟨#[]⟩, .string ⟨#[]⟩, .int .i64 0, .int .i64 0, .string ⟨#[]⟩] 62) = w0 at Q0 B0 ⊢
    obtain ⟨r6, hr6⟩ : ∃ r6, w.heap.size = r6 := ⟨_, rfl⟩
    have HR6 := Lib.hid hr6
    rw [hr6] at Q0 ⊢
    clear hr6
    go_wp2_with (first
      | (go_at_call 73; (with_reducible refine Calls.mono (HF.out _ B0.out) ?_); rintro e w1 ⟨rfl, hb1⟩; have B1 : Hid (Below w.heap.size w w1) := B0.out.trans (hb1.mono B0.out.size); have Q1 : Hid (w1.heap[r6]? = _) := (hb1.block r6 (lt_of_heap Q0.out)).trans Q0.out; clear hb1)
      | (refine wpList_store_row rfl 62 (.tmp 6) (.tmp 15) rfl r6 (invO none payee).toArray rfl rfl 62 _ Q1.out (info62b _ _) rfl (one62 _ _) ?_))
    have hl := run_loadVar_row (P := Tryd.prog) (w1.setRow r6 (invO none payee).toArray) r6 62 62 (invO none payee).toArray (0, 0) _ (setRow_heap w1 r6 _ _ 62 _ Q1.out) Tryd.underlying62 rfl (info62b _ _)
    exact bodyPost_ret (results_cell_tmp Tryd.results58 _ _ _ rfl hl) rfl ⟨rfl, below_setRow B1.out (by have := HR6.out; omega) _⟩
  | some q =>
    obtain ⟨j, ⟨bb, b⟩⟩ := q
    rw [hf] at HF
    unfold idxI at HF
    simp only [Option.isSome_some, if_true] at HF ⊢
    obtain ⟨_, hj⟩ := findB_idx hf
    rw [Nat.sub_zero] at hj
    have hjl := (List.getElem?_eq_some_iff.1 hj).1
    obtain ⟨g, cap, hvv, _, _, _, _⟩ := h.bill hj
    subst hvv
    have HH := Lib.hid h
    have HJ := Lib.hid hj
    have hji : (j : Int) < (L.length : Int) := by omega
    clear h hf hn hj
    show Calls _ _ _ _ fun e w' => e = .returned (.tuple #[.agg (invC b.amt b.stamp b.hash payee b.memo b.exp b.delta).toArray, .int .i64 0]) ∧ _
    go_enter Tryd.func58, Tryd.ntmps58
    go_upto_region 1 with fail
    have Q0 := Lib.hid (heap_alloc_at w (.cells #[.int .i64 0, .int .i64 0, .string ⟨#[]⟩, .string ⟨#[]⟩, .string ⟨#[]⟩, .int .i64 0, .int .i64 0, .string ⟨#[]⟩] 62))
    have B0 := Lib.hid (below_new' w (.cells #[.int .i64 0, .int .i64 0, .string ⟨#[]⟩, .string ⟨#[]⟩, .string ⟨#[]⟩, .int .i64 0, .int .i64 0, .string ⟨#[]⟩] 62))
    generalize w.alloc (.cells #[.int .i64 0, .int .i64 0, .string ⟨#[]⟩, .string ⟨#[]⟩, .string ⟨#[]⟩, .int .i64 0, .int .i64 0, .string ⟨#[]⟩] 62) = w0 at Q0 B0 ⊢
    obtain ⟨r6, hr6⟩ : ∃ r6, w.heap.size = r6 := ⟨_, rfl⟩
    have HR6 := Lib.hid hr6
    rw [hr6] at Q0 ⊢
    clear hr6
    go_upto_region 5 with (first
      | (go_at_call 73; (with_reducible refine Calls.mono (HF.out _ B0.out) ?_); rintro e w1 ⟨rfl, hb1⟩; have B1 : Hid (Below w.heap.size w w1) := B0.out.trans (hb1.mono B0.out.size); have c0 := (HH.out.below B1.out).cell; have Q1 : Hid (w1.heap[r6]? = _) := (hb1.block r6 (lt_of_heap Q0.out)).trans Q0.out; clear hb1)
      | (refine wpList_load_mid rfl 101 (.tmp 21) rfl g (j * 8) rfl [.string b.hash, .string b.pre, .int .i64 b.amt, .int .i64 b.stamp, .int .i64 b.exp, .int .i64 b.delta, .string b.memo, .bool b.paid] _ (by obtain ⟨g', cap', hv', hr', _⟩ := (HH.out.below B1.out).bill HJ.out; cases hv'; exact hr') Tryd.underlying101 rfl (by kernel_rfl) ?_))
    have B2 := below_new' w1 (.cells #[.string b.hash, .string b.pre, .int .i64 b.amt, .int .i64 b.stamp, .int .i64 b.exp, .int .i64 b.delta, .string b.memo, .bool b.paid] 101)
    have K := heap_alloc_at w1 (.cells #[.string b.hash, .string b.pre, .int .i64 b.amt, .int .i64 b.stamp, .int .i64 b.exp, .int .i64 b.delta, .string b.memo, .bool b.paid] 101)
    have B3 := Lib.hid (B1.out.trans (B2.mono B1.out.size))
    have Q3 := Lib.hid ((B2.block r6 (lt_of_heap Q1.out)).trans Q1.out)
    obtain ⟨r0, r1, r2, r3, r4, r5, r6', r7⟩ := eight K
    clear B2 c0 K
    generalize w1.alloc (.cells #[.string b.hash, .string b.pre, .int .i64 b.amt, .int .i64 b.stamp, .int .i64 b.exp, .int .i64 b.delta, .string b.memo, .bool b.paid] 101) = w2 at Q3 B3 r0 r1 r2 r3 r4 r5 r6' r7 ⊢
    generalize w1.heap.size = k at r0 r1 r2 r3 r4 r5 r6' r7 ⊢
    go_wp2_with (refine wpList_store_row rfl 62 (.tmp 6) (.tmp 36) rfl r6 (invC b.amt b.stamp b.hash payee b.memo b.exp b.delta).toArray rfl rfl 62 _ Q3.out info62 rfl (by simp [invC, Value.oneCell']) ?_)
    have hl := run_loadVar_row (P := Tryd.prog) (w2.setRow r6 (invC b.amt b.stamp b.hash payee b.memo b.exp b.delta).toArray) r6 62 62 (invC b.amt b.stamp b.hash payee b.memo b.exp b.delta).toArray (0, 0) _ (setRow_heap w2 r6 _ _ 62 _ Q3.out) Tryd.underlying62 rfl info62
    exact bodyPost_ret (results_cell_tmp Tryd.results58 _ _ _ rfl hl) rfl ⟨rfl, below_setRow B3.out (by have := HR6.out; omega) _⟩
end Go.Proofs.YtnaodgljdbkmnaaDoor
