/- Bill, Invoice -/
import Derived.Test.YtnaodgljdbkmnaaDoorBookC
import Derived.Laws.Rows
import Derived.Laws.Tables
import Derived.StillTailTactics
namespace Go.Proofs.YtnaodgljdbkmnaaDoor
set_option linter.unusedVariables false
open Go.RowKit
def bil0 : Bil := ⟨⟨#[]⟩, ⟨#[]⟩, 0, 0, 0, 0, ⟨#[]⟩, false⟩
/-- the bill that is told -/
def gotB (o : Option (Nat × Ent)) : Bil := (o.map fun x => x.2.2).getD bil0
theorem info58 : (Tryd.prog.info? 58).map (·.size) = some 8 := by kernel_rfl
theorem info58b (b : Bil) : (Tryd.prog.info? 58).map (·.size) = some b.cells.toArray.size := info58
theorem one58 (b : Bil) : b.cells.toArray.all (·.oneCell') = true := by simp [Bil.cells, Value.oneCell']
/-- an invoice that is not signed -/
def invC (amt stamp : Int) (hash payee memo : ByteArray) (exp delta : Int) : List Value := [.int .i64 amt, .int .i64 stamp, .string hash, .string payee, .string memo, .int .i64 exp, .int .i64 delta, .string ⟨#[]⟩]
def invO (o : Option (Nat × Ent)) (payee : ByteArray) : List Value := match o with
  | none => invC 0 0 ⟨#[]⟩ ⟨#[]⟩ ⟨#[]⟩ 0 0
  | some x => invC x.2.2.amt x.2.2.stamp x.2.2.hash payee x.2.2.memo x.2.2.exp x.2.2.delta
theorem info62 : (Tryd.prog.info? 62).map (·.size) = some 8 := by kernel_rfl
theorem info62b (o : Option (Nat × Ent)) (payee : ByteArray) : (Tryd.prog.info? 62).map (·.size) = some (invO o payee).toArray.size := by cases o <;> exact info62
theorem one62 (o : Option (Nat × Ent)) (payee : ByteArray) : (invO o payee).toArray.all (·.oneCell') = true := by cases o <;> simp [invO, invC, Value.oneCell']
set_option maxRecDepth 100000 in
set_option maxHeartbeats 4000000 in
theorem bill_any (base bk mm : Nat) (v : Value) (L : List Ent) (w : World) (h : BookAt w base bk mm v L) (x : ByteArray) : Calls Tryd.prog 34 #[.pointer (some ⟨bk, 0, none⟩), .string x] w fun e w' => e = .returned (.tuple #[.agg (gotB (findB x L 0)).cells.toArray, .bool (findB x L 0).isSome]) ∧ Below w.heap.size w w' := by
  have HF : Hid (∀ W, Below w.heap.size w W → Calls Tryd.prog 49 #[.pointer (some ⟨bk, 0, none⟩), .string x] W fun e w' => e = .returned (fndV (findB x L 0)) ∧ Below W.heap.size W w') := fun W hW => bfind_any base bk mm v L W (h.below hW) x
  unfold fndV at HF
  cases hf : findB x L 0 with
  | none =>
    rw [hf] at HF
    simp only [Option.map_none, Option.getD_none, Option.isSome_none, Bool.false_eq_true, if_false] at HF ⊢
    clear h hf
    go_enter Tryd.func34, Tryd.ntmps34
    go_upto_region 1 with fail
    have Q0 := Lib.hid (heap_alloc_at w (.cells #[.string ⟨#[]⟩, .string ⟨#[]⟩, .int .i64 0, .int .i64 0, .int .i64 0, .int .i64 0, .string ⟨#[]⟩, .bool false] 58))
    have B0 := Lib.hid (below_new' w (.cells #[.string ⟨#[]⟩, .string ⟨#[]⟩, .int .i64 0, .int .i64 0, .int .i64 0, .int .i64 0, .string ⟨#[]⟩, .bool false] 58))
    generalize w.alloc (.cells #[.string ⟨#[]⟩, .string ⟨#[]⟩, .int .i64 0, .int .i64 0, .int .i64 0, .int .i64 0, .string ⟨#[]⟩, .bool false] 58) = w0 at Q0 B0 ⊢
    obtain ⟨r4, hr4⟩ : ∃ r4, w.heap.size = r4 := ⟨_, rfl⟩
    have HR4 := Lib.hid hr4
    rw [hr4] at Q0 ⊢
    clear hr4
    go_wp2_with (first
      | (go_at_call 49; (with_reducible refine Calls.mono (HF.out _ B0.out) ?_); rintro e w1 ⟨rfl, hb1⟩; have B1 : Hid (Below w.heap.size w w1) := B0.out.trans (hb1.mono B0.out.size); have Q1 : Hid (w1.heap[r4]? = _) := (hb1.block r4 (lt_of_heap Q0.out)).trans Q0.out; clear hb1)
      | (refine wpList_store_row rfl 58 (.tmp 4) (.tmp 16) rfl r4 bil0.cells.toArray rfl rfl 58 _ Q1.out (info58b _) rfl (one58 _) ?_))
    have hl := run_loadVar_row (P := Tryd.prog) (w1.setRow r4 bil0.cells.toArray) r4 58 58 bil0.cells.toArray (0, 0) _ (setRow_heap w1 r4 _ _ 58 _ Q1.out) Tryd.underlying58 rfl (info58b _)
    exact bodyPost_ret (results_cell_tmp Tryd.results34 _ _ _ rfl hl) rfl ⟨rfl, below_setRow B1.out (by have := HR4.out; omega) _⟩
  | some q =>
    obtain ⟨j, ⟨bb, b⟩⟩ := q
    rw [hf] at HF
    simp only [Option.map_some, Option.getD_some, Option.isSome_some, if_true] at HF ⊢
    unfold Ent.ptr at HF
    obtain ⟨hm, hx⟩ := findB_mem hf
    have HBE : Hid (w.heap[bb]? = some (.cells b.cells.toArray 58 (0, 0))) := (h.bills _ hm).1
    clear h hf hm hx
    show Calls _ _ _ _ fun e w' => e = .returned (.tuple #[.agg b.cells.toArray, .bool true]) ∧ _
    go_enter Tryd.func34, Tryd.ntmps34
    go_upto_region 1 with fail
    have Q0 := Lib.hid (heap_alloc_at w (.cells #[.string ⟨#[]⟩, .string ⟨#[]⟩, .int .i64 0, .int .i64 0, .int .i64 0, .int .i64 0, .string ⟨#[]⟩, .bool false] 58))
    have B0 := Lib.hid (below_new' w (.cells #[.string ⟨#[]⟩, .string ⟨#[]⟩, .int .i64 0, .int .i64 0, .int .i64 0, .int .i64 0, .string ⟨#[]⟩, .bool false] 58))
    generalize w.alloc (.cells #[.string ⟨#[]⟩, .string ⟨#[]⟩, .int .i64 0, .int .i64 0, .int .i64 0, .int .i64 0, .string ⟨#[]⟩, .bool false] 58) = w0 at Q0 B0 ⊢
    obtain ⟨r4, hr4⟩ : ∃ r4, w.heap.size = r4 := ⟨_, rfl⟩
    have HR4 := Lib.hid hr4
    rw [hr4] at Q0 ⊢
    clear hr4
    go_wp2_with (first
      | (go_at_call 49; (with_reducible refine Calls.mono (HF.out _ B0.out) ?_); rintro e w1 ⟨rfl, hb1⟩; have B1 : Hid (Below w.heap.size w w1) := B0.out.trans (hb1.mono B0.out.size); have Q1 : Hid (w1.heap[r4]? = _) := (hb1.block r4 (lt_of_heap Q0.out)).trans Q0.out; clear hb1)
      | (refine wpList_load_row rfl 58 (.tmp 18) rfl bb rfl 58 b.cells.toArray (0, 0) _ ((B1.out.block bb (lt_of_heap HBE.out)).trans HBE.out) Tryd.underlying58 rfl (info58b _) ?_)
      | (refine wpList_store_row rfl 58 (.tmp 4) (.tmp 19) rfl r4 b.cells.toArray rfl rfl 58 _ Q1.out (info58b _) rfl (one58 _) ?_))
    have hl := run_loadVar_row (P := Tryd.prog) (w1.setRow r4 b.cells.toArray) r4 58 58 b.cells.toArray (0, 0) _ (setRow_heap w1 r4 _ _ 58 _ Q1.out) Tryd.underlying58 rfl (info58b _)
    exact bodyPost_ret (results_cell_tmp Tryd.results34 _ _ _ rfl hl) rfl ⟨rfl, below_setRow B1.out (by have := HR4.out; omega) _⟩
set_option maxRecDepth 100000 in
set_option maxHeartbeats 4000000 in
theorem invoice_any (base bk mm : Nat) (v : Value) (L : List Ent) (w : World) (h : BookAt w base bk mm v L) (x payee : ByteArray) : Calls Tryd.prog 35 #[.pointer (some ⟨bk, 0, none⟩), .string x, .string payee] w fun e w' => e = .returned (.tuple #[.agg (invO (findB x L 0) payee).toArray, .int .i64 (if (findB x L 0).isSome then 0 else 230)]) ∧ Below w.heap.size w w' := by
  have HF : Hid (∀ W, Below w.heap.size w W → Calls Tryd.prog 49 #[.pointer (some ⟨bk, 0, none⟩), .string x] W fun e w' => e = .returned (fndV (findB x L 0)) ∧ Below W.heap.size W w') := fun W hW => bfind_any base bk mm v L W (h.below hW) x
  unfold fndV at HF
  cases hf : findB x L 0 with
  | none =>
    rw [hf] at HF
    simp only [Option.map_none, Option.getD_none, Option.isSome_none, Bool.false_eq_true, if_false] at HF ⊢
    clear h hf
    go_enter Tryd.func35, Tryd.ntmps35
    go_upto_region 1 with fail
    have Q0 := Lib.hid (heap_alloc_at w (.cells #[.int .i64 0, .int .i64 0, .string ⟨#[]⟩, .string ⟨#[]⟩, .string ⟨#[]⟩, .int .i64 0, .int .i64 0, .string ⟨#[]⟩] 62))
    have B0 := Lib.hid (below_new' w (.cells #[.int .i64 0, .int .i64 0, .string ⟨#[]⟩, .string ⟨#[]⟩, .string ⟨#[]⟩, .int .i64 0, .int .i64 0, .string ⟨#[]⟩] 62))
    generalize w.alloc (.cells #[.int .i64 0, .int .i64 0, .string ⟨#[]⟩, .string ⟨#[]⟩, .string ⟨#[]⟩, .int .i64 0, .int .i64 0, .string ⟨#[]⟩] 62) = w0 at Q0 B0 ⊢
    obtain ⟨r6, hr6⟩ : ∃ r6, w.heap.size = r6 := ⟨_, rfl⟩
    have HR6 := Lib.hid hr6
    rw [hr6] at Q0 ⊢
    clear hr6
    go_wp2_with (first
      | (go_at_call 49; (with_reducible refine Calls.mono (HF.out _ B0.out) ?_); rintro e w1 ⟨rfl, hb1⟩; have B1 : Hid (Below w.heap.size w w1) := B0.out.trans (hb1.mono B0.out.size); have Q1 : Hid (w1.heap[r6]? = _) := (hb1.block r6 (lt_of_heap Q0.out)).trans Q0.out; clear hb1)
      | (refine wpList_store_row rfl 62 (.tmp 6) (.tmp 18) rfl r6 (invO none payee).toArray rfl rfl 62 _ Q1.out (info62b _ _) rfl (one62 _ _) ?_))
    have hl := run_loadVar_row (P := Tryd.prog) (w1.setRow r6 (invO none payee).toArray) r6 62 62 (invO none payee).toArray (0, 0) _ (setRow_heap w1 r6 _ _ 62 _ Q1.out) Tryd.underlying62 rfl (info62b _ _)
    exact bodyPost_ret (results_cell_tmp Tryd.results35 _ _ _ rfl hl) rfl ⟨rfl, below_setRow B1.out (by have := HR6.out; omega) _⟩
  | some q =>
    obtain ⟨j, ⟨bb, b⟩⟩ := q
    rw [hf] at HF
    simp only [Option.map_some, Option.getD_some, Option.isSome_some, if_true] at HF ⊢
    unfold Ent.ptr at HF
    obtain ⟨hm, hx⟩ := findB_mem hf
    have HBE : Hid (w.heap[bb]? = some (.cells b.cells.toArray 58 (0, 0))) := (h.bills _ hm).1
    clear h hf hm hx
    go_enter Tryd.func35, Tryd.ntmps35
    go_upto_region 1 with fail
    have Q0 := Lib.hid (heap_alloc_at w (.cells #[.int .i64 0, .int .i64 0, .string ⟨#[]⟩, .string ⟨#[]⟩, .string ⟨#[]⟩, .int .i64 0, .int .i64 0, .string ⟨#[]⟩] 62))
    have B0 := Lib.hid (below_new' w (.cells #[.int .i64 0, .int .i64 0, .string ⟨#[]⟩, .string ⟨#[]⟩, .string ⟨#[]⟩, .int .i64 0, .int .i64 0, .string ⟨#[]⟩] 62))
    generalize w.alloc (.cells #[.int .i64 0, .int .i64 0, .string ⟨#[]⟩, .string ⟨#[]⟩, .string ⟨#[]⟩, .int .i64 0, .int .i64 0, .string ⟨#[]⟩] 62) = w0 at Q0 B0 ⊢
    obtain ⟨r6, hr6⟩ : ∃ r6, w.heap.size = r6 := ⟨_, rfl⟩
    have HR6 := Lib.hid hr6
    rw [hr6] at Q0 ⊢
    clear hr6
    go_upto_region 4 with (go_at_call 49; (with_reducible refine Calls.mono (HF.out _ B0.out) ?_); rintro e w1 ⟨rfl, hb1⟩; have B1 : Hid (Below w.heap.size w w1) := B0.out.trans (hb1.mono B0.out.size); have Q1 : Hid (w1.heap[r6]? = _) := (hb1.block r6 (lt_of_heap Q0.out)).trans Q0.out; clear hb1)
    obtain ⟨g0, g1, g2, g3, g4, g5, g6, g7⟩ := eight ((B1.out.block bb (lt_of_heap HBE.out)).trans HBE.out)
    clear g1 g7
    go_still_tail 26, (by kernel_rfl)
    change wpList _ _ _ _ _ w1.drew
    have Q2 : Hid (w1.drew.heap[r6]? = _) := Q1.out
    have B2 : Hid (Below w.heap.size w w1.drew) := B1.out.drew
    generalize w1.drew = w2 at Q2 B2 ⊢
    go_wp2_with (refine wpList_store_row rfl 62 (.tmp 6) (.tmp 45) rfl r6 (invC b.amt b.stamp b.hash payee b.memo b.exp b.delta).toArray rfl rfl 62 _ Q2.out info62 rfl (by simp [invC, Value.oneCell']) ?_)
    have hl := run_loadVar_row (P := Tryd.prog) (w2.setRow r6 (invC b.amt b.stamp b.hash payee b.memo b.exp b.delta).toArray) r6 62 62 (invC b.amt b.stamp b.hash payee b.memo b.exp b.delta).toArray (0, 0) _ (setRow_heap w2 r6 _ _ 62 _ Q2.out) Tryd.underlying62 rfl info62
    exact bodyPost_ret (results_cell_tmp Tryd.results35 _ _ _ rfl hl) rfl ⟨rfl, below_setRow B2.out (by have := HR6.out; omega) _⟩
end Go.Proofs.YtnaodgljdbkmnaaDoor
