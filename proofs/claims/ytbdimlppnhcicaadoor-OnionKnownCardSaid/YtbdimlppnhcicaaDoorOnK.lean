/- the document's layer, walked -/
import Derived.Test.YtbdimlppnhcicaaDoorOnJ
namespace Go.Proofs.YtbdimlppnhcicaaDoor
set_option linter.unusedVariables false
open Go.RowKit
/-! onion: a layer read, the document's -/
set_option maxRecDepth 100000 in
set_option maxHeartbeats 8000000 in
theorem dlay_no1 (t : ByteArray) (w : World) (hm : t.size ≤ maxLen) (h : isT (op4 t.data.toList) 2 = false) (hy : layO t = none) : Calls Tryd.prog 69 #[.string t] w (LayPost (layO t) w) := by
  have HT : Hid (∀ W, Below w.heap.size w W → Calls Tryd.prog 66 #[.string t, .int .i64 2] W (KidsPostN (op4 t.data.toList) 2 W)) := fun W hW => dtuple_new t 2 W _ (by omega) (dopenN t W hm)
  rw [hy]
  have HB := Lib.hid h
  clear hy h
  obtain ⟨q, hq⟩ : ∃ q, op4 t.data.toList = q := ⟨_, rfl⟩
  rw [hq] at HT HB
  clear hq
  go_enter Tryd.func69, Tryd.ntmps69
  go_upto_region 1 with fail
  have CX := heap_alloc_at w (.cells #[.string ⟨#[]⟩, .int .i64 0, .int .i64 0, .string ⟨#[]⟩, .string ⟨#[]⟩, .string ⟨#[]⟩, .bool false] 44)
  have B0 := below_new' w (.cells #[.string ⟨#[]⟩, .int .i64 0, .int .i64 0, .string ⟨#[]⟩, .string ⟨#[]⟩, .string ⟨#[]⟩, .bool false] 44)
  have SX : Hid (LSt w w.heap.size 44 #[.string ⟨#[]⟩, .int .i64 0, .int .i64 0, .string ⟨#[]⟩, .string ⟨#[]⟩, .string ⟨#[]⟩, .bool false] (w.alloc (.cells #[.string ⟨#[]⟩, .int .i64 0, .int .i64 0, .string ⟨#[]⟩, .string ⟨#[]⟩, .string ⟨#[]⟩, .bool false] 44))) := ⟨B0, CX, Nat.le_refl _⟩
  clear CX B0
  generalize w.alloc (.cells #[.string ⟨#[]⟩, .int .i64 0, .int .i64 0, .string ⟨#[]⟩, .string ⟨#[]⟩, .string ⟨#[]⟩, .bool false] 44) = w0 at SX ⊢
  obtain ⟨xb, hxb⟩ : ∃ k, w.heap.size = k := ⟨_, rfl⟩
  have HXB := Lib.hid hxb
  rw [hxb] at SX ⊢
  clear hxb
  go_wp2_with (first | (go_at_call 66; (with_reducible refine Calls.mono (HT.out _ SX.out.bel) ?_); rintro e w1 ⟨hb, o1, k1, rfl, hs⟩; have S1 := Lib.hid (SX.out.next hb); clear hb hs; have hb := HB.out; rw [hb]) | (with_reducible refine wpList_store_row rfl 44 (.tmp 2) (.tmp 21) rfl xb #[.string ⟨#[]⟩, .int .i64 0, .int .i64 0, .string ⟨#[]⟩, .string ⟨#[]⟩, .string ⟨#[]⟩, .bool false] rfl rfl 44 _ S1.out.x (by kernel_rfl) rfl (by simp [Value.oneCell']) ?_))
  have hl := run_loadVar_row (P := Tryd.prog) (w1.setRow xb #[.string ⟨#[]⟩, .int .i64 0, .int .i64 0, .string ⟨#[]⟩, .string ⟨#[]⟩, .string ⟨#[]⟩, .bool false]) xb 44 44 #[.string ⟨#[]⟩, .int .i64 0, .int .i64 0, .string ⟨#[]⟩, .string ⟨#[]⟩, .string ⟨#[]⟩, .bool false] (0, 0) _ (setRow_heap w1 xb _ _ 44 _ S1.out.x) Tryd.underlying44 rfl (by kernel_rfl)
  refine bodyPost_ret (results_cell_tmp Tryd.results69 _ _ _ rfl hl) rfl ⟨below_setRow S1.out.bel (by have := HXB.out; have := S1.out.hx; omega) _, lay0, rfl, fun y h => by cases h⟩
set_option maxRecDepth 100000 in
set_option maxHeartbeats 8000000 in
theorem dlay_no2 (t l0 l1 : ByteArray) (w : World) (hm : t.size ≤ maxLen) (h : isT (op4 t.data.toList) 2 = true) (hv : (op4 t.data.toList).vs = [l0, l1]) (h2 : isT (op4 l0.data.toList) 4 = false) (hy : layO t = none) : Calls Tryd.prog 69 #[.string t] w (LayPost (layO t) w) := by
  have HT : Hid (∀ W, Below w.heap.size w W → Calls Tryd.prog 66 #[.string t, .int .i64 2] W (KidsPostN (op4 t.data.toList) 2 W)) := fun W hW => dtuple_new t 2 W _ (by omega) (dopenN t W hm)
  have HP : Hid (∀ W, Below w.heap.size w W → Calls Tryd.prog 66 #[.string l0, .int .i64 4] W (KidsPostN (op4 l0.data.toList) 4 W)) := fun W hW => dtuple_new l0 4 W _ (by omega) (dopenN l0 W (lt_max (op4_kid t.data.toList l0 (by rw [hv]; simp))))
  rw [hy]
  have HB := Lib.hid h
  have HB2 := Lib.hid h2
  have HV := Lib.hid hv
  clear hy h hv h2
  obtain ⟨q, hq⟩ : ∃ q, op4 t.data.toList = q := ⟨_, rfl⟩
  obtain ⟨q2, hq2⟩ : ∃ q, op4 l0.data.toList = q := ⟨_, rfl⟩
  rw [hq] at HT HB HV
  rw [hq2] at HP HB2
  clear hq hq2
  go_enter Tryd.func69, Tryd.ntmps69
  go_upto_region 1 with fail
  have CX := heap_alloc_at w (.cells #[.string ⟨#[]⟩, .int .i64 0, .int .i64 0, .string ⟨#[]⟩, .string ⟨#[]⟩, .string ⟨#[]⟩, .bool false] 44)
  have B0 := below_new' w (.cells #[.string ⟨#[]⟩, .int .i64 0, .int .i64 0, .string ⟨#[]⟩, .string ⟨#[]⟩, .string ⟨#[]⟩, .bool false] 44)
  have SX : Hid (LSt w w.heap.size 44 #[.string ⟨#[]⟩, .int .i64 0, .int .i64 0, .string ⟨#[]⟩, .string ⟨#[]⟩, .string ⟨#[]⟩, .bool false] (w.alloc (.cells #[.string ⟨#[]⟩, .int .i64 0, .int .i64 0, .string ⟨#[]⟩, .string ⟨#[]⟩, .string ⟨#[]⟩, .bool false] 44))) := ⟨B0, CX, Nat.le_refl _⟩
  clear CX B0
  generalize w.alloc (.cells #[.string ⟨#[]⟩, .int .i64 0, .int .i64 0, .string ⟨#[]⟩, .string ⟨#[]⟩, .string ⟨#[]⟩, .bool false] 44) = w0 at SX ⊢
  obtain ⟨xb, hxb⟩ : ∃ k, w.heap.size = k := ⟨_, rfl⟩
  have HXB := Lib.hid hxb
  rw [hxb] at SX ⊢
  clear hxb
  go_wp2_with (first | (go_at_call 66; (with_reducible refine Calls.mono (HT.out _ SX.out.bel) ?_); rintro e w1 ⟨hb, o1, k1, rfl, hs⟩; have S1 := Lib.hid (SX.out.next hb); have hb' := HB.out; rw [hb'] ; rw [HV.out] at hs ⊢; obtain ⟨lb, ho, hge, hc⟩ := hs.resolve_left (by simp); rw [ho] ; have a0 := hc 0 l0 rfl; clear hb hs hb' hc ho) | (go_at_call 66; (with_reducible refine Calls.mono (HP.out _ S1.out.bel) ?_); rintro e w2 ⟨hb, o2, k2, rfl, hs⟩; have S2 := Lib.hid (S1.out.next hb); clear hb hs a0; have hb := HB2.out; rw [hb]) | (with_reducible refine wpList_store_row rfl 44 (.tmp 2) (.tmp 31) rfl xb #[.string ⟨#[]⟩, .int .i64 0, .int .i64 0, .string ⟨#[]⟩, .string ⟨#[]⟩, .string ⟨#[]⟩, .bool false] rfl rfl 44 _ S2.out.x (by kernel_rfl) rfl (by simp [Value.oneCell']) ?_))
  have hl := run_loadVar_row (P := Tryd.prog) (w2.setRow xb #[.string ⟨#[]⟩, .int .i64 0, .int .i64 0, .string ⟨#[]⟩, .string ⟨#[]⟩, .string ⟨#[]⟩, .bool false]) xb 44 44 #[.string ⟨#[]⟩, .int .i64 0, .int .i64 0, .string ⟨#[]⟩, .string ⟨#[]⟩, .string ⟨#[]⟩, .bool false] (0, 0) _ (setRow_heap w2 xb _ _ 44 _ S2.out.x) Tryd.underlying44 rfl (by kernel_rfl)
  refine bodyPost_ret (results_cell_tmp Tryd.results69 _ _ _ rfl hl) rfl ⟨below_setRow S2.out.bel (by have := HXB.out; have := S2.out.hx; omega) _, lay0, rfl, fun y h => by cases h⟩
theorem seven_all {w : World} {b : Nat} {a0 a1 a2 a3 a4 a5 a6 : Value} {t : TypeId} {f : Nat × Nat} (h : w.heap[b]? = some (.cells #[a0, a1, a2, a3, a4, a5, a6] t f)) : w.cell? ⟨b, 0, none⟩ = some a0 ∧ w.cell? ⟨b, 1, none⟩ = some a1 ∧ w.cell? ⟨b, 2, none⟩ = some a2 ∧ w.cell? ⟨b, 3, none⟩ = some a3 ∧ w.cell? ⟨b, 4, none⟩ = some a4 ∧ w.cell? ⟨b, 5, none⟩ = some a5 ∧ w.cell? ⟨b, 6, none⟩ = some a6 := by
  simp [World.cell?, h]
theorem seven_put {w0 w : World} {B b : Nat} {a0 a1 a2 a3 a4 a5 a6 : Value} {t : TypeId} (hb : Below B w0 w) (hB : B ≤ b) (h : w.heap[b]? = some (.cells #[a0, a1, a2, a3, a4, a5, a6] t (0, 0))) (v0 v1 v2 v3 v4 v5 v6 : Value) : Below B w0 (((((((w.setCell ⟨b, 0, none⟩ v0).setCell ⟨b, 1, none⟩ v1).setCell ⟨b, 2, none⟩ v2).setCell ⟨b, 3, none⟩ v3).setCell ⟨b, 4, none⟩ v4).setCell ⟨b, 5, none⟩ v5).setCell ⟨b, 6, none⟩ v6).drew ∧ (((((((w.setCell ⟨b, 0, none⟩ v0).setCell ⟨b, 1, none⟩ v1).setCell ⟨b, 2, none⟩ v2).setCell ⟨b, 3, none⟩ v3).setCell ⟨b, 4, none⟩ v4).setCell ⟨b, 5, none⟩ v5).setCell ⟨b, 6, none⟩ v6).drew.heap[b]? = some (.cells #[v0, v1, v2, v3, v4, v5, v6] t (0, 0)) := by
  refine ⟨(((((((hb.setCell (p := ⟨b, 0, none⟩) hB v0).setCell (p := ⟨b, 1, none⟩) hB v1).setCell (p := ⟨b, 2, none⟩) hB v2).setCell (p := ⟨b, 3, none⟩) hB v3).setCell (p := ⟨b, 4, none⟩) hB v4).setCell (p := ⟨b, 5, none⟩) hB v5).setCell (p := ⟨b, 6, none⟩) hB v6).drew, ?_⟩
  have h0 : (w.setCell ⟨b, 0, none⟩ v0).heap[b]? = some (.cells #[v0, a1, a2, a3, a4, a5, a6] t (0, 0)) := heap_setCell_same w b 0 _ t v0 h
  generalize w.setCell ⟨b, 0, none⟩ v0 = w2 at h0 ⊢
  have h1 : (w2.setCell ⟨b, 1, none⟩ v1).heap[b]? = some (.cells #[v0, v1, a2, a3, a4, a5, a6] t (0, 0)) := heap_setCell_same w2 b 1 _ t v1 h0
  generalize w2.setCell ⟨b, 1, none⟩ v1 = w3 at h1 ⊢
  have h2 : (w3.setCell ⟨b, 2, none⟩ v2).heap[b]? = some (.cells #[v0, v1, v2, a3, a4, a5, a6] t (0, 0)) := heap_setCell_same w3 b 2 _ t v2 h1
  generalize w3.setCell ⟨b, 2, none⟩ v2 = w4 at h2 ⊢
  have h3 : (w4.setCell ⟨b, 3, none⟩ v3).heap[b]? = some (.cells #[v0, v1, v2, v3, a4, a5, a6] t (0, 0)) := heap_setCell_same w4 b 3 _ t v3 h2
  generalize w4.setCell ⟨b, 3, none⟩ v3 = w5 at h3 ⊢
  have h4 : (w5.setCell ⟨b, 4, none⟩ v4).heap[b]? = some (.cells #[v0, v1, v2, v3, v4, a5, a6] t (0, 0)) := heap_setCell_same w5 b 4 _ t v4 h3
  generalize w5.setCell ⟨b, 4, none⟩ v4 = w6 at h4 ⊢
  have h5 : (w6.setCell ⟨b, 5, none⟩ v5).heap[b]? = some (.cells #[v0, v1, v2, v3, v4, v5, a6] t (0, 0)) := heap_setCell_same w6 b 5 _ t v5 h4
  generalize w6.setCell ⟨b, 5, none⟩ v5 = w7 at h5 ⊢
  have h6 : (w7.setCell ⟨b, 6, none⟩ v6).heap[b]? = some (.cells #[v0, v1, v2, v3, v4, v5, v6] t (0, 0)) := heap_setCell_same w7 b 6 _ t v6 h5
  exact h6
set_option maxRecDepth 100000 in
set_option maxHeartbeats 8000000 in
theorem dlayer_parts (t l0 l1 p0 p1 p2 p3 : ByteArray) (w : World) (hm : t.size ≤ maxLen) (h : Parts t l0 l1 p0 p1 p2 p3) : Calls Tryd.prog 69 #[.string t] w (LayPost (layO t) w) := by
  have hl0 := lt_max (op4_kid t.data.toList l0 (by rw [h.av]; simp))
  have hp0 := lt_max (op4_kid l0.data.toList p0 (by rw [h.bv]; simp))
  have hp1 := lt_max (op4_kid l0.data.toList p1 (by rw [h.bv]; simp))
  have hp2 := lt_max (op4_kid l0.data.toList p2 (by rw [h.bv]; simp))
  have HT : Hid (∀ W, Below w.heap.size w W → Calls Tryd.prog 66 #[.string t, .int .i64 2] W fun e w' => Below W.heap.size W w' ∧ ∃ lb k, e = .returned (.tuple #[.slice (some ⟨lb, 0, none⟩) 2 k, .bool true]) ∧ W.heap.size ≤ lb ∧ w'.cell? ⟨lb, 0, none⟩ = some (.string l0) ∧ w'.cell? ⟨lb, 1, none⟩ = some (.string l1)) := fun W hW => (dtuple_new t 2 W _ (by omega) (dopenN t W hm)).mono fun _ _ hk => kids_two hk h.a h.av
  have HP : Hid (∀ W, Below w.heap.size w W → Calls Tryd.prog 66 #[.string l0, .int .i64 4] W fun e w' => Below W.heap.size W w' ∧ ∃ lb k, e = .returned (.tuple #[.slice (some ⟨lb, 0, none⟩) 4 k, .bool true]) ∧ W.heap.size ≤ lb ∧ w'.cell? ⟨lb, 0, none⟩ = some (.string p0) ∧ w'.cell? ⟨lb, 1, none⟩ = some (.string p1) ∧ w'.cell? ⟨lb, 2, none⟩ = some (.string p2) ∧ w'.cell? ⟨lb, 3, none⟩ = some (.string p3)) := fun W hW => (dtuple_new l0 4 W _ (by omega) (dopenN l0 W hl0)).mono fun _ _ hk => kids_four hk h.b h.bv
  have HX : Hid (∀ W, Below w.heap.size w W → Calls Tryd.prog 92 #[.string p0] W fun e w' => e = .returned (.tuple #[.string (op4 p0.data.toList).u, .bool (isX (op4 p0.data.toList))]) ∧ Below W.heap.size W w') := fun W hW => dtext_any p0 W _ (dopen_any p0 W hp0)
  have HA : Hid (∀ W, Below w.heap.size w W → Calls Tryd.prog 93 #[.string p1, .int .i64 2100000000000000000] W (NumQ (numO (op4 p1.data.toList) 2100000000000000000) W)) := fun W hW => (dnum_any p1 _ 2100000000000000000 W _ rfl (by omega) (op4_text _) (dtext_any p1 W _ (dopen_any p1 W hp1))).mono fun _ _ hk => numQ_of hk
  have HE : Hid (∀ W, Below w.heap.size w W → Calls Tryd.prog 93 #[.string p2, .int .i64 2147483647] W (NumQ (numO (op4 p2.data.toList) 2147483647) W)) := fun W hW => (dnum_any p2 _ 2147483647 W _ rfl (by omega) (op4_text _) (dtext_any p2 W _ (dopen_any p2 W hp2))).mono fun _ _ hk => numQ_of hk
  have hul := op4_text p0.data.toList
  rw [h.lay, layP_in]
  clear h hl0 hp0 hp1 hp2
  generalize (op4 p0.data.toList).u = u at HX hul ⊢
  generalize isX (op4 p0.data.toList) = x0 at HX ⊢
  generalize numO (op4 p1.data.toList) 2100000000000000000 = o1 at HA ⊢
  generalize numO (op4 p2.data.toList) 2147483647 = o2 at HE ⊢
  obtain ⟨Y, hY⟩ : ∃ Y, LayIn u x0 o1 o2 p3 l1 = Y := ⟨_, rfl⟩
  rw [hY]
  have HY := Lib.hid hY
  clear hY
  go_enter Tryd.func69, Tryd.ntmps69
  go_upto_region 1 with fail
  have CX := heap_alloc_at w (.cells #[.string ⟨#[]⟩, .int .i64 0, .int .i64 0, .string ⟨#[]⟩, .string ⟨#[]⟩, .string ⟨#[]⟩, .bool false] 44)
  have B0 := below_new' w (.cells #[.string ⟨#[]⟩, .int .i64 0, .int .i64 0, .string ⟨#[]⟩, .string ⟨#[]⟩, .string ⟨#[]⟩, .bool false] 44)
  have SX : Hid (LSt w w.heap.size 44 #[.string ⟨#[]⟩, .int .i64 0, .int .i64 0, .string ⟨#[]⟩, .string ⟨#[]⟩, .string ⟨#[]⟩, .bool false] (w.alloc (.cells #[.string ⟨#[]⟩, .int .i64 0, .int .i64 0, .string ⟨#[]⟩, .string ⟨#[]⟩, .string ⟨#[]⟩, .bool false] 44))) := ⟨B0, CX, Nat.le_refl _⟩
  clear CX B0
  generalize w.alloc (.cells #[.string ⟨#[]⟩, .int .i64 0, .int .i64 0, .string ⟨#[]⟩, .string ⟨#[]⟩, .string ⟨#[]⟩, .bool false] 44) = w0 at SX ⊢
  obtain ⟨xb, hxb⟩ : ∃ k, w.heap.size = k := ⟨_, rfl⟩
  have HXB := Lib.hid hxb
  rw [hxb] at SX ⊢
  clear hxb
  go_upto_region 10 with (first
    | (go_at_call 66; (with_reducible refine Calls.mono (HT.out _ SX.out.bel) ?_); rintro e w1 ⟨hb, lb, k1, rfl, hlb, a0, a1⟩; have S1 := Lib.hid (SX.out.next hb); have N1 := Lib.hid (Nat.lt_of_lt_of_le (lt_of_heap SX.out.x) hlb); clear hb hlb)
    | (go_at_call 66; (with_reducible refine Calls.mono (HP.out _ S1.out.bel) ?_); rintro e w2 ⟨hb, pb, k2, rfl, hpb, b0, b1, b2, b3⟩; have S2 := Lib.hid (S1.out.next hb); have N2 := Lib.hid (Nat.lt_of_lt_of_le (lt_of_heap S1.out.x) hpb); replace a1 := cell_later hb a1; clear hb hpb a0)
    | (go_at_call 92; (with_reducible refine Calls.mono (HX.out _ S2.out.bel) ?_); rintro e w3 ⟨rfl, hb⟩; have S3 := Lib.hid (S2.out.next hb); replace a1 := cell_later hb a1; replace b1 := cell_later hb b1; replace b2 := cell_later hb b2; replace b3 := cell_later hb b3; clear hb b0)
    | (go_at_call 93; (with_reducible refine Calls.mono (HA.out _ S3.out.bel) ?_); rintro e w4 ⟨hb, na, rfl, ha⟩; have S4 := Lib.hid (S3.out.next hb); have HNA := Lib.hid ha; replace a1 := cell_later hb a1; replace b2 := cell_later hb b2; replace b3 := cell_later hb b3; clear hb b1 ha)
    | (go_at_call 93; (with_reducible refine Calls.mono (HE.out _ S4.out.bel) ?_); rintro e w5 ⟨hb, ne, rfl, he⟩; have S5 := Lib.hid (S4.out.next hb); have HNE := Lib.hid he; replace a1 := cell_later hb a1; replace b3 := cell_later hb b3; clear hb b2 he))
  have hui : (u.size : Int) ≤ 16384 := by omega
  clear HT HP HX HA HE SX S1 S2 S3 S4
  go_upto_region 11 with fail
  obtain ⟨lastb, hlast⟩ : ∃ b, u.toList.isEmpty = b := ⟨_, rfl⟩
  rw [hlast]
  have HLB : Hid (lastb = decide (u = e0)) := by
    show _ = _
    rw [← hlast]
    by_cases hu : u = e0
    · rw [decide_eq_true hu, hu, show e0 = ⟨#[]⟩ from rfl, empty_list]; rfl
    · rw [decide_eq_false hu]
      have := toList_ne hu
      rw [show e0 = ⟨#[]⟩ from rfl, empty_list] at this
      cases hh : u.toList with
      | nil => rw [hh] at this; simp at this
      | cons c l => rfl
  clear hlast
  have B6 := below_new' w5 (.cells #[.string u, .int .i64 na, .int .i64 ne, .string ⟨#[]⟩, .string ⟨#[]⟩, .string ⟨#[]⟩, .bool lastb] 44)
  have X6 := Lib.hid (heap_alloc_at w5 (.cells #[.string u, .int .i64 na, .int .i64 ne, .string ⟨#[]⟩, .string ⟨#[]⟩, .string ⟨#[]⟩, .bool lastb] 44))
  have S6 := Lib.hid (S5.out.next B6)
  have NLB : Hid (lb < w5.heap.size) := World.block_lt_of_cell? _ _ a1
  have NPB : Hid (pb < w5.heap.size) := World.block_lt_of_cell? _ _ b3
  replace a1 := cell_later B6 a1
  replace b3 := cell_later B6 b3
  have NXB : Hid (xb < w5.heap.size) := lt_of_heap S5.out.x
  have NKB : Hid (w.heap.size ≤ w5.heap.size) := S5.out.bel.size
  clear B6
  generalize w5.alloc (.cells #[.string u, .int .i64 na, .int .i64 ne, .string ⟨#[]⟩, .string ⟨#[]⟩, .string ⟨#[]⟩, .bool lastb] 44) = w6 at X6 S6 a1 b3 ⊢
  generalize w5.heap.size = kb at X6 NLB NPB NXB NKB ⊢
  cases x0 with
  | false =>
    have HN : Hid (Y = none) := HY.out.symm.trans rfl
    clear a1 b3
    go_wp2_with (with_reducible refine wpList_store_row rfl 44 (.tmp 2) (.tmp 74) rfl xb #[.string ⟨#[]⟩, .int .i64 0, .int .i64 0, .string ⟨#[]⟩, .string ⟨#[]⟩, .string ⟨#[]⟩, .bool false] rfl rfl 44 _ S6.out.x (by kernel_rfl) rfl (by simp [Value.oneCell']) ?_)
    have hl := run_loadVar_row (P := Tryd.prog) (w6.setRow xb #[.string ⟨#[]⟩, .int .i64 0, .int .i64 0, .string ⟨#[]⟩, .string ⟨#[]⟩, .string ⟨#[]⟩, .bool false]) xb 44 44 #[.string ⟨#[]⟩, .int .i64 0, .int .i64 0, .string ⟨#[]⟩, .string ⟨#[]⟩, .string ⟨#[]⟩, .bool false] (0, 0) _ (setRow_heap w6 xb _ _ 44 _ S6.out.x) Tryd.underlying44 rfl (by kernel_rfl)
    refine bodyPost_ret (results_cell_tmp Tryd.results69 _ _ _ rfl hl) rfl ⟨below_setRow S6.out.bel (by have := HXB.out; have := S6.out.hx; omega) _, lay0, by rw [HN.out]; rfl, fun y h => by rw [HN.out] at h; cases h⟩
  | true =>
    cases o1 with
    | none =>
      have HN : Hid (Y = none) := HY.out.symm.trans rfl
      clear a1 b3
      go_wp2_with (with_reducible refine wpList_store_row rfl 44 (.tmp 2) (.tmp 74) rfl xb #[.string ⟨#[]⟩, .int .i64 0, .int .i64 0, .string ⟨#[]⟩, .string ⟨#[]⟩, .string ⟨#[]⟩, .bool false] rfl rfl 44 _ S6.out.x (by kernel_rfl) rfl (by simp [Value.oneCell']) ?_)
      have hl := run_loadVar_row (P := Tryd.prog) (w6.setRow xb #[.string ⟨#[]⟩, .int .i64 0, .int .i64 0, .string ⟨#[]⟩, .string ⟨#[]⟩, .string ⟨#[]⟩, .bool false]) xb 44 44 #[.string ⟨#[]⟩, .int .i64 0, .int .i64 0, .string ⟨#[]⟩, .string ⟨#[]⟩, .string ⟨#[]⟩, .bool false] (0, 0) _ (setRow_heap w6 xb _ _ 44 _ S6.out.x) Tryd.underlying44 rfl (by kernel_rfl)
      refine bodyPost_ret (results_cell_tmp Tryd.results69 _ _ _ rfl hl) rfl ⟨below_setRow S6.out.bel (by have := HXB.out; have := S6.out.hx; omega) _, lay0, by rw [HN.out]; rfl, fun y h => by rw [HN.out] at h; cases h⟩
    | some v1 =>
      cases o2 with
      | none =>
        have HN : Hid (Y = none) := HY.out.symm.trans rfl
        clear a1 b3
        go_wp2_with (with_reducible refine wpList_store_row rfl 44 (.tmp 2) (.tmp 74) rfl xb #[.string ⟨#[]⟩, .int .i64 0, .int .i64 0, .string ⟨#[]⟩, .string ⟨#[]⟩, .string ⟨#[]⟩, .bool false] rfl rfl 44 _ S6.out.x (by kernel_rfl) rfl (by simp [Value.oneCell']) ?_)
        have hl := run_loadVar_row (P := Tryd.prog) (w6.setRow xb #[.string ⟨#[]⟩, .int .i64 0, .int .i64 0, .string ⟨#[]⟩, .string ⟨#[]⟩, .string ⟨#[]⟩, .bool false]) xb 44 44 #[.string ⟨#[]⟩, .int .i64 0, .int .i64 0, .string ⟨#[]⟩, .string ⟨#[]⟩, .string ⟨#[]⟩, .bool false] (0, 0) _ (setRow_heap w6 xb _ _ 44 _ S6.out.x) Tryd.underlying44 rfl (by kernel_rfl)
        refine bodyPost_ret (results_cell_tmp Tryd.results69 _ _ _ rfl hl) rfl ⟨below_setRow S6.out.bel (by have := HXB.out; have := S6.out.hx; omega) _, lay0, by rw [HN.out]; rfl, fun y h => by rw [HN.out] at h; cases h⟩
      | some v2 =>
        obtain rfl := HNA.out v1 rfl
        obtain rfl := HNE.out v2 rfl
        by_cases h100 : 100 < u.size
        · have HN : Hid (Y = none) := HY.out.symm.trans (by unfold LayIn; simp only []; rw [if_pos h100])
          have h100i : (100 : Int) < (u.size : Int) := by omega
          clear a1 b3
          go_wp2_with (with_reducible refine wpList_store_row rfl 44 (.tmp 2) (.tmp 74) rfl xb #[.string ⟨#[]⟩, .int .i64 0, .int .i64 0, .string ⟨#[]⟩, .string ⟨#[]⟩, .string ⟨#[]⟩, .bool false] rfl rfl 44 _ S6.out.x (by kernel_rfl) rfl (by simp [Value.oneCell']) ?_)
          have hl := run_loadVar_row (P := Tryd.prog) (w6.setRow xb #[.string ⟨#[]⟩, .int .i64 0, .int .i64 0, .string ⟨#[]⟩, .string ⟨#[]⟩, .string ⟨#[]⟩, .bool false]) xb 44 44 #[.string ⟨#[]⟩, .int .i64 0, .int .i64 0, .string ⟨#[]⟩, .string ⟨#[]⟩, .string ⟨#[]⟩, .bool false] (0, 0) _ (setRow_heap w6 xb _ _ 44 _ S6.out.x) Tryd.underlying44 rfl (by kernel_rfl)
          refine bodyPost_ret (results_cell_tmp Tryd.results69 _ _ _ rfl hl) rfl ⟨below_setRow S6.out.bel (by have := HXB.out; have := S6.out.hx; omega) _, lay0, by rw [HN.out]; rfl, fun y h => by rw [HN.out] at h; cases h⟩
        · have h100i : (u.size : Int) ≤ 100 := by omega
          have q100 := decN (100 < (u.size : Int)) (by omega)
          have hn : ((if u = e0 then (if l1 = t0 then some ⟨u, v1, v2, p3, e0, true⟩ else none) else if p3 = t0 then some ⟨u, v1, v2, e0, l1, false⟩ else none) = Y) := by rw [← HY.out]; unfold LayIn; simp only []; rw [if_neg h100]
          have HN := Lib.hid hn
          clear HY h100 hn
          cases lastb with
          | true =>
            have hu := of_decide_eq_true HLB.out.symm
            have hn : (if l1 = t0 then some (⟨u, v1, v2, p3, e0, true⟩ : Lay) else none) = Y := by rw [← HN.out, if_pos hu]
            replace HN := Lib.hid hn
            clear hn hu
            obtain ⟨d, hd⟩ : ∃ d : Bool, decide (l1 = t0) = d := ⟨_, rfl⟩
            have HDD := Lib.hid hd
            clear hd
            have x6 := seven_last X6.out
            have x3 := (seven_mid X6.out).1
            have z3 : w6.frozen? ⟨kb, 3, none⟩ = false := seven_free X6.out _
            go_upto_region 15 with fail
            have hlk : lb ≠ kb := by have := NLB.out; omega
            have hpk : pb ≠ kb := by have := NPB.out; omega
            have hlx : lb ≠ xb := by have := N1.out; omega
            have hpx : pb ≠ xb := by have := N2.out; omega
            have hkx : xb ≠ kb := by have := NXB.out; omega
            have S7 : Hid (LSt w xb 44 #[.string ⟨#[]⟩, .int .i64 0, .int .i64 0, .string ⟨#[]⟩, .string ⟨#[]⟩, .string ⟨#[]⟩, .bool false] (w6.setCell ⟨kb, 3, none⟩ (.string p3))) := ⟨S6.out.bel.setCell (p := ⟨kb, 3, none⟩) NKB.out _, (Below.heap_setCell _ _ _ _ hkx).trans S6.out.x, S6.out.hx⟩
            have X7 : Hid ((w6.setCell ⟨kb, 3, none⟩ (.string p3)).heap[kb]? = some (.cells #[.string u, .int .i64 v1, .int .i64 v2, .string p3, .string ⟨#[]⟩, .string ⟨#[]⟩, .bool true] 44 (0, 0))) := heap_setCell_same w6 kb 3 _ 44 _ X6.out
            have c7 : (w6.setCell ⟨kb, 3, none⟩ (.string p3)).cell? ⟨lb, 1, none⟩ = some (.string l1) := (cell_put_other _ _ _ _ _ _ hlk).trans a1
            clear a1 b3 x6 x3 z3
            generalize w6.setCell ⟨kb, 3, none⟩ (.string p3) = w7 at S7 X7 c7 ⊢
            obtain ⟨k0, k1', k2', k3, k4, k5, k6⟩ := seven_all X7.out
            obtain ⟨y0, y1, y2, y3, y4, y5, y6⟩ := seven_all S7.out.x
            have f0 := seven_free S7.out.x 0
            have f1 := seven_free S7.out.x 1
            have f2 := seven_free S7.out.x 2
            have f3 := seven_free S7.out.x 3
            have f4 := seven_free S7.out.x 4
            have f5 := seven_free S7.out.x 5
            have f6 := seven_free S7.out.x 6
            have ql : (lb == xb) = false := by simpa using hlx
            have qp : (pb == xb) = false := by simpa using hpx
            have qk : (xb == kb) = false := by simpa using hkx
            go_region
            have hd' := t0_eq l1
            rw [HDD.out] at hd'
            rw [hd']
            obtain ⟨B8, X8⟩ := seven_put S7.out.bel S7.out.hx S7.out.x (.string u) (.int .i64 v1) (.int .i64 v2) (.string p3) (.string ⟨#[]⟩) (.string ⟨#[]⟩) (.bool true)
            clear hd' c7 k0 k1' k2' k3 k4 k5 k6 y0 y1 y2 y3 y4 y5 y6 f0 f1 f2 f3 f4 f5 f6 ql qp qk hlk hpk hlx hpx hkx
            generalize (((((((w7.setCell ⟨xb, 0, none⟩ (.string u)).setCell ⟨xb, 1, none⟩ (.int .i64 v1)).setCell ⟨xb, 2, none⟩ (.int .i64 v2)).setCell ⟨xb, 3, none⟩ (.string p3)).setCell ⟨xb, 4, none⟩ (.string ⟨#[]⟩)).setCell ⟨xb, 5, none⟩ (.string ⟨#[]⟩)).setCell ⟨xb, 6, none⟩ (.bool true)).drew = w8 at B8 X8 ⊢
            have HF : Hid (Y.isSome = d ∧ ∀ y, Y = some y → (⟨u, v1, v2, p3, e0, true⟩ : Lay) = y) := by
              show _ ∧ _
              rw [← HN.out, ← HDD.out]
              by_cases hc : l1 = t0
              · rw [if_pos hc]; exact ⟨by rw [decide_eq_true hc]; rfl, fun y h => Option.some.inj h⟩
              · rw [if_neg hc]; exact ⟨by rw [decide_eq_false hc]; rfl, fun y h => by cases h⟩
            clear HN
            go_wp2_with fail
            have hl := run_loadVar_row (P := Tryd.prog) w8 xb 44 44 #[.string u, .int .i64 v1, .int .i64 v2, .string p3, .string ⟨#[]⟩, .string ⟨#[]⟩, .bool true] (0, 0) _ X8 Tryd.underlying44 rfl (by kernel_rfl)
            exact bodyPost_ret (results_cell_tmp Tryd.results69 _ _ _ rfl hl) rfl ⟨B8, _, by rw [HF.out.1]; rfl, HF.out.2⟩
          | false =>
            have hu := of_decide_eq_false HLB.out.symm
            have hn : (if p3 = t0 then some (⟨u, v1, v2, e0, l1, false⟩ : Lay) else none) = Y := by rw [← HN.out, if_neg hu]
            replace HN := Lib.hid hn
            clear hn hu
            obtain ⟨d, hd⟩ : ∃ d : Bool, decide (p3 = t0) = d := ⟨_, rfl⟩
            have HDD := Lib.hid hd
            clear hd
            have x6 := seven_last X6.out
            have x3 := (seven_mid X6.out).2
            have z3 : w6.frozen? ⟨kb, 4, none⟩ = false := seven_free X6.out _
            go_upto_region 17 with fail
            have hlk : lb ≠ kb := by have := NLB.out; omega
            have hpk : pb ≠ kb := by have := NPB.out; omega
            have hlx : lb ≠ xb := by have := N1.out; omega
            have hpx : pb ≠ xb := by have := N2.out; omega
            have hkx : xb ≠ kb := by have := NXB.out; omega
            have S7 : Hid (LSt w xb 44 #[.string ⟨#[]⟩, .int .i64 0, .int .i64 0, .string ⟨#[]⟩, .string ⟨#[]⟩, .string ⟨#[]⟩, .bool false] (w6.setCell ⟨kb, 4, none⟩ (.string l1))) := ⟨S6.out.bel.setCell (p := ⟨kb, 4, none⟩) NKB.out _, (Below.heap_setCell _ _ _ _ hkx).trans S6.out.x, S6.out.hx⟩
            have X7 : Hid ((w6.setCell ⟨kb, 4, none⟩ (.string l1)).heap[kb]? = some (.cells #[.string u, .int .i64 v1, .int .i64 v2, .string ⟨#[]⟩, .string l1, .string ⟨#[]⟩, .bool false] 44 (0, 0))) := heap_setCell_same w6 kb 4 _ 44 _ X6.out
            have c7 : (w6.setCell ⟨kb, 4, none⟩ (.string l1)).cell? ⟨pb, 3, none⟩ = some (.string p3) := (cell_put_other _ _ _ _ _ _ hpk).trans b3
            clear a1 b3 x6 x3 z3
            generalize w6.setCell ⟨kb, 4, none⟩ (.string l1) = w7 at S7 X7 c7 ⊢
            obtain ⟨k0, k1', k2', k3, k4, k5, k6⟩ := seven_all X7.out
            obtain ⟨y0, y1, y2, y3, y4, y5, y6⟩ := seven_all S7.out.x
            have f0 := seven_free S7.out.x 0
            have f1 := seven_free S7.out.x 1
            have f2 := seven_free S7.out.x 2
            have f3 := seven_free S7.out.x 3
            have f4 := seven_free S7.out.x 4
            have f5 := seven_free S7.out.x 5
            have f6 := seven_free S7.out.x 6
            have ql : (lb == xb) = false := by simpa using hlx
            have qp : (pb == xb) = false := by simpa using hpx
            have qk : (xb == kb) = false := by simpa using hkx
            go_region
            have hd' := t0_eq p3
            rw [HDD.out] at hd'
            rw [hd']
            obtain ⟨B8, X8⟩ := seven_put S7.out.bel S7.out.hx S7.out.x (.string u) (.int .i64 v1) (.int .i64 v2) (.string ⟨#[]⟩) (.string l1) (.string ⟨#[]⟩) (.bool false)
            clear hd' c7 k0 k1' k2' k3 k4 k5 k6 y0 y1 y2 y3 y4 y5 y6 f0 f1 f2 f3 f4 f5 f6 ql qp qk hlk hpk hlx hpx hkx
            generalize (((((((w7.setCell ⟨xb, 0, none⟩ (.string u)).setCell ⟨xb, 1, none⟩ (.int .i64 v1)).setCell ⟨xb, 2, none⟩ (.int .i64 v2)).setCell ⟨xb, 3, none⟩ (.string ⟨#[]⟩)).setCell ⟨xb, 4, none⟩ (.string l1)).setCell ⟨xb, 5, none⟩ (.string ⟨#[]⟩)).setCell ⟨xb, 6, none⟩ (.bool false)).drew = w8 at B8 X8 ⊢
            have HF : Hid (Y.isSome = d ∧ ∀ y, Y = some y → (⟨u, v1, v2, e0, l1, false⟩ : Lay) = y) := by
              show _ ∧ _
              rw [← HN.out, ← HDD.out]
              by_cases hc : p3 = t0
              · rw [if_pos hc]; exact ⟨by rw [decide_eq_true hc]; rfl, fun y h => Option.some.inj h⟩
              · rw [if_neg hc]; exact ⟨by rw [decide_eq_false hc]; rfl, fun y h => by cases h⟩
            clear HN
            go_wp2_with fail
            have hl := run_loadVar_row (P := Tryd.prog) w8 xb 44 44 #[.string u, .int .i64 v1, .int .i64 v2, .string ⟨#[]⟩, .string l1, .string ⟨#[]⟩, .bool false] (0, 0) _ X8 Tryd.underlying44 rfl (by kernel_rfl)
            exact bodyPost_ret (results_cell_tmp Tryd.results69 _ _ _ rfl hl) rfl ⟨B8, _, by rw [HF.out.1]; rfl, HF.out.2⟩
theorem dlayer_any (t : ByteArray) (w : World) (hm : t.size ≤ maxLen) : Calls Tryd.prog 69 #[.string t] w (LayPost (layO t) w) := by
  rcases lay_ways t with ⟨h, hy⟩ | ⟨l0, l1, h, hv, h2, hy⟩ | ⟨l0, l1, p0, p1, p2, p3, h⟩
  · exact dlay_no1 t w hm h hy
  · exact dlay_no2 t l0 l1 w hm h hv h2 hy
  · exact dlayer_parts t l0 l1 p0 p1 p2 p3 w hm h
end Go.Proofs.YtbdimlppnhcicaaDoor
