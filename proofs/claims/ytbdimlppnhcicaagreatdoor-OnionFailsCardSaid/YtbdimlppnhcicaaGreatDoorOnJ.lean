/- the program's layer, walked -/
import Derived.Test.YtbdimlppnhcicaaGreatDoorOnI
import Derived.WalkMore
namespace Go.Proofs.YtbdimlppnhcicaaGreatDoor
set_option linter.unusedVariables false
open Go.RowKit
/-! onion: a layer read, the program's -/
structure LSt (w0 : World) (xb : Nat) (T : TypeId) (C : Array Value) (W : World) : Prop where
  bel : Below w0.heap.size w0 W
  x : W.heap[xb]? = some (.cells C T (0, 0))
  hx : w0.heap.size ≤ xb
theorem LSt.next {w0 W W' : World} {xb : Nat} {T : TypeId} {C : Array Value} (h : LSt w0 xb T C W) (hb : Below W.heap.size W W') : LSt w0 xb T C W' :=
  ⟨h.bel.trans (hb.mono h.bel.size), (hb.block xb (lt_of_heap h.x)).trans h.x, h.hx⟩
/-- the two parts, and the four -/
structure Parts (t l0 l1 p0 p1 p2 p3 : ByteArray) : Prop where
  a : isT (op4 t.data.toList) 2 = true
  av : (op4 t.data.toList).vs = [l0, l1]
  b : isT (op4 l0.data.toList) 4 = true
  bv : (op4 l0.data.toList).vs = [p0, p1, p2, p3]
theorem Parts.lay {t l0 l1 p0 p1 p2 p3 : ByteArray} (h : Parts t l0 l1 p0 p1 p2 p3) : layO t = layP (op4 p0.data.toList) (op4 p1.data.toList) (op4 p2.data.toList) p3 l1 := by
  unfold layO
  rw [if_pos h.a, h.av]
  simp only []
  rw [if_pos h.b, h.bv]
theorem lay_ways (t : ByteArray) : (isT (op4 t.data.toList) 2 = false ∧ layO t = none) ∨ (∃ l0 l1, isT (op4 t.data.toList) 2 = true ∧ (op4 t.data.toList).vs = [l0, l1] ∧ isT (op4 l0.data.toList) 4 = false ∧ layO t = none) ∨ ∃ l0 l1 p0 p1 p2 p3, Parts t l0 l1 p0 p1 p2 p3 := by
  cases h : isT (op4 t.data.toList) 2 with
  | false => exact .inl ⟨rfl, by unfold layO; rw [h]; rfl⟩
  | true =>
    obtain ⟨l0, l1, hv⟩ := two_of (isT_vs h)
    cases h2 : isT (op4 l0.data.toList) 4 with
    | false => exact .inr (.inl ⟨l0, l1, rfl, hv, h2, by unfold layO; rw [if_pos h, hv]; simp only []; rw [h2]; rfl⟩)
    | true =>
      obtain ⟨p0, p1, p2, p3, hp⟩ := four_of (isT_vs h2)
      exact .inr (.inr ⟨l0, l1, p0, p1, p2, p3, h, hv, h2, hp⟩)
theorem layP_no {n a x : Op4} {p3 l1 : ByteArray} (h : ¬ (isX n = true ∧ (numO a 2100000000000000000).isSome = true ∧ (numO x 2147483647).isSome = true ∧ n.u.size ≤ 100)) : layP n a x p3 l1 = none := by
  unfold layP
  split
  · rename_i u v _ _ h1 h2 h3
    rw [if_pos (by
      rcases Nat.lt_or_ge 100 n.u.size with h4 | h4
      · exact h4
      · exact absurd ⟨h1, by rw [h2]; rfl, by rw [h3]; rfl, h4⟩ h)]
  · rfl
theorem layP_yes {n a x : Op4} {p3 l1 : ByteArray} {u v : Nat} (h1 : isX n = true) (h2 : numO a 2100000000000000000 = some u) (h3 : numO x 2147483647 = some v) (h4 : n.u.size ≤ 100) : layP n a x p3 l1 = if n.u = e0 then (if l1 = t0 then some ⟨n.u, u, v, p3, e0, true⟩ else none) else if p3 = t0 then some ⟨n.u, u, v, e0, l1, false⟩ else none := by
  unfold layP
  rw [h1, h2, h3]
  simp only []
  rw [if_neg (by omega)]
set_option maxRecDepth 100000 in
set_option maxHeartbeats 8000000 in
theorem olay_no1 (t : ByteArray) (w : World) (hm : t.size ≤ maxLen) (hL : LibOk w) (h : isT (op4 t.data.toList) 2 = false) (hy : layO t = none) : Calls Tryz.prog 121 #[.string t] w (LayPost (layO t) w) := by
  have HT : Hid (∀ W, Below w.heap.size w W → Calls Tryz.prog 60 #[.string t, .int .i64 2] W (KidsPostN (op4 t.data.toList) 2 W)) := fun W hW => otuple_new t 2 W _ (by omega) (popenN t W hm (hL.below hW))
  rw [hy]
  have HB := Lib.hid h
  clear hy h
  obtain ⟨q, hq⟩ : ∃ q, op4 t.data.toList = q := ⟨_, rfl⟩
  rw [hq] at HT HB
  clear hq
  go_enter Tryz.func121, Tryz.ntmps121
  go_upto_region 1 with fail
  have CX := heap_alloc_at w (.cells #[.string ⟨#[]⟩, .int .i64 0, .int .i64 0, .string ⟨#[]⟩, .string ⟨#[]⟩, .string ⟨#[]⟩, .bool false] 111)
  have B0 := below_new' w (.cells #[.string ⟨#[]⟩, .int .i64 0, .int .i64 0, .string ⟨#[]⟩, .string ⟨#[]⟩, .string ⟨#[]⟩, .bool false] 111)
  have SX : Hid (LSt w w.heap.size 111 #[.string ⟨#[]⟩, .int .i64 0, .int .i64 0, .string ⟨#[]⟩, .string ⟨#[]⟩, .string ⟨#[]⟩, .bool false] (w.alloc (.cells #[.string ⟨#[]⟩, .int .i64 0, .int .i64 0, .string ⟨#[]⟩, .string ⟨#[]⟩, .string ⟨#[]⟩, .bool false] 111))) := ⟨B0, CX, Nat.le_refl _⟩
  clear CX B0
  generalize w.alloc (.cells #[.string ⟨#[]⟩, .int .i64 0, .int .i64 0, .string ⟨#[]⟩, .string ⟨#[]⟩, .string ⟨#[]⟩, .bool false] 111) = w0 at SX ⊢
  obtain ⟨xb, hxb⟩ : ∃ k, w.heap.size = k := ⟨_, rfl⟩
  have HXB := Lib.hid hxb
  rw [hxb] at SX ⊢
  clear hxb
  go_wp2_with (first | (go_at_call 60; (with_reducible refine Calls.mono (HT.out _ SX.out.bel) ?_); rintro e w1 ⟨hb, o1, k1, rfl, hs⟩; have S1 := Lib.hid (SX.out.next hb); clear hb hs; have hb := HB.out; rw [hb]) | (with_reducible refine wpList_load_row rfl 111 (.tmp 2) rfl xb rfl 111 _ (0, 0) _ S1.out.x Tryz.underlying111 rfl (by kernel_rfl) ?_) | (with_reducible refine wpList_store_row rfl 111 (.tmp 2) (.tmp 93) rfl xb #[.string ⟨#[]⟩, .int .i64 0, .int .i64 0, .string ⟨#[]⟩, .string ⟨#[]⟩, .string ⟨#[]⟩, .bool false] rfl rfl 111 _ S1.out.x (by kernel_rfl) rfl (by simp [Value.oneCell']) ?_) | (refine wp_loop_rounds 2 ?_; rw [rounds_succ]) | go_step3)
  have hl := run_loadVar_row (P := Tryz.prog) (w1.setRow xb #[.string ⟨#[]⟩, .int .i64 0, .int .i64 0, .string ⟨#[]⟩, .string ⟨#[]⟩, .string ⟨#[]⟩, .bool false]) xb 111 111 #[.string ⟨#[]⟩, .int .i64 0, .int .i64 0, .string ⟨#[]⟩, .string ⟨#[]⟩, .string ⟨#[]⟩, .bool false] (0, 0) _ (setRow_heap w1 xb _ _ 111 _ S1.out.x) Tryz.underlying111 rfl (by kernel_rfl)
  refine bodyPost_ret (results_cell_tmp Tryz.results121 _ _ _ rfl hl) rfl ⟨below_setRow S1.out.bel (by have := HXB.out; have := S1.out.hx; omega) _, lay0, rfl, fun y h => by cases h⟩
set_option maxRecDepth 100000 in
set_option maxHeartbeats 8000000 in
theorem olay_no2 (t l0 l1 : ByteArray) (w : World) (hm : t.size ≤ maxLen) (hL : LibOk w) (h : isT (op4 t.data.toList) 2 = true) (hv : (op4 t.data.toList).vs = [l0, l1]) (h2 : isT (op4 l0.data.toList) 4 = false) (hy : layO t = none) : Calls Tryz.prog 121 #[.string t] w (LayPost (layO t) w) := by
  have HT : Hid (∀ W, Below w.heap.size w W → Calls Tryz.prog 60 #[.string t, .int .i64 2] W (KidsPostN (op4 t.data.toList) 2 W)) := fun W hW => otuple_new t 2 W _ (by omega) (popenN t W hm (hL.below hW))
  have HP : Hid (∀ W, Below w.heap.size w W → Calls Tryz.prog 60 #[.string l0, .int .i64 4] W (KidsPostN (op4 l0.data.toList) 4 W)) := fun W hW => otuple_new l0 4 W _ (by omega) (popenN l0 W (lt_max (op4_kid t.data.toList l0 (by rw [hv]; simp))) (hL.below hW))
  rw [hy]
  have HB := Lib.hid h
  have HB2 := Lib.hid h2
  have HV := Lib.hid hv
  clear hy h hv h2
  obtain ⟨q, hq⟩ : ∃ q, op4 t.data.toList = q := ⟨_, rfl⟩
  obtain ⟨q2, hq2⟩ : ∃ q, op4 l0.data.toList = q := ⟨_, rfl⟩
  rw [hq] at HT HB HV
  rw [hq2] at HP HB2
  clear hq hq2
  go_enter Tryz.func121, Tryz.ntmps121
  go_upto_region 1 with fail
  have CX := heap_alloc_at w (.cells #[.string ⟨#[]⟩, .int .i64 0, .int .i64 0, .string ⟨#[]⟩, .string ⟨#[]⟩, .string ⟨#[]⟩, .bool false] 111)
  have B0 := below_new' w (.cells #[.string ⟨#[]⟩, .int .i64 0, .int .i64 0, .string ⟨#[]⟩, .string ⟨#[]⟩, .string ⟨#[]⟩, .bool false] 111)
  have SX : Hid (LSt w w.heap.size 111 #[.string ⟨#[]⟩, .int .i64 0, .int .i64 0, .string ⟨#[]⟩, .string ⟨#[]⟩, .string ⟨#[]⟩, .bool false] (w.alloc (.cells #[.string ⟨#[]⟩, .int .i64 0, .int .i64 0, .string ⟨#[]⟩, .string ⟨#[]⟩, .string ⟨#[]⟩, .bool false] 111))) := ⟨B0, CX, Nat.le_refl _⟩
  clear CX B0
  generalize w.alloc (.cells #[.string ⟨#[]⟩, .int .i64 0, .int .i64 0, .string ⟨#[]⟩, .string ⟨#[]⟩, .string ⟨#[]⟩, .bool false] 111) = w0 at SX ⊢
  obtain ⟨xb, hxb⟩ : ∃ k, w.heap.size = k := ⟨_, rfl⟩
  have HXB := Lib.hid hxb
  rw [hxb] at SX ⊢
  clear hxb
  go_wp2_with (first | (go_at_call 60; (with_reducible refine Calls.mono (HT.out _ SX.out.bel) ?_); rintro e w1 ⟨hb, o1, k1, rfl, hs⟩; have S1 := Lib.hid (SX.out.next hb); have hb' := HB.out; rw [hb'] ; rw [HV.out] at hs ⊢; obtain ⟨lb, ho, hge, hc⟩ := hs.resolve_left (by simp); rw [ho] ; have a0 := hc 0 l0 rfl; clear hb hs hb' hc ho) | (go_at_call 60; (with_reducible refine Calls.mono (HP.out _ S1.out.bel) ?_); rintro e w2 ⟨hb, o2, k2, rfl, hs⟩; have S2 := Lib.hid (S1.out.next hb); clear hb hs a0; have hb := HB2.out; rw [hb]) | (with_reducible refine wpList_load_row rfl 111 (.tmp 2) rfl xb rfl 111 _ (0, 0) _ S2.out.x Tryz.underlying111 rfl (by kernel_rfl) ?_) | (with_reducible refine wpList_store_row rfl 111 (.tmp 2) (.tmp 93) rfl xb #[.string ⟨#[]⟩, .int .i64 0, .int .i64 0, .string ⟨#[]⟩, .string ⟨#[]⟩, .string ⟨#[]⟩, .bool false] rfl rfl 111 _ S2.out.x (by kernel_rfl) rfl (by simp [Value.oneCell']) ?_) | (refine wp_loop_rounds 2 ?_; rw [rounds_succ]) | go_step3)
  have hl := run_loadVar_row (P := Tryz.prog) (w2.setRow xb #[.string ⟨#[]⟩, .int .i64 0, .int .i64 0, .string ⟨#[]⟩, .string ⟨#[]⟩, .string ⟨#[]⟩, .bool false]) xb 111 111 #[.string ⟨#[]⟩, .int .i64 0, .int .i64 0, .string ⟨#[]⟩, .string ⟨#[]⟩, .string ⟨#[]⟩, .bool false] (0, 0) _ (setRow_heap w2 xb _ _ 111 _ S2.out.x) Tryz.underlying111 rfl (by kernel_rfl)
  refine bodyPost_ret (results_cell_tmp Tryz.results121 _ _ _ rfl hl) rfl ⟨below_setRow S2.out.bel (by have := HXB.out; have := S2.out.hx; omega) _, lay0, rfl, fun y h => by cases h⟩
def NumQ (o : Option Nat) (w : World) (e : Ending) (w' : World) : Prop :=
  Below w.heap.size w w' ∧ ∃ n : Int, e = .returned (.tuple #[.int .i64 n, .bool o.isSome]) ∧ ∀ v, o = some v → n = v
theorem numQ_of {q : Op4} {most : Nat} {w w' : World} {e : Ending} (h : NumOk q most w e w') : NumQ (numO q most) w e w' := by
  obtain ⟨hb, n, rfl, hn⟩ := h
  refine ⟨hb, n, by rw [num_some], fun v hv => ?_⟩
  unfold numO at hv
  split at hv
  · rename_i hx
    exact hn v hx hv
  · cases hv
theorem kids_two {q : Op4} {n : Nat} {w w' : World} {e : Ending} {a b : ByteArray} (h : KidsPostN q n w e w') (hi : isT q n = true) (hv : q.vs = [a, b]) : Below w.heap.size w w' ∧ ∃ lb k, e = .returned (.tuple #[.slice (some ⟨lb, 0, none⟩) 2 k, .bool true]) ∧ w.heap.size ≤ lb ∧ w'.cell? ⟨lb, 0, none⟩ = some (.string a) ∧ w'.cell? ⟨lb, 1, none⟩ = some (.string b) := by
  obtain ⟨hb, o, k, rfl, hs⟩ := h
  rw [hv] at hs ⊢
  obtain ⟨lb, rfl, hge, hc⟩ := hs.resolve_left (by simp)
  exact ⟨hb, lb, k, by rw [hi]; rfl, hge, hc 0 a rfl, hc 1 b rfl⟩
theorem kids_four {q : Op4} {n : Nat} {w w' : World} {e : Ending} {a b c d : ByteArray} (h : KidsPostN q n w e w') (hi : isT q n = true) (hv : q.vs = [a, b, c, d]) : Below w.heap.size w w' ∧ ∃ lb k, e = .returned (.tuple #[.slice (some ⟨lb, 0, none⟩) 4 k, .bool true]) ∧ w.heap.size ≤ lb ∧ w'.cell? ⟨lb, 0, none⟩ = some (.string a) ∧ w'.cell? ⟨lb, 1, none⟩ = some (.string b) ∧ w'.cell? ⟨lb, 2, none⟩ = some (.string c) ∧ w'.cell? ⟨lb, 3, none⟩ = some (.string d) := by
  obtain ⟨hb, o, k, rfl, hs⟩ := h
  rw [hv] at hs ⊢
  obtain ⟨lb, rfl, hge, hc⟩ := hs.resolve_left (by simp)
  exact ⟨hb, lb, k, by rw [hi]; rfl, hge, hc 0 a rfl, hc 1 b rfl, hc 2 c rfl, hc 3 d rfl⟩
theorem cell_row_other (w : World) (g b o : Nat) (cs : Array Value) (h : b ≠ g) : (w.setRow g cs).cell? ⟨b, o, none⟩ = w.cell? ⟨b, o, none⟩ := by
  simp only [World.cell?]
  rw [setRow_other _ _ _ _ h]
theorem cell_put_other (w : World) (g b o j : Nat) (v : Value) (h : b ≠ g) : (w.setCell ⟨g, j, none⟩ v).cell? ⟨b, o, none⟩ = w.cell? ⟨b, o, none⟩ := by
  simp only [World.cell?]
  rw [Below.heap_setCell _ _ _ _ h]
theorem seven_mid {w : World} {b : Nat} {a0 a1 a2 a3 a4 a5 a6 : Value} {t : TypeId} {f : Nat × Nat} (h : w.heap[b]? = some (.cells #[a0, a1, a2, a3, a4, a5, a6] t f)) : w.cell? ⟨b, 3, none⟩ = some a3 ∧ w.cell? ⟨b, 4, none⟩ = some a4 := by
  simp [World.cell?, h]
theorem seven_free {w : World} {b : Nat} {cs : Array Value} {t : TypeId} (h : w.heap[b]? = some (.cells cs t (0, 0))) (j : Nat) : w.frozen? ⟨b, j, none⟩ = false := by
  simp [World.frozen?, h]
theorem t0_eq (s : ByteArray) : (s.toList == [84, 48, 58]) = decide (s = t0) := by
  have e : t0.toList = [84, 48, 58] := by rw [ByteArray.toList_eq]; rfl
  by_cases h : s = t0
  · rw [h, e]; simp
  · have := toList_ne h; rw [e] at this; rw [this, decide_eq_false h]
theorem seven_last {w : World} {b : Nat} {a0 a1 a2 a3 a4 a5 a6 : Value} {t : TypeId} {f : Nat × Nat} (h : w.heap[b]? = some (.cells #[a0, a1, a2, a3, a4, a5, a6] t f)) : w.cell? ⟨b, 6, none⟩ = some a6 := by
  simp [World.cell?, h]
def LayIn (u : ByteArray) (x0 : Bool) (o1 o2 : Option Nat) (p3 l1 : ByteArray) : Option Lay :=
  match x0, o1, o2 with
  | true, some a, some x => if 100 < u.size then none else if u = e0 then (if l1 = t0 then some ⟨u, a, x, p3, e0, true⟩ else none) else if p3 = t0 then some ⟨u, a, x, e0, l1, false⟩ else none
  | _, _, _ => none
theorem layP_in (n a x : Op4) (p3 l1 : ByteArray) : layP n a x p3 l1 = LayIn n.u (isX n) (numO a 2100000000000000000) (numO x 2147483647) p3 l1 := rfl
set_option maxRecDepth 100000 in
set_option maxHeartbeats 8000000 in
theorem olayer_parts (t l0 l1 p0 p1 p2 p3 : ByteArray) (w : World) (hm : t.size ≤ maxLen) (hL : LibOk w) (hTb : Tab w) (h : Parts t l0 l1 p0 p1 p2 p3) : Calls Tryz.prog 121 #[.string t] w (LayPost (layO t) w) := by
  have hl0 := lt_max (op4_kid t.data.toList l0 (by rw [h.av]; simp))
  have hp0 := lt_max (op4_kid l0.data.toList p0 (by rw [h.bv]; simp))
  have hp1 := lt_max (op4_kid l0.data.toList p1 (by rw [h.bv]; simp))
  have hp2 := lt_max (op4_kid l0.data.toList p2 (by rw [h.bv]; simp))
  have HT : Hid (∀ W, Below w.heap.size w W → Calls Tryz.prog 60 #[.string t, .int .i64 2] W fun e w' => Below W.heap.size W w' ∧ ∃ lb k, e = .returned (.tuple #[.slice (some ⟨lb, 0, none⟩) 2 k, .bool true]) ∧ W.heap.size ≤ lb ∧ w'.cell? ⟨lb, 0, none⟩ = some (.string l0) ∧ w'.cell? ⟨lb, 1, none⟩ = some (.string l1)) := fun W hW => (otuple_new t 2 W _ (by omega) (popenN t W hm (hL.below hW))).mono fun _ _ hk => kids_two hk h.a h.av
  have HP : Hid (∀ W, Below w.heap.size w W → Calls Tryz.prog 60 #[.string l0, .int .i64 4] W fun e w' => Below W.heap.size W w' ∧ ∃ lb k, e = .returned (.tuple #[.slice (some ⟨lb, 0, none⟩) 4 k, .bool true]) ∧ W.heap.size ≤ lb ∧ w'.cell? ⟨lb, 0, none⟩ = some (.string p0) ∧ w'.cell? ⟨lb, 1, none⟩ = some (.string p1) ∧ w'.cell? ⟨lb, 2, none⟩ = some (.string p2) ∧ w'.cell? ⟨lb, 3, none⟩ = some (.string p3)) := fun W hW => (otuple_new l0 4 W _ (by omega) (popenN l0 W hl0 (hL.below hW))).mono fun _ _ hk => kids_four hk h.b h.bv
  have HX : Hid (∀ W, Below w.heap.size w W → Calls Tryz.prog 61 #[.string p0] W fun e w' => e = .returned (.tuple #[.string (op4 p0.data.toList).u, .bool (isX (op4 p0.data.toList))]) ∧ Below W.heap.size W w') := fun W hW => otext_any p0 W _ (popen_any p0 W hp0 (hL.below hW))
  have HA : Hid (∀ W, Below w.heap.size w W → Calls Tryz.prog 166 #[.string p1, .int .i64 2100000000000000000] W (NumQ (numO (op4 p1.data.toList) 2100000000000000000) W)) := fun W hW => (onum_any p1 _ 2100000000000000000 W _ rfl (by omega) (op4_text _) (hL.below hW) (hTb.below hW) (otext_any p1 W _ (popen_any p1 W hp1 (hL.below hW)))).mono fun _ _ hk => numQ_of hk
  have HE : Hid (∀ W, Below w.heap.size w W → Calls Tryz.prog 166 #[.string p2, .int .i64 2147483647] W (NumQ (numO (op4 p2.data.toList) 2147483647) W)) := fun W hW => (onum_any p2 _ 2147483647 W _ rfl (by omega) (op4_text _) (hL.below hW) (hTb.below hW) (otext_any p2 W _ (popen_any p2 W hp2 (hL.below hW)))).mono fun _ _ hk => numQ_of hk
  have hul := op4_text p0.data.toList
  rw [h.lay, layP_in]
  clear h hl0 hp0 hp1 hp2 hTb hL
  generalize (op4 p0.data.toList).u = u at HX hul ⊢
  generalize isX (op4 p0.data.toList) = x0 at HX ⊢
  generalize numO (op4 p1.data.toList) 2100000000000000000 = o1 at HA ⊢
  generalize numO (op4 p2.data.toList) 2147483647 = o2 at HE ⊢
  obtain ⟨Y, hY⟩ : ∃ Y, LayIn u x0 o1 o2 p3 l1 = Y := ⟨_, rfl⟩
  rw [hY]
  have HY := Lib.hid hY
  clear hY
  go_enter Tryz.func121, Tryz.ntmps121
  go_upto_region 1 with fail
  have CX := heap_alloc_at w (.cells #[.string ⟨#[]⟩, .int .i64 0, .int .i64 0, .string ⟨#[]⟩, .string ⟨#[]⟩, .string ⟨#[]⟩, .bool false] 111)
  have B0 := below_new' w (.cells #[.string ⟨#[]⟩, .int .i64 0, .int .i64 0, .string ⟨#[]⟩, .string ⟨#[]⟩, .string ⟨#[]⟩, .bool false] 111)
  have SX : Hid (LSt w w.heap.size 111 #[.string ⟨#[]⟩, .int .i64 0, .int .i64 0, .string ⟨#[]⟩, .string ⟨#[]⟩, .string ⟨#[]⟩, .bool false] (w.alloc (.cells #[.string ⟨#[]⟩, .int .i64 0, .int .i64 0, .string ⟨#[]⟩, .string ⟨#[]⟩, .string ⟨#[]⟩, .bool false] 111))) := ⟨B0, CX, Nat.le_refl _⟩
  clear CX B0
  generalize w.alloc (.cells #[.string ⟨#[]⟩, .int .i64 0, .int .i64 0, .string ⟨#[]⟩, .string ⟨#[]⟩, .string ⟨#[]⟩, .bool false] 111) = w0 at SX ⊢
  obtain ⟨xb, hxb⟩ : ∃ k, w.heap.size = k := ⟨_, rfl⟩
  have HXB := Lib.hid hxb
  rw [hxb] at SX ⊢
  clear hxb
  go_upto_region 9 with (first
    | (go_at_call 60; (with_reducible refine Calls.mono (HT.out _ SX.out.bel) ?_); rintro e w1 ⟨hb, lb, k1, rfl, hlb, a0, a1⟩; have S1 := Lib.hid (SX.out.next hb); have N1 := Lib.hid (Nat.lt_of_lt_of_le (lt_of_heap SX.out.x) hlb); clear hb hlb)
    | (go_at_call 60; (with_reducible refine Calls.mono (HP.out _ S1.out.bel) ?_); rintro e w2 ⟨hb, pb, k2, rfl, hpb, b0, b1, b2, b3⟩; have S2 := Lib.hid (S1.out.next hb); have N2 := Lib.hid (Nat.lt_of_lt_of_le (lt_of_heap S1.out.x) hpb); replace a1 := cell_later hb a1; clear hb hpb a0)
    | (go_at_call 61; (with_reducible refine Calls.mono (HX.out _ S2.out.bel) ?_); rintro e w3 ⟨rfl, hb⟩; have S3 := Lib.hid (S2.out.next hb); replace a1 := cell_later hb a1; replace b1 := cell_later hb b1; replace b2 := cell_later hb b2; replace b3 := cell_later hb b3; clear hb b0)
    | (go_at_call 166; (with_reducible refine Calls.mono (HA.out _ S3.out.bel) ?_); rintro e w4 ⟨hb, na, rfl, ha⟩; have S4 := Lib.hid (S3.out.next hb); have HNA := Lib.hid ha; replace a1 := cell_later hb a1; replace b2 := cell_later hb b2; replace b3 := cell_later hb b3; clear hb b1 ha)
    | (go_at_call 166; (with_reducible refine Calls.mono (HE.out _ S4.out.bel) ?_); rintro e w5 ⟨hb, ne, rfl, he⟩; have S5 := Lib.hid (S4.out.next hb); have HNE := Lib.hid he; replace a1 := cell_later hb a1; replace b3 := cell_later hb b3; clear hb b2 he)
    | (refine wp_loop_rounds 2 ?_; rw [rounds_succ])
    | go_step3)
  have hui : (u.size : Int) ≤ 16384 := by omega
  clear HT HP HX HA HE SX S1 S2 S3 S4
  cases x0 with
  | false =>
    have HN : Hid (Y = none) := HY.out.symm.trans rfl
    clear a1 b3
    go_wp2_with (first | (with_reducible refine wpList_load_row rfl 111 (.tmp 2) rfl xb rfl 111 _ (0, 0) _ S5.out.x Tryz.underlying111 rfl (by kernel_rfl) ?_) | (with_reducible refine wpList_store_row rfl 111 (.tmp 2) (.tmp 93) rfl xb #[.string ⟨#[]⟩, .int .i64 0, .int .i64 0, .string ⟨#[]⟩, .string ⟨#[]⟩, .string ⟨#[]⟩, .bool false] rfl rfl 111 _ S5.out.x (by kernel_rfl) rfl (by simp [Value.oneCell']) ?_) | (rw [rounds_succ]) | go_step3)
    have hl := run_loadVar_row (P := Tryz.prog) (w5.setRow xb #[.string ⟨#[]⟩, .int .i64 0, .int .i64 0, .string ⟨#[]⟩, .string ⟨#[]⟩, .string ⟨#[]⟩, .bool false]) xb 111 111 #[.string ⟨#[]⟩, .int .i64 0, .int .i64 0, .string ⟨#[]⟩, .string ⟨#[]⟩, .string ⟨#[]⟩, .bool false] (0, 0) _ (setRow_heap w5 xb _ _ 111 _ S5.out.x) Tryz.underlying111 rfl (by kernel_rfl)
    refine bodyPost_ret (results_cell_tmp Tryz.results121 _ _ _ rfl hl) rfl ⟨below_setRow S5.out.bel (by have := HXB.out; have := S5.out.hx; omega) _, lay0, by rw [HN.out]; rfl, fun y h => by rw [HN.out] at h; cases h⟩
  | true =>
    cases o1 with
    | none =>
      have HN : Hid (Y = none) := HY.out.symm.trans rfl
      clear a1 b3
      go_wp2_with (first | (with_reducible refine wpList_load_row rfl 111 (.tmp 2) rfl xb rfl 111 _ (0, 0) _ S5.out.x Tryz.underlying111 rfl (by kernel_rfl) ?_) | (with_reducible refine wpList_store_row rfl 111 (.tmp 2) (.tmp 93) rfl xb #[.string ⟨#[]⟩, .int .i64 0, .int .i64 0, .string ⟨#[]⟩, .string ⟨#[]⟩, .string ⟨#[]⟩, .bool false] rfl rfl 111 _ S5.out.x (by kernel_rfl) rfl (by simp [Value.oneCell']) ?_) | (rw [rounds_succ]) | go_step3)
      have hl := run_loadVar_row (P := Tryz.prog) (w5.setRow xb #[.string ⟨#[]⟩, .int .i64 0, .int .i64 0, .string ⟨#[]⟩, .string ⟨#[]⟩, .string ⟨#[]⟩, .bool false]) xb 111 111 #[.string ⟨#[]⟩, .int .i64 0, .int .i64 0, .string ⟨#[]⟩, .string ⟨#[]⟩, .string ⟨#[]⟩, .bool false] (0, 0) _ (setRow_heap w5 xb _ _ 111 _ S5.out.x) Tryz.underlying111 rfl (by kernel_rfl)
      refine bodyPost_ret (results_cell_tmp Tryz.results121 _ _ _ rfl hl) rfl ⟨below_setRow S5.out.bel (by have := HXB.out; have := S5.out.hx; omega) _, lay0, by rw [HN.out]; rfl, fun y h => by rw [HN.out] at h; cases h⟩
    | some v1 =>
      cases o2 with
      | none =>
        have HN : Hid (Y = none) := HY.out.symm.trans rfl
        clear a1 b3
        go_wp2_with (first | (with_reducible refine wpList_load_row rfl 111 (.tmp 2) rfl xb rfl 111 _ (0, 0) _ S5.out.x Tryz.underlying111 rfl (by kernel_rfl) ?_) | (with_reducible refine wpList_store_row rfl 111 (.tmp 2) (.tmp 93) rfl xb #[.string ⟨#[]⟩, .int .i64 0, .int .i64 0, .string ⟨#[]⟩, .string ⟨#[]⟩, .string ⟨#[]⟩, .bool false] rfl rfl 111 _ S5.out.x (by kernel_rfl) rfl (by simp [Value.oneCell']) ?_) | (rw [rounds_succ]) | go_step3)
        have hl := run_loadVar_row (P := Tryz.prog) (w5.setRow xb #[.string ⟨#[]⟩, .int .i64 0, .int .i64 0, .string ⟨#[]⟩, .string ⟨#[]⟩, .string ⟨#[]⟩, .bool false]) xb 111 111 #[.string ⟨#[]⟩, .int .i64 0, .int .i64 0, .string ⟨#[]⟩, .string ⟨#[]⟩, .string ⟨#[]⟩, .bool false] (0, 0) _ (setRow_heap w5 xb _ _ 111 _ S5.out.x) Tryz.underlying111 rfl (by kernel_rfl)
        refine bodyPost_ret (results_cell_tmp Tryz.results121 _ _ _ rfl hl) rfl ⟨below_setRow S5.out.bel (by have := HXB.out; have := S5.out.hx; omega) _, lay0, by rw [HN.out]; rfl, fun y h => by rw [HN.out] at h; cases h⟩
      | some v2 =>
        obtain rfl := HNA.out v1 rfl
        obtain rfl := HNE.out v2 rfl
        by_cases h100 : 100 < u.size
        · have HN : Hid (Y = none) := HY.out.symm.trans (by unfold LayIn; simp only []; rw [if_pos h100])
          have h100i : (100 : Int) < (u.size : Int) := by omega
          clear a1 b3
          go_wp2_with (first | (with_reducible refine wpList_load_row rfl 111 (.tmp 2) rfl xb rfl 111 _ (0, 0) _ S5.out.x Tryz.underlying111 rfl (by kernel_rfl) ?_) | (with_reducible refine wpList_store_row rfl 111 (.tmp 2) (.tmp 93) rfl xb #[.string ⟨#[]⟩, .int .i64 0, .int .i64 0, .string ⟨#[]⟩, .string ⟨#[]⟩, .string ⟨#[]⟩, .bool false] rfl rfl 111 _ S5.out.x (by kernel_rfl) rfl (by simp [Value.oneCell']) ?_) | (rw [rounds_succ]) | go_step3)
          have hl := run_loadVar_row (P := Tryz.prog) (w5.setRow xb #[.string ⟨#[]⟩, .int .i64 0, .int .i64 0, .string ⟨#[]⟩, .string ⟨#[]⟩, .string ⟨#[]⟩, .bool false]) xb 111 111 #[.string ⟨#[]⟩, .int .i64 0, .int .i64 0, .string ⟨#[]⟩, .string ⟨#[]⟩, .string ⟨#[]⟩, .bool false] (0, 0) _ (setRow_heap w5 xb _ _ 111 _ S5.out.x) Tryz.underlying111 rfl (by kernel_rfl)
          refine bodyPost_ret (results_cell_tmp Tryz.results121 _ _ _ rfl hl) rfl ⟨below_setRow S5.out.bel (by have := HXB.out; have := S5.out.hx; omega) _, lay0, by rw [HN.out]; rfl, fun y h => by rw [HN.out] at h; cases h⟩
        · have h100i : (u.size : Int) ≤ 100 := by omega
          have q100 := decN (100 < (u.size : Int)) (by omega)
          have hn : ((if u = e0 then (if l1 = t0 then some ⟨u, v1, v2, p3, e0, true⟩ else none) else if p3 = t0 then some ⟨u, v1, v2, e0, l1, false⟩ else none) = Y) := by rw [← HY.out]; unfold LayIn; simp only []; rw [if_neg h100]
          have HN := Lib.hid hn
          clear hn
          clear HY h100
          by_cases hu : u = e0
          · have hu' : u = ⟨#[]⟩ := hu
            have hn : (if l1 = t0 then some (⟨e0, v1, v2, p3, e0, true⟩ : Lay) else none) = Y := by rw [← HN.out, if_pos hu, hu]
            replace HN := Lib.hid hn
            subst hu'
            clear hn hu hul hui h100i q100
            obtain ⟨d, hd⟩ : ∃ d : Bool, decide (l1 = t0) = d := ⟨_, rfl⟩
            have HDD := Lib.hid hd
            clear hd
            go_upto_region 11 with (with_reducible refine wpList_store_row rfl 111 (.tmp 2) (.tmp 70) rfl xb #[.string ⟨#[]⟩, .int .i64 v1, .int .i64 v2, .string ⟨#[]⟩, .string ⟨#[]⟩, .string ⟨#[]⟩, .bool true] rfl rfl 111 _ S5.out.x (by kernel_rfl) rfl (by simp [Value.oneCell']) ?_)
            have hlb : lb ≠ xb := by have := N1.out; omega
            have hpb : pb ≠ xb := by have := N2.out; omega
            have S6 : Hid (LSt w xb 111 #[.string ⟨#[]⟩, .int .i64 v1, .int .i64 v2, .string ⟨#[]⟩, .string ⟨#[]⟩, .string ⟨#[]⟩, .bool true] (w5.setRow xb #[.string ⟨#[]⟩, .int .i64 v1, .int .i64 v2, .string ⟨#[]⟩, .string ⟨#[]⟩, .string ⟨#[]⟩, .bool true])) := ⟨below_setRow S5.out.bel (by have := HXB.out; have := S5.out.hx; omega) _, setRow_heap w5 xb _ _ 111 _ S5.out.x, S5.out.hx⟩
            have a1' : (w5.setRow xb #[.string ⟨#[]⟩, .int .i64 v1, .int .i64 v2, .string ⟨#[]⟩, .string ⟨#[]⟩, .string ⟨#[]⟩, .bool true]).cell? ⟨lb, 1, none⟩ = some (.string l1) := (cell_row_other _ _ _ _ _ hlb).trans a1
            have b3' : (w5.setRow xb #[.string ⟨#[]⟩, .int .i64 v1, .int .i64 v2, .string ⟨#[]⟩, .string ⟨#[]⟩, .string ⟨#[]⟩, .bool true]).cell? ⟨pb, 3, none⟩ = some (.string p3) := (cell_row_other _ _ _ _ _ hpb).trans b3
            clear a1 b3
            generalize w5.setRow xb #[.string ⟨#[]⟩, .int .i64 v1, .int .i64 v2, .string ⟨#[]⟩, .string ⟨#[]⟩, .string ⟨#[]⟩, .bool true] = w6 at S6 a1' b3' ⊢
            have x6 := seven_last S6.out.x
            have x3 := (seven_mid S6.out.x).1
            go_upto_region 12 with fail
            have ql : (lb == xb) = false := by simpa using hlb
            have qp : (pb == xb) = false := by simpa using hpb
            have z3 : w6.frozen? ⟨xb, 3, none⟩ = false := seven_free S6.out.x _
            go_region
            have S7 : Hid (LSt w xb 111 #[.string ⟨#[]⟩, .int .i64 v1, .int .i64 v2, .string p3, .string ⟨#[]⟩, .string ⟨#[]⟩, .bool true] (w6.setCell ⟨xb, 3, none⟩ (.string p3)).drew) := ⟨(S6.out.bel.setCell (p := ⟨xb, 3, none⟩) S6.out.hx _).drew, heap_setCell_same w6 xb 3 _ 111 _ S6.out.x, S6.out.hx⟩
            have hd' := t0_eq l1
            rw [HDD.out] at hd'
            try rw [hd']
            clear hd' x3 z3 ql qp hlb hpb a1' b3' x6
            generalize (w6.setCell ⟨xb, 3, none⟩ (.string p3)).drew = w7 at S7 ⊢
            have HF : Hid (Y.isSome = d ∧ ∀ y, Y = some y → (⟨e0, v1, v2, p3, e0, true⟩ : Lay) = y) := by
              show _ ∧ _
              rw [← HN.out, ← HDD.out]
              by_cases hc : l1 = t0
              · rw [if_pos hc]; exact ⟨by rw [decide_eq_true hc]; rfl, fun y h => Option.some.inj h⟩
              · rw [if_neg hc]; exact ⟨by rw [decide_eq_false hc]; rfl, fun y h => by cases h⟩
            clear HN
            go_wp2_with (first | (with_reducible refine wpList_load_row rfl 111 (.tmp 2) rfl xb rfl 111 _ (0, 0) _ S7.out.x Tryz.underlying111 rfl (by kernel_rfl) ?_) | (with_reducible refine wpList_store_row rfl 111 (.tmp 2) (.tmp 93) rfl xb #[.string ⟨#[]⟩, .int .i64 v1, .int .i64 v2, .string p3, .string ⟨#[]⟩, .string ⟨#[]⟩, .bool true] rfl rfl 111 _ S7.out.x (by kernel_rfl) rfl (by simp [Value.oneCell']) ?_) | (rw [rounds_succ]) | go_step3)
            have hl := run_loadVar_row (P := Tryz.prog) (w7.setRow xb #[.string ⟨#[]⟩, .int .i64 v1, .int .i64 v2, .string p3, .string ⟨#[]⟩, .string ⟨#[]⟩, .bool true]) xb 111 111 #[.string ⟨#[]⟩, .int .i64 v1, .int .i64 v2, .string p3, .string ⟨#[]⟩, .string ⟨#[]⟩, .bool true] (0, 0) _ (setRow_heap w7 xb _ _ 111 _ S7.out.x) Tryz.underlying111 rfl (by kernel_rfl)
            refine bodyPost_ret (results_cell_tmp Tryz.results121 _ _ _ rfl hl) rfl ⟨below_setRow S7.out.bel (by have := HXB.out; have := S7.out.hx; omega) _, _, by rw [HF.out.1]; rfl, HF.out.2⟩
          · have hn : (if p3 = t0 then some (⟨u, v1, v2, e0, l1, false⟩ : Lay) else none) = Y := by rw [← HN.out, if_neg hu]
            replace HN := Lib.hid hn
            have e0' : (u.toList == []) = false := by have := toList_ne hu; rw [show e0 = ⟨#[]⟩ from rfl, empty_list] at this; exact this
            clear hn hu
            obtain ⟨d, hd⟩ : ∃ d : Bool, decide (p3 = t0) = d := ⟨_, rfl⟩
            have HDD := Lib.hid hd
            clear hd
            go_upto_region 11 with (with_reducible refine wpList_store_row rfl 111 (.tmp 2) (.tmp 70) rfl xb #[.string u, .int .i64 v1, .int .i64 v2, .string ⟨#[]⟩, .string ⟨#[]⟩, .string ⟨#[]⟩, .bool false] rfl rfl 111 _ S5.out.x (by kernel_rfl) rfl (by simp [Value.oneCell']) ?_)
            have hlb : lb ≠ xb := by have := N1.out; omega
            have hpb : pb ≠ xb := by have := N2.out; omega
            have S6 : Hid (LSt w xb 111 #[.string u, .int .i64 v1, .int .i64 v2, .string ⟨#[]⟩, .string ⟨#[]⟩, .string ⟨#[]⟩, .bool false] (w5.setRow xb #[.string u, .int .i64 v1, .int .i64 v2, .string ⟨#[]⟩, .string ⟨#[]⟩, .string ⟨#[]⟩, .bool false])) := ⟨below_setRow S5.out.bel (by have := HXB.out; have := S5.out.hx; omega) _, setRow_heap w5 xb _ _ 111 _ S5.out.x, S5.out.hx⟩
            have a1' : (w5.setRow xb #[.string u, .int .i64 v1, .int .i64 v2, .string ⟨#[]⟩, .string ⟨#[]⟩, .string ⟨#[]⟩, .bool false]).cell? ⟨lb, 1, none⟩ = some (.string l1) := (cell_row_other _ _ _ _ _ hlb).trans a1
            have b3' : (w5.setRow xb #[.string u, .int .i64 v1, .int .i64 v2, .string ⟨#[]⟩, .string ⟨#[]⟩, .string ⟨#[]⟩, .bool false]).cell? ⟨pb, 3, none⟩ = some (.string p3) := (cell_row_other _ _ _ _ _ hpb).trans b3
            clear a1 b3
            generalize w5.setRow xb #[.string u, .int .i64 v1, .int .i64 v2, .string ⟨#[]⟩, .string ⟨#[]⟩, .string ⟨#[]⟩, .bool false] = w6 at S6 a1' b3' ⊢
            have x6 := seven_last S6.out.x
            have x3 := (seven_mid S6.out.x).2
            go_upto_region 13 with fail
            have ql : (lb == xb) = false := by simpa using hlb
            have qp : (pb == xb) = false := by simpa using hpb
            have z3 : w6.frozen? ⟨xb, 4, none⟩ = false := seven_free S6.out.x _
            go_region
            have S7 : Hid (LSt w xb 111 #[.string u, .int .i64 v1, .int .i64 v2, .string ⟨#[]⟩, .string l1, .string ⟨#[]⟩, .bool false] (w6.setCell ⟨xb, 4, none⟩ (.string l1)).drew) := ⟨(S6.out.bel.setCell (p := ⟨xb, 4, none⟩) S6.out.hx _).drew, heap_setCell_same w6 xb 4 _ 111 _ S6.out.x, S6.out.hx⟩
            have hd' := t0_eq p3
            rw [HDD.out] at hd'
            try rw [hd']
            clear hd' x3 z3 ql qp hlb hpb a1' b3' x6
            generalize (w6.setCell ⟨xb, 4, none⟩ (.string l1)).drew = w7 at S7 ⊢
            have HF : Hid (Y.isSome = d ∧ ∀ y, Y = some y → (⟨u, v1, v2, e0, l1, false⟩ : Lay) = y) := by
              show _ ∧ _
              rw [← HN.out, ← HDD.out]
              by_cases hc : p3 = t0
              · rw [if_pos hc]; exact ⟨by rw [decide_eq_true hc]; rfl, fun y h => Option.some.inj h⟩
              · rw [if_neg hc]; exact ⟨by rw [decide_eq_false hc]; rfl, fun y h => by cases h⟩
            clear HN
            go_wp2_with (first | (with_reducible refine wpList_load_row rfl 111 (.tmp 2) rfl xb rfl 111 _ (0, 0) _ S7.out.x Tryz.underlying111 rfl (by kernel_rfl) ?_) | (with_reducible refine wpList_store_row rfl 111 (.tmp 2) (.tmp 93) rfl xb #[.string u, .int .i64 v1, .int .i64 v2, .string ⟨#[]⟩, .string l1, .string ⟨#[]⟩, .bool false] rfl rfl 111 _ S7.out.x (by kernel_rfl) rfl (by simp [Value.oneCell']) ?_) | (rw [rounds_succ]) | go_step3)
            have hl := run_loadVar_row (P := Tryz.prog) (w7.setRow xb #[.string u, .int .i64 v1, .int .i64 v2, .string ⟨#[]⟩, .string l1, .string ⟨#[]⟩, .bool false]) xb 111 111 #[.string u, .int .i64 v1, .int .i64 v2, .string ⟨#[]⟩, .string l1, .string ⟨#[]⟩, .bool false] (0, 0) _ (setRow_heap w7 xb _ _ 111 _ S7.out.x) Tryz.underlying111 rfl (by kernel_rfl)
            refine bodyPost_ret (results_cell_tmp Tryz.results121 _ _ _ rfl hl) rfl ⟨below_setRow S7.out.bel (by have := HXB.out; have := S7.out.hx; omega) _, _, by rw [HF.out.1]; rfl, HF.out.2⟩
theorem olayer_any (t : ByteArray) (w : World) (hm : t.size ≤ maxLen) (hL : LibOk w) (hT : Tab w) : Calls Tryz.prog 121 #[.string t] w (LayPost (layO t) w) := by
  rcases lay_ways t with ⟨h, hy⟩ | ⟨l0, l1, h, hv, h2, hy⟩ | ⟨l0, l1, p0, p1, p2, p3, h⟩
  · exact olay_no1 t w hm hL h hy
  · exact olay_no2 t l0 l1 w hm hL h hv h2 hy
  · exact olayer_parts t l0 l1 p0 p1 p2 p3 w hm hL hT h
end Go.Proofs.YtbdimlppnhcicaaGreatDoor
