/- slices.Delete at the relay's row of places. -/
import Derived.Test.YtjdbnaedlljfhaaRel4
namespace Go.Proofs.Ytjdbnaedlljfhaa
open Go.RowKit

theorem setCells_block (g : Nat) (t : TypeId) : ∀ (vs : List Value) (o : Nat) (w : World) (cur : Array Value), w.heap[g]? = some (.cells cur t (0, 0)) → o + vs.length ≤ cur.size →
    ∃ cur' : Array Value, (w.setCells g o vs).heap[g]? = some (.cells cur' t (0, 0)) ∧ cur'.size = cur.size ∧ ∀ k, cur'[k]? = if o ≤ k ∧ k < o + vs.length then vs[k - o]? else cur[k]?
  | [], o, w, cur, h, _ => ⟨cur, h, rfl, fun k => by rw [if_neg (by intro h; simp at h; omega)]⟩
  | v :: vs, o, w, cur, h, hl => by
    have h1 : (w.setCell ⟨g, o, none⟩ v).heap[g]? = some (.cells (cur.setIfInBounds o v) t (0, 0)) := by simp [World.setCell, Array.getElem?_modify, h]
    simp only [List.length_cons] at hl
    obtain ⟨cur', h2, h3, h4⟩ := setCells_block g t vs (o + 1) _ _ h1 (by simp; omega)
    refine ⟨cur', h2, by simpa using h3, fun k => ?_⟩
    rw [h4 k]
    simp only [List.length_cons]
    by_cases hk : k = o
    · subst hk
      rw [if_neg (by omega), if_pos (by omega), Nat.sub_self, Array.getElem?_setIfInBounds, if_pos rfl, if_pos (by omega)]
      rfl
    · by_cases h5 : o + 1 ≤ k ∧ k < o + 1 + vs.length
      · rw [if_pos h5, if_pos (by omega), show k - o = (k - (o + 1)) + 1 by omega, List.getElem?_cons_succ]
      · rw [if_neg h5, if_neg (by omega), Array.getElem?_setIfInBounds, if_neg (fun e => hk e.symm)]
theorem setCells_fr (g : Nat) : ∀ (vs : List Value) (o : Nat) (a w : World) {S : Nat → Prop}, Fr S a w → S g → Fr S a (w.setCells g o vs)
  | [], _, _, _, _, h, _ => h
  | v :: vs, o, a, w, _, h, hs => setCells_fr g vs (o + 1) a _ (h.set ⟨g, o, none⟩ v (fun _ => hs)) hs
theorem run_clear1 (w : World) (ty : TypeId) (g o c : Nat) (hc : ∀ j, j < 2 → (w.cell? ⟨g, o + j, none⟩).isSome = true) (hf : ∀ j, j < 2 → w.frozen? ⟨g, o + j, none⟩ = false) :
    (Builtin.clear_ #[80] ty #[.slice (some ⟨g, o, none⟩) 1 c]).run Try.prog w = .ok (.tuple #[]) (w.setCells g o [.string ⟨#[]⟩, .int .i64 0]) := by
  have hz : ∀ w, (zeroValue 84).run Try.prog w = .ok (.agg #[.string ⟨#[]⟩, .int .i64 0]) w := fun w => by kernel_rfl
  have hzc : (Builtin.zeroCells (Value.agg #[.string ⟨#[]⟩, .int .i64 0]).cells 1).toList = [.string ⟨#[]⟩, .int .i64 0] := by kernel_rfl
  have hst := run_storeCells_cells (P := Try.prog) g o [.string ⟨#[]⟩, .int .i64 0] 0 w (by simpa using hc) (by simpa using hf) (by intro v hv; simp at hv; rcases hv with rfl | rfl <;> rfl)
  simp only [Nat.add_zero] at hst
  simp [Builtin.clear_, run_underlying Try.underlying80, hz, hzc, hst]
theorem placeCells_drop (L : List Circ) : ∀ j, placeCells (L.drop j) = (placeCells L).drop (j * 2) := by
  induction L with
  | nil => intro j; simp [placeCells]
  | cons x L ih =>
    intro j
    cases j with
    | zero => simp
    | succ j =>
      rw [List.drop_succ_cons, ih, show placeCells (x :: L) = .string x.oc :: .int .i64 x.oi :: placeCells L from rfl, show (j + 1) * 2 = j * 2 + 2 by omega, List.drop_succ_cons, List.drop_succ_cons]
theorem placeCells_append (A B : List Circ) : placeCells (A ++ B) = placeCells A ++ placeCells B := by simp [placeCells]
theorem placeCells_take (L : List Circ) : ∀ j, placeCells (L.take j) = (placeCells L).take (j * 2) := by
  induction L with
  | nil => intro j; simp [placeCells]
  | cons x L ih =>
    intro j
    cases j with
    | zero => simp [placeCells]
    | succ j =>
      rw [List.take_succ_cons, show placeCells (x :: L.take j) = .string x.oc :: .int .i64 x.oi :: placeCells (L.take j) from rfl, ih, show placeCells (x :: L) = .string x.oc :: .int .i64 x.oi :: placeCells L from rfl, show (j + 1) * 2 = j * 2 + 2 by omega, List.take_succ_cons, List.take_succ_cons]
theorem del_row {W1 : World} {base g cap n j : Nat} {cur cur1 : Array Value} {news : List Value} (L : List Circ) (hn : L.length = n + 1) (ht : ∀ t, cur[t]? = (placeCells L)[t]? ∨ (n + 1) * 2 ≤ t) (hs : cur.size = cap * 2) (hnews : (placeCells L).drop ((j + 1) * 2) = news) (hlen : news.length = (n - j) * 2)
    (hpl : (placeCells L).length = L.length * 2) (hg : base ≤ g) (hc : n + 1 ≤ cap) (hm : cap ≤ maxLen) (hj : j ≤ n) (b1 : W1.heap[g]? = some (.cells cur1 84 (0, 0))) (b2 : cur1.size = cur.size) (b3 : ∀ k, cur1[k]? = if 0 + j * 2 ≤ k ∧ k < 0 + j * 2 + news.length then news[k - (0 + j * 2)]? else cur[k]?) :
    (W1.setCells g (n * 2) [.string ⟨#[]⟩, .int .i64 0]).ownsRow base 84 2 (.slice (some ⟨g, 0, none⟩) n cap) n (placeCells (L.eraseIdx j)) := by
  obtain ⟨cur2, c1, c2, c3⟩ := setCells_block g 84 [.string ⟨#[]⟩, .int .i64 0] (n * 2) W1 cur1 b1 (by simp; omega)
  have hle : (L.eraseIdx j).length = n := by rw [List.length_eraseIdx, hn, if_pos (by omega)]; omega
  have hpe : (placeCells (L.eraseIdx j)).length = n * 2 := by rw [placeCells_length, hle]
  refine ⟨hpe, .inr ⟨g, cap, cur2, rfl, hg, c1, by omega, hm, by omega, ?_⟩⟩
  apply List.ext_getElem?
  intro k
  by_cases hk : k < n * 2
  · rw [List.getElem?_take, if_pos hk, Array.getElem?_toList, c3 k, if_neg (by omega), b3 k, List.eraseIdx_eq_take_drop_succ, placeCells_append, placeCells_take, placeCells_drop, hnews]
    have htl : ((placeCells L).take (j * 2)).length = j * 2 := by rw [List.length_take, hpl, hn]; omega
    by_cases h1 : k < j * 2
    · rw [if_neg (by omega), List.getElem?_append_left (by omega), List.getElem?_take, if_pos h1]
      exact (ht k).resolve_right (by omega)
    · rw [if_pos (by omega), List.getElem?_append_right (by omega), htl, Nat.zero_add]
  · rw [List.getElem?_eq_none (by simp; omega), List.getElem?_eq_none (by omega)]
set_option maxRecDepth 100000 in
set_option maxHeartbeats 2000000 in
theorem del_any (base j : Nat) (v : Value) (L : List Circ) (w : World) (h : w.ownsRow base 84 2 v L.length (placeCells L)) (hfew : L.length ≤ 256) (hj : j < L.length) :
    Calls Try.prog 38 #[v, .int .i64 j, .int .i64 (j + 1)] w fun e w' => ∃ v', e = .returned v' ∧ v'.ownBlock = v.ownBlock ∧ w'.ownsRow base 84 2 v' (L.eraseIdx j).length (placeCells (L.eraseIdx j)) ∧ Fr (fun k => v.ownBlock = some k) w w' := by
  obtain ⟨i0, hi0, hz0, hz1, hz2⟩ := info_parts Try.info84
  obtain ⟨g, cap, cur, rfl, hg, hh, hc, hm, hs, ht⟩ := row_cells h (by omega)
  have hgs := lt_of_heap hh
  obtain ⟨n, hn⟩ : ∃ n, L.length = n + 1 := ⟨L.length - 1, by omega⟩
  rw [hn] at hfew hj hc ht ⊢
  obtain ⟨news, hnews⟩ : ∃ news, (placeCells L).drop ((j + 1) * 2) = news := ⟨_, rfl⟩
  have hlen : news.length = (n - j) * 2 := by rw [← hnews, List.length_drop, placeCells_length, hn]; omega
  have hget : ∀ t u, news[t]? = some u → w.drew.cell? ⟨g, (j + 1) * 2 + t, none⟩ = some u := by
    intro t u hu
    have htl : t < news.length := (List.getElem?_eq_some_iff.1 hu).1
    rw [← hnews, List.getElem?_drop] at hu
    show w.cell? _ = _
    rw [cell_of_row w g _ _ _ _ hh]
    exact ((ht _).resolve_right (by omega)).trans hu
  obtain ⟨A, hA, hsrc⟩ : ∃ A : Addr, (if cap = j + 1 then some (⟨g, 0, none⟩ : Addr) else some ⟨g, (j + 1) * 2, none⟩) = some A ∧ Hid (∀ t u, news[t]? = some u → w.drew.cell? (A.add t) = some u) := by
    by_cases hcj : cap = j + 1
    · refine ⟨⟨g, 0, none⟩, by simp [hcj], fun t u hu => ?_⟩
      have h0 : news.length = 0 := by rw [hlen]; omega
      rw [List.length_eq_zero_iff.1 h0] at hu
      simp at hu
    · refine ⟨⟨g, (j + 1) * 2, none⟩, by simp [hcj], fun t u hu => ?_⟩
      rw [Addr.add_lit]
      exact hget t u hu
  unfold maxLen at hm
  have HH := Lib.hid hh; have HT := Lib.hid ht; have HS := Lib.hid hs; have HN := Lib.hid hn; have HNEWS := Lib.hid hnews; have HLEN := Lib.hid hlen; have HO := Lib.hid h
  clear hh ht hs hn hnews hlen h hget
  go_enter Try.func38, Try.ntmps38
  go_wp2_with fail
  have s1 : Hid (∀ u ∈ news, u.oneCell' = true) := by
    intro u hu
    rw [← HNEWS.out] at hu
    have := List.mem_of_mem_drop hu
    unfold placeCells at this
    simp at this
    obtain ⟨x, _, rfl | rfl⟩ := this <;> rfl
  have s3 : Hid (∀ t, t < news.length → (w.drew.cell? ⟨g, 0 + j * 2 + t, none⟩).isSome = true ∧ w.drew.frozen? ⟨g, 0 + j * 2 + t, none⟩ = false) := by
    intro t ht
    rw [HLEN.out] at ht
    refine ⟨?_, ?_⟩
    · show (w.cell? _).isSome = true
      rw [cell_of_row w g _ _ _ _ HH.out, Array.getElem?_eq_getElem (by rw [HS.out]; omega)]
      rfl
    · show w.frozen? _ = false
      simp [World.frozen?, HH.out]
  obtain ⟨W1, hW1⟩ : ∃ W1, W1 = w.drew.setCells g (0 + j * 2) news := ⟨_, rfl⟩
  have HW1 := Lib.hid hW1; clear hW1
  obtain ⟨cur1, b1, b2, b3⟩ := setCells_block g 84 news (0 + j * 2) w.drew cur HH.out (by rw [HLEN.out, HS.out]; omega)
  rw [← HW1.out] at b1
  have hcl : ∀ ty c, (Builtin.clear_ #[80] ty #[.slice (some ⟨g, n * 2, none⟩) 1 c]).run Try.prog W1 = .ok (.tuple #[]) (W1.setCells g (n * 2) [.string ⟨#[]⟩, .int .i64 0]) := fun ty c =>
    run_clear1 W1 ty g (n * 2) c (fun t ht => by rw [cell_of_row W1 g _ _ _ _ b1, Array.getElem?_eq_getElem (by rw [b2, HS.out]; omega)]; rfl) (fun t _ => by simp [World.frozen?, b1])
  have B1 := Lib.hid b1; have B2 := Lib.hid b2; have B3 := Lib.hid b3
  clear b1 b2 b3
  have hjc : j ≤ cap := by omega
  have hjc1 : j + 1 ≤ cap := by omega
  have q1 : (0 : Int) ≤ (j : Int) + 1 := by omega
  have q2 : j ≤ n := by omega
  go_region_law (refine step_append_room rfl (.tmp 22) (.tmp 25) 80 rfl 84 i0 2 Try.underlying80 hi0 hz1 g 0 j cap (by simp [Act.eval, Act.put]) A (n - j) (cap - (j + 1)) news (by simp [Act.eval, Act.put]) HLEN.out hsrc.out s1.out (by omega) s3.out ?_; rw [← HW1.out])
  go_wp2
  go_ret
  have hW : W1 = w.drew.setCells g (0 + j * 2) news := HW1.out
  have hle : (L.eraseIdx j).length = n := by rw [List.length_eraseIdx, HN.out, if_pos (by omega)]; omega
  refine ⟨.slice (some ⟨g, 0, none⟩) n cap, rfl, rfl, ?_, ?_⟩
  · rw [hle]
    exact del_row L HN.out HT.out HS.out HNEWS.out HLEN.out HO.out.1 hg hc (by unfold maxLen; omega) (by omega) B1.out B2.out B3.out
  · rw [hW]
    exact setCells_fr g _ _ _ _ (setCells_fr g _ _ _ _ (Fr.refl _ _).drew rfl) rfl
end Go.Proofs.Ytjdbnaedlljfhaa
