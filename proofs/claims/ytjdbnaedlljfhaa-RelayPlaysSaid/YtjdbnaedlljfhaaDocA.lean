/- The document's relay: what it tells. -/
import Derived.Test.YtjdbnaedlljfhaaPairsA
import Derived.BigQuiet
namespace Go.Proofs.Ytjdbnaedlljfhaa
open Go.RowKit
/-- the document's relay in block mb: a row of circuits -/
structure DocAt (w : World) (base mb : Nat) (v : Value) (L : List Circ) : Prop where
  mbk : w.heap[mb]? = some (.cells #[v] 42 (0, 0))
  own : w.ownsRow base 49 10 v L.length (circCells L)
  h1 : base ≤ mb
theorem DocAt.below {w w' : World} {base mb : Nat} {v : Value} {L : List Circ} (h : DocAt w base mb v L) (hb : Below w.heap.size w w') : DocAt w' base mb v L :=
  ⟨(hb.block mb (lt_of_heap h.mbk)).trans h.mbk, own_below h.own hb, h.h1⟩
theorem doc_cells : ∀ (L : List Circ) (k : Nat) (c : Circ), L[k]? = some c → ∀ j, j < 10 → (circCells L)[k * 10 + j]? = c.cells[j]?
  | [], k, c, h, _, _ => by simp at h
  | x :: L, 0, c, h, j, hj => by
    simp at h; subst h
    show (x.cells ++ circCells L)[0 * 10 + j]? = _
    rw [List.getElem?_append_left (by simp [Circ.cells]; omega), Nat.zero_mul, Nat.zero_add]
  | x :: L, k + 1, c, h, j, hj => by
    have := doc_cells L k c (by simpa using h) j hj
    show (x.cells ++ circCells L)[(k + 1) * 10 + j]? = _
    rw [List.getElem?_append_right (by simp [Circ.cells]; omega), show (k + 1) * 10 + j - x.cells.length = k * 10 + j by simp [Circ.cells]; omega]
    exact this
theorem DocAt.row {w : World} {base mb : Nat} {v : Value} {L : List Circ} (h : DocAt w base mb v L) {k : Nat} {c : Circ} (hk : L[k]? = some c) : ∃ g cap, v = .slice (some ⟨g, 0, none⟩) L.length cap ∧ CircAt w g (k * 10) c := by
  have hkl := (List.getElem?_eq_some_iff.1 hk).1
  rcases h.own.2 with ⟨_, h0⟩ | ⟨g, cap, cur, hv, _, hh, _, _, _, ht⟩
  · omega
  · have hc : ∀ j, j < 10 → cur[k * 10 + j]? = c.cells[j]? := fun j hj => by
      rw [← doc_cells L k c hk j hj, ← ht, List.getElem?_take, if_pos (by omega), Array.getElem?_toList]
    refine ⟨g, cap, hv, ?_, ?_, ?_, ?_, ?_, ?_, ?_, ?_, ?_, ?_⟩ <;> rw [cell_of_row _ _ _ _ _ _ hh]
    · exact hc 0 (by omega)
    · exact hc 1 (by omega)
    · exact hc 2 (by omega)
    · exact hc 3 (by omega)
    · exact hc 4 (by omega)
    · exact hc 5 (by omega)
    · exact hc 6 (by omega)
    · exact hc 7 (by omega)
    · exact hc 8 (by omega)
    · exact hc 9 (by omega)
theorem new_cells49 {w : World} {b : Nat} (h : w.heap[b]? = some (.cells #[.string ⟨#[]⟩, .int .i64 0, .string ⟨#[]⟩, .int .i64 0, .int .i64 0, .int .i64 0, .int .i64 0, .int .i64 0, .string ⟨#[]⟩, .string ⟨#[]⟩] 49 (0, 0))) :
    (w.cell? ⟨b, 0, none⟩ = some (.string ⟨#[]⟩) ∧ w.cell? ⟨b, 1, none⟩ = some (.int .i64 0) ∧ w.cell? ⟨b, 2, none⟩ = some (.string ⟨#[]⟩) ∧ w.cell? ⟨b, 3, none⟩ = some (.int .i64 0) ∧ w.cell? ⟨b, 4, none⟩ = some (.int .i64 0) ∧ w.cell? ⟨b, 5, none⟩ = some (.int .i64 0) ∧ w.cell? ⟨b, 6, none⟩ = some (.int .i64 0) ∧ w.cell? ⟨b, 7, none⟩ = some (.int .i64 0) ∧ w.cell? ⟨b, 8, none⟩ = some (.string ⟨#[]⟩) ∧ w.cell? ⟨b, 9, none⟩ = some (.string ⟨#[]⟩)) ∧ ∀ j, w.frozen? ⟨b, j, none⟩ = false :=
  ⟨by simp [World.cell?, h], fun j => frozen_of_row w b j _ 49 h⟩
theorem findC_absent' {p : Circ → Bool} : ∀ (L : List Circ) (i : Nat), (∀ (t : Nat) (x : Circ), L[t]? = some x → p x = false) → findC p L i = none
  | [], _, _ => rfl
  | c :: L, i, h => by
    unfold findC
    rw [if_neg (by rw [h 0 c rfl]; decide)]
    exact findC_absent' L (i + 1) fun t x hx => h (t + 1) x (by simpa using hx)
theorem findC_first_at {p : Circ → Bool} : ∀ (L : List Circ) (k i : Nat) (c : Circ), L[k]? = some c → p c = true → (∀ t, t < k → ∀ x, L[t]? = some x → p x = false) → findC p L i = some (i + k, c)
  | [], k, i, c, h, _, _ => by simp at h
  | x :: L, 0, i, c, h, hp, _ => by
    simp at h; subst h
    unfold findC
    rw [if_pos hp]; rfl
  | x :: L, k + 1, i, c, h, hp, hn => by
    unfold findC
    rw [if_neg (by rw [hn 0 (by omega) x rfl]; decide), findC_first_at L k (i + 1) c (by simpa using h) hp fun t ht y hy => hn (t + 1) (by omega) y (by simpa using hy)]
    congr 2; omega
theorem findC_first {p : Circ → Bool} {L : List Circ} {k : Nat} {c : Circ} (h : L[k]? = some c) (hp : p c = true) (hn : ∀ t, t < k → ∀ x, L[t]? = some x → p x = false) : findC p L 0 = some (k, c) := by
  rw [findC_first_at L k 0 c h hp hn, Nat.zero_add]
theorem set10b {w W : World} {b : Nat} {c : Circ} (h : Below w.heap.size w W) (hb : w.heap.size ≤ b) : Below w.heap.size w ((((((((((W.setCell ⟨b, 0, none⟩ (.string c.ic)).setCell ⟨b, 1, none⟩ (.int .i64 c.ii)).setCell ⟨b, 2, none⟩ (.string c.oc)).setCell ⟨b, 3, none⟩ (.int .i64 c.oi)).setCell ⟨b, 4, none⟩ (.int .i64 c.ia)).setCell ⟨b, 5, none⟩ (.int .i64 c.oa)).setCell ⟨b, 6, none⟩ (.int .i64 c.ie)).setCell ⟨b, 7, none⟩ (.int .i64 c.oe)).setCell ⟨b, 8, none⟩ (.string c.hash)).setCell ⟨b, 9, none⟩ (.string c.sh)) := set10_below (c := c) h hb
theorem set10t {w : World} {b : Nat} {t : TypeId} {c : Circ} {a0 a1 a2 a3 a4 a5 a6 a7 a8 a9 : Value} (h : w.heap[b]? = some (.cells #[a0, a1, a2, a3, a4, a5, a6, a7, a8, a9] t (0, 0))) : ((((((((((w.setCell ⟨b, 0, none⟩ (.string c.ic)).setCell ⟨b, 1, none⟩ (.int .i64 c.ii)).setCell ⟨b, 2, none⟩ (.string c.oc)).setCell ⟨b, 3, none⟩ (.int .i64 c.oi)).setCell ⟨b, 4, none⟩ (.int .i64 c.ia)).setCell ⟨b, 5, none⟩ (.int .i64 c.oa)).setCell ⟨b, 6, none⟩ (.int .i64 c.ie)).setCell ⟨b, 7, none⟩ (.int .i64 c.oe)).setCell ⟨b, 8, none⟩ (.string c.hash)).setCell ⟨b, 9, none⟩ (.string c.sh)).heap[b]? = some (.cells c.cells.toArray t (0, 0)) := by
  have h0 := heap_setCell_same _ b 0 _ t (.string c.ic) h
  have h1 := heap_setCell_same _ b 1 _ t (.int .i64 c.ii) h0
  have h2 := heap_setCell_same _ b 2 _ t (.string c.oc) h1
  have h3 := heap_setCell_same _ b 3 _ t (.int .i64 c.oi) h2
  have h4 := heap_setCell_same _ b 4 _ t (.int .i64 c.ia) h3
  have h5 := heap_setCell_same _ b 5 _ t (.int .i64 c.oa) h4
  have h6 := heap_setCell_same _ b 6 _ t (.int .i64 c.ie) h5
  have h7 := heap_setCell_same _ b 7 _ t (.int .i64 c.oe) h6
  have h8 := heap_setCell_same _ b 8 _ t (.string c.hash) h7
  have h9 := heap_setCell_same _ b 9 _ t (.string c.sh) h8
  refine h9.trans ?_
  simp [Circ.cells]
theorem ten_t {w : World} {b : Nat} {t : TypeId} {c : Circ} (h : w.heap[b]? = some (.cells c.cells.toArray t (0, 0))) : CircAt w b 0 c := by
  refine ⟨?_, ?_, ?_, ?_, ?_, ?_, ?_, ?_, ?_, ?_⟩ <;> (rw [cell_of_row _ _ _ _ _ _ h]; rfl)
set_option maxRecDepth 100000 in
set_option maxHeartbeats 1000000 in
theorem refs_any (c : Circ) (w : World) : Calls Try.prog 17 #[.agg #[.string c.ic, .int .i64 c.ii, .string c.oc, .int .i64 c.oi, .int .i64 c.ia, .int .i64 c.oa, .int .i64 c.ie, .int .i64 c.oe, .string c.hash, .string c.sh]] w fun e w' => e = .returned (.agg #[.string c.ic, .int .i64 c.ii, .string c.oc, .int .i64 c.oi, .int .i64 c.ia, .int .i64 c.oa, .int .i64 c.ie, .int .i64 c.oe, .string c.hash, .string c.sh]) ∧ Below w.heap.size w w' := by
  go_enter Try.func17, Try.ntmps17
  go_wp2
  exact bodyPost_ret (v := .agg #[.string c.ic, .int .i64 c.ii, .string c.oc, .int .i64 c.oi, .int .i64 c.ia, .int .i64 c.oa, .int .i64 c.ie, .int .i64 c.oe, .string c.hash, .string c.sh]) (by simp [results, Try.results17, go_sem]) rfl ⟨rfl, (by (repeat' (first | (with_reducible exact Below.refl _ _) | (with_reducible assumption) | (with_reducible refine Below.alloc ?_ ?_ _) | (with_reducible refine Below.drew ?_) | (with_reducible refine Below.setCell ?_ ?_ _) | (with_reducible refine below_drewN ?_ _) | (refine Below.trans ?_ (Below.mono (by assumption) ?_)) | go_size | (simp; omega))))⟩
set_option maxRecDepth 100000 in
set_option maxHeartbeats 2000000 in
theorem docin_any (mb base : Nat) (v : Value) (L : List Circ) (w : World) (h : DocAt w base mb v L) (hm : L.length ≤ 256) (n : ByteArray) (i : Int) : Calls Try.prog 16 #[.pointer (some ⟨mb, 0, none⟩), .string n, .int .i64 i] w (TellPost (findC (Circ.inIs n i) L 0) w) := by
  obtain ⟨va, vc, rfl⟩ := own_slice h.own
  have HD := Lib.hid h
  have cm : w.cell? ⟨mb, 0, none⟩ = some (.slice va L.length vc) := by simp [World.cell?, h.mbk]
  have hmb : mb < w.heap.size := lt_of_heap h.mbk
  obtain ⟨F, hF⟩ : ∃ F, findC (Circ.inIs n i) L 0 = F := ⟨_, rfl⟩
  have HF := Lib.hid hF
  rw [hF]
  clear h hF
  go_enter Try.func16, Try.ntmps16
  go_wp2
  have cm1 := cell_later (below_new' w (.cells #[.string ⟨#[]⟩, .int .i64 0, .string ⟨#[]⟩, .int .i64 0, .int .i64 0, .int .i64 0, .int .i64 0, .int .i64 0, .string ⟨#[]⟩, .string ⟨#[]⟩] 49)) cm
  go_loopw [8] (fun iv wr => ∃ k : Nat, k ≤ L.length ∧ iv = .int .i64 k ∧ Hid (Below w.heap.size w wr) ∧ Hid (wr.heap[w.heap.size]? = some (.cells #[.string ⟨#[]⟩, .int .i64 0, .string ⟨#[]⟩, .int .i64 0, .int .i64 0, .int .i64 0, .int .i64 0, .int .i64 0, .string ⟨#[]⟩, .string ⟨#[]⟩] 49 (0, 0))) ∧ Hid (∀ t, t < k → ∀ x, L[t]? = some x → Circ.inIs n i x = false)) (fun iv _ => L.length - (intOf iv).toNat)
  case atStart => exact ⟨0, Nat.zero_le _, rfl, below_new' w _, heap_alloc_at w _, fun t ht => by omega⟩
  case round =>
    obtain ⟨k, hk, rfl, hB, hZ, hnot⟩ := hrel
    have cw := cell_later hB.out cm
    by_cases hlt : k < L.length
    · obtain ⟨c, hc⟩ : ∃ c, L[k]? = some c := ⟨_, List.getElem?_eq_getElem hlt⟩
      obtain ⟨g, cap, hv, hca⟩ := (HD.out.below hB.out).row hc
      cases hv
      obtain ⟨q0, q1, q2, q3, q4, q5, q6, q7, q8, q9⟩ := hca
      have hkl : (k : Int) < (L.length : Int) := by omega
      have HC := Lib.hid hc
      have hz := hZ.out
      have zc := new_cells49 hz
      obtain ⟨⟨y0, y1, y2, y3, y4, y5, y6, y7, y8, y9⟩, yf⟩ := zc
      have hs : Circ.inIs n i c = ((c.ic.toList == n.toList) && (c.ii == i)) := sameP_comm n i c.ic c.ii
      clear hc hz
      cases hA : (c.ic.toList == n.toList) with
      | false =>
        have hno : Hid (Circ.inIs n i c = false) := by show _ = _; rw [hs, hA]; rfl
        clear hs
        go_wp2_with fail
        go_roundw
        case rel => exact ⟨k + 1, by omega, by go_num, hB.out, hZ.out, fun t ht x hx => by
          by_cases htk : t = k
          · subst htk; have := HC.out; rw [hx] at this; cases this; exact hno.out
          · exact hnot.out t (by omega) x hx⟩
        case measure => simp [intOf]; omega
      | true =>
        cases hBb : (c.ii == i) with
        | false =>
          have hno : Hid (Circ.inIs n i c = false) := by show _ = _; rw [hs, hA, hBb]; rfl
          clear hs
          go_wp2_with fail
          go_roundw
          case rel => exact ⟨k + 1, by omega, by go_num, hB.out, hZ.out, fun t ht x hx => by
            by_cases htk : t = k
            · subst htk; have := HC.out; rw [hx] at this; cases this; exact hno.out
            · exact hnot.out t (by omega) x hx⟩
          case measure => simp [intOf]; omega
        | true =>
          have hyes : Hid (F = some (k, c)) := by
            show _ = _
            rw [← HF.out]
            exact findC_first HC.out (by rw [hs, hA, hBb]; rfl) hnot.out
          clear hs
          go_wp2_with fail
          have hbl := set10b (c := c) hB.out (Nat.le_refl _)
          have hblk := set10t (c := c) hZ.out
          generalize ((((((((((wr.setCell ⟨w.heap.size, 0, none⟩ (.string c.ic)).setCell ⟨w.heap.size, 1, none⟩ (.int .i64 c.ii)).setCell ⟨w.heap.size, 2, none⟩ (.string c.oc)).setCell ⟨w.heap.size, 3, none⟩ (.int .i64 c.oi)).setCell ⟨w.heap.size, 4, none⟩ (.int .i64 c.ia)).setCell ⟨w.heap.size, 5, none⟩ (.int .i64 c.oa)).setCell ⟨w.heap.size, 6, none⟩ (.int .i64 c.ie)).setCell ⟨w.heap.size, 7, none⟩ (.int .i64 c.oe)).setCell ⟨w.heap.size, 8, none⟩ (.string c.hash)).setCell ⟨w.heap.size, 9, none⟩ (.string c.sh)) = W' at hbl hblk ⊢
          obtain ⟨t0, t1, t2, t3, t4, t5, t6, t7, t8, t9⟩ := ten_t hblk
          refine bodyPost_ret (v := .tuple #[.agg #[.string c.ic, .int .i64 c.ii, .string c.oc, .int .i64 c.oi, .int .i64 c.ia, .int .i64 c.oa, .int .i64 c.ie, .int .i64 c.oe, .string c.hash, .string c.sh], .bool true]) (by simp [results, Try.results16, go_sem, *]) rfl ?_
          rw [hyes.out]
          exact ⟨rfl, hbl⟩
    · obtain rfl : k = L.length := by omega
      have hno : Hid (F = none) := by
        show _ = _
        rw [← HF.out]
        exact findC_absent' _ _ fun t x hx => hnot.out t (List.getElem?_eq_some_iff.1 hx).1 x hx
      have hz := hZ.out
      have zc := new_cells49 hz
      obtain ⟨⟨y0, y1, y2, y3, y4, y5, y6, y7, y8, y9⟩, yf⟩ := zc
      clear hz
      go_wp2_with fail
      have hbl := set10b (c := Circ.zero) hB.out (Nat.le_refl _)
      have hblk := set10t (c := Circ.zero) hZ.out
      simp only [Circ.zero] at hbl hblk
      generalize ((((((((((wr.setCell ⟨w.heap.size, 0, none⟩ (.string ⟨#[]⟩)).setCell ⟨w.heap.size, 1, none⟩ (.int .i64 0)).setCell ⟨w.heap.size, 2, none⟩ (.string ⟨#[]⟩)).setCell ⟨w.heap.size, 3, none⟩ (.int .i64 0)).setCell ⟨w.heap.size, 4, none⟩ (.int .i64 0)).setCell ⟨w.heap.size, 5, none⟩ (.int .i64 0)).setCell ⟨w.heap.size, 6, none⟩ (.int .i64 0)).setCell ⟨w.heap.size, 7, none⟩ (.int .i64 0)).setCell ⟨w.heap.size, 8, none⟩ (.string ⟨#[]⟩)).setCell ⟨w.heap.size, 9, none⟩ (.string ⟨#[]⟩)) = W' at hbl hblk ⊢
      obtain ⟨t0, t1, t2, t3, t4, t5, t6, t7, t8, t9⟩ := ten_t hblk
      refine bodyPost_ret (v := .tuple #[.agg #[.string ⟨#[]⟩, .int .i64 0, .string ⟨#[]⟩, .int .i64 0, .int .i64 0, .int .i64 0, .int .i64 0, .int .i64 0, .string ⟨#[]⟩, .string ⟨#[]⟩], .bool false]) (by simp [results, Try.results16, go_sem, *]) rfl ?_
      rw [hno.out]
      exact ⟨rfl, hbl⟩
set_option maxRecDepth 100000 in
set_option maxHeartbeats 2000000 in
theorem docout_any (mb base : Nat) (v : Value) (L : List Circ) (w : World) (h : DocAt w base mb v L) (hm : L.length ≤ 256) (n : ByteArray) (i : Int) : Calls Try.prog 19 #[.pointer (some ⟨mb, 0, none⟩), .string n, .int .i64 i] w (TellPost (findC (Circ.outIs n i) L 0) w) := by
  obtain ⟨va, vc, rfl⟩ := own_slice h.own
  have HD := Lib.hid h
  have cm : w.cell? ⟨mb, 0, none⟩ = some (.slice va L.length vc) := by simp [World.cell?, h.mbk]
  have hmb : mb < w.heap.size := lt_of_heap h.mbk
  obtain ⟨F, hF⟩ : ∃ F, findC (Circ.outIs n i) L 0 = F := ⟨_, rfl⟩
  have HF := Lib.hid hF
  rw [hF]
  clear h hF
  go_enter Try.func19, Try.ntmps19
  go_wp2
  have cm1 := cell_later (below_new' w (.cells #[.string ⟨#[]⟩, .int .i64 0, .string ⟨#[]⟩, .int .i64 0, .int .i64 0, .int .i64 0, .int .i64 0, .int .i64 0, .string ⟨#[]⟩, .string ⟨#[]⟩] 49)) cm
  go_loopw [8] (fun iv wr => ∃ k : Nat, k ≤ L.length ∧ iv = .int .i64 k ∧ Hid (Below w.heap.size w wr) ∧ Hid (wr.heap[w.heap.size]? = some (.cells #[.string ⟨#[]⟩, .int .i64 0, .string ⟨#[]⟩, .int .i64 0, .int .i64 0, .int .i64 0, .int .i64 0, .int .i64 0, .string ⟨#[]⟩, .string ⟨#[]⟩] 49 (0, 0))) ∧ Hid (∀ t, t < k → ∀ x, L[t]? = some x → Circ.outIs n i x = false)) (fun iv _ => L.length - (intOf iv).toNat)
  case atStart => exact ⟨0, Nat.zero_le _, rfl, below_new' w _, heap_alloc_at w _, fun t ht => by omega⟩
  case round =>
    obtain ⟨k, hk, rfl, hB, hZ, hnot⟩ := hrel
    have cw := cell_later hB.out cm
    by_cases hlt : k < L.length
    · obtain ⟨c, hc⟩ : ∃ c, L[k]? = some c := ⟨_, List.getElem?_eq_getElem hlt⟩
      obtain ⟨g, cap, hv, hca⟩ := (HD.out.below hB.out).row hc
      cases hv
      obtain ⟨q0, q1, q2, q3, q4, q5, q6, q7, q8, q9⟩ := hca
      have hkl : (k : Int) < (L.length : Int) := by omega
      have HC := Lib.hid hc
      have hz := hZ.out
      have zc := new_cells49 hz
      obtain ⟨⟨y0, y1, y2, y3, y4, y5, y6, y7, y8, y9⟩, yf⟩ := zc
      have hs : Circ.outIs n i c = ((c.oc.toList == n.toList) && (c.oi == i)) := sameP_comm n i c.oc c.oi
      clear hc hz
      cases hA : (c.oc.toList == n.toList) with
      | false =>
        have hno : Hid (Circ.outIs n i c = false) := by show _ = _; rw [hs, hA]; rfl
        clear hs
        go_wp2_with fail
        go_roundw
        case rel => exact ⟨k + 1, by omega, by go_num, hB.out, hZ.out, fun t ht x hx => by
          by_cases htk : t = k
          · subst htk; have := HC.out; rw [hx] at this; cases this; exact hno.out
          · exact hnot.out t (by omega) x hx⟩
        case measure => simp [intOf]; omega
      | true =>
        cases hBb : (c.oi == i) with
        | false =>
          have hno : Hid (Circ.outIs n i c = false) := by show _ = _; rw [hs, hA, hBb]; rfl
          clear hs
          go_wp2_with fail
          go_roundw
          case rel => exact ⟨k + 1, by omega, by go_num, hB.out, hZ.out, fun t ht x hx => by
            by_cases htk : t = k
            · subst htk; have := HC.out; rw [hx] at this; cases this; exact hno.out
            · exact hnot.out t (by omega) x hx⟩
          case measure => simp [intOf]; omega
        | true =>
          have hyes : Hid (F = some (k, c)) := by
            show _ = _
            rw [← HF.out]
            exact findC_first HC.out (by rw [hs, hA, hBb]; rfl) hnot.out
          clear hs
          go_wp2_with fail
          have hbl := set10b (c := c) hB.out (Nat.le_refl _)
          have hblk := set10t (c := c) hZ.out
          generalize ((((((((((wr.setCell ⟨w.heap.size, 0, none⟩ (.string c.ic)).setCell ⟨w.heap.size, 1, none⟩ (.int .i64 c.ii)).setCell ⟨w.heap.size, 2, none⟩ (.string c.oc)).setCell ⟨w.heap.size, 3, none⟩ (.int .i64 c.oi)).setCell ⟨w.heap.size, 4, none⟩ (.int .i64 c.ia)).setCell ⟨w.heap.size, 5, none⟩ (.int .i64 c.oa)).setCell ⟨w.heap.size, 6, none⟩ (.int .i64 c.ie)).setCell ⟨w.heap.size, 7, none⟩ (.int .i64 c.oe)).setCell ⟨w.heap.size, 8, none⟩ (.string c.hash)).setCell ⟨w.heap.size, 9, none⟩ (.string c.sh)) = W' at hbl hblk ⊢
          obtain ⟨t0, t1, t2, t3, t4, t5, t6, t7, t8, t9⟩ := ten_t hblk
          refine bodyPost_ret (v := .tuple #[.agg #[.string c.ic, .int .i64 c.ii, .string c.oc, .int .i64 c.oi, .int .i64 c.ia, .int .i64 c.oa, .int .i64 c.ie, .int .i64 c.oe, .string c.hash, .string c.sh], .bool true]) (by simp [results, Try.results19, go_sem, *]) rfl ?_
          rw [hyes.out]
          exact ⟨rfl, hbl⟩
    · obtain rfl : k = L.length := by omega
      have hno : Hid (F = none) := by
        show _ = _
        rw [← HF.out]
        exact findC_absent' _ _ fun t x hx => hnot.out t (List.getElem?_eq_some_iff.1 hx).1 x hx
      have hz := hZ.out
      have zc := new_cells49 hz
      obtain ⟨⟨y0, y1, y2, y3, y4, y5, y6, y7, y8, y9⟩, yf⟩ := zc
      clear hz
      go_wp2_with fail
      have hbl := set10b (c := Circ.zero) hB.out (Nat.le_refl _)
      have hblk := set10t (c := Circ.zero) hZ.out
      simp only [Circ.zero] at hbl hblk
      generalize ((((((((((wr.setCell ⟨w.heap.size, 0, none⟩ (.string ⟨#[]⟩)).setCell ⟨w.heap.size, 1, none⟩ (.int .i64 0)).setCell ⟨w.heap.size, 2, none⟩ (.string ⟨#[]⟩)).setCell ⟨w.heap.size, 3, none⟩ (.int .i64 0)).setCell ⟨w.heap.size, 4, none⟩ (.int .i64 0)).setCell ⟨w.heap.size, 5, none⟩ (.int .i64 0)).setCell ⟨w.heap.size, 6, none⟩ (.int .i64 0)).setCell ⟨w.heap.size, 7, none⟩ (.int .i64 0)).setCell ⟨w.heap.size, 8, none⟩ (.string ⟨#[]⟩)).setCell ⟨w.heap.size, 9, none⟩ (.string ⟨#[]⟩)) = W' at hbl hblk ⊢
      obtain ⟨t0, t1, t2, t3, t4, t5, t6, t7, t8, t9⟩ := ten_t hblk
      refine bodyPost_ret (v := .tuple #[.agg #[.string ⟨#[]⟩, .int .i64 0, .string ⟨#[]⟩, .int .i64 0, .int .i64 0, .int .i64 0, .int .i64 0, .int .i64 0, .string ⟨#[]⟩, .string ⟨#[]⟩], .bool false]) (by simp [results, Try.results19, go_sem, *]) rfl ?_
      rw [hno.out]
      exact ⟨rfl, hbl⟩
end Go.Proofs.Ytjdbnaedlljfhaa
