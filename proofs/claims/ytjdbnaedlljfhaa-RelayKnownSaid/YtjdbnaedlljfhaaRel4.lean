/- slices.Index and slices.Delete at the relay's row of places. -/
import Derived.Test.YtjdbnaedlljfhaaRel3
import Derived.Lib.SliceRun
import Derived.Deep.RegionLaw
import Derived.Deep.Upon
import Derived.Deep.QuietTactic
import Derived.BigQuiet
namespace Go.Proofs.Ytjdbnaedlljfhaa
open Go.RowKit

theorem placeCells_at : ∀ (L : List Circ) (t : Nat) (c : Circ), L[t]? = some c → (placeCells L)[t * 2]? = some (.string c.oc) ∧ (placeCells L)[t * 2 + 1]? = some (.int .i64 c.oi)
  | [], t, c, h => by simp at h
  | x :: L, 0, c, h => by
    simp at h; subst h; exact ⟨rfl, rfl⟩
  | x :: L, t + 1, c, h => by
    have := placeCells_at L t c (by simpa using h)
    have e : placeCells (x :: L) = [.string x.oc, .int .i64 x.oi] ++ placeCells L := rfl
    rw [e]
    refine ⟨?_, ?_⟩
    · rw [List.getElem?_append_right (by simp; omega)]; simpa [show (t + 1) * 2 - 2 = t * 2 by omega] using this.1
    · rw [List.getElem?_append_right (by simp; omega)]; simpa [show (t + 1) * 2 + 1 - 2 = t * 2 + 1 by omega] using this.2
theorem placeCells_length (L : List Circ) : (placeCells L).length = L.length * 2 := by
  induction L with
  | nil => rfl
  | cons x L ih => simp [placeCells] at *; omega
/-- the row's cells -/
theorem row_cells {w : World} {base : Nat} {v : Value} {L : List Circ} (h : w.ownsRow base 84 2 v L.length (placeCells L)) (hn : 0 < L.length) : ∃ g cap cur, v = .slice (some ⟨g, 0, none⟩) L.length cap ∧ base ≤ g ∧ w.heap[g]? = some (.cells cur 84 (0, 0)) ∧ L.length ≤ cap ∧ cap ≤ maxLen ∧ cur.size = cap * 2 ∧ (∀ t, cur[t]? = (placeCells L)[t]? ∨ L.length * 2 ≤ t) := by
  rcases h.2 with ⟨_, h0⟩ | ⟨g, cap, cur, hv, hg, hh, hc, hm, hs, ht⟩
  · omega
  · refine ⟨g, cap, cur, hv, hg, hh, hc, hm, hs, fun t => ?_⟩
    by_cases hlt : t < L.length * 2
    · left
      rw [← ht, List.getElem?_take, if_pos hlt, Array.getElem?_toList]
    · right; omega
theorem findC_some {p : Circ → Bool} : ∀ {L : List Circ} {i j : Nat} {k : Circ}, findC p L i = some (j, k) → i ≤ j ∧ L[j - i]? = some k ∧ p k = true ∧ ∀ t x, t < j - i → L[t]? = some x → p x = false
  | [], _, _, _, h => by simp [findC] at h
  | c :: r, i, j, k, h => by
    unfold findC at h
    by_cases hp : p c = true
    · rw [if_pos hp] at h
      simp at h
      obtain ⟨rfl, rfl⟩ := h
      exact ⟨Nat.le_refl _, by simp, hp, fun t x ht => by omega⟩
    · rw [if_neg hp] at h
      obtain ⟨h1, h2, h3, h4⟩ := findC_some h
      refine ⟨by omega, ?_, h3, fun t x ht hx => ?_⟩
      · rw [show j - i = (j - (i + 1)) + 1 by omega]; simpa using h2
      · cases t with
        | zero => simp at hx; subst hx; simpa using hp
        | succ t => exact h4 t x (by omega) (by simpa using hx)

set_option maxRecDepth 100000 in
set_option maxHeartbeats 2000000 in
theorem idx_any (base j : Nat) (v : Value) (L : List Circ) (w : World) (h : w.ownsRow base 84 2 v L.length (placeCells L)) (hfew : L.length ≤ 256) (n : ByteArray) (i : Int) (k : Circ) (hf : findC (Circ.outIs n i) L 0 = some (j, k)) :
    Calls Try.prog 37 #[v, .agg #[.string n, .int .i64 i]] w fun e w' => e = .returned (.int .i64 j) ∧ Below w.heap.size w w' := by
  obtain ⟨_, hj, hpk, hno⟩ := findC_some hf
  rw [Nat.sub_zero] at hj hno
  have hjl : j < L.length := (List.getElem?_eq_some_iff.1 hj).1
  obtain ⟨g, cap, cur, rfl, hg, hh, hc, hm, hs, ht⟩ := row_cells h (by omega)
  have hgs := lt_of_heap hh
  unfold maxLen at hm
  have heq : ∀ (n' : ByteArray) (i' : Int) (W : World), (binOp .eql 84 (.agg #[.string n, .int .i64 i]) (.agg #[.string n', .int .i64 i'])).run Try.prog W = .ok (.bool (sameP n i n' i')) W := by
    intro n' i' W
    have := run_equal_place W n n' i i'
    rw [run_eql_struct]
    unfold Op.equal Op.maxDepth placeV at this
    rw [this]
    rfl
  have HJ := Lib.hid hj; have HP := Lib.hid hpk; have HNO := Lib.hid hno; have HT := Lib.hid ht; have HH := Lib.hid hh; have HS := Lib.hid hs
  clear hj hpk hno ht hh hs h hf
  have hlen : (L.length : Int) ≤ 256 := by omega
  go_enter Try.func37, Try.ntmps37
  go_wp2
  go_loopw [8] (fun iv wr => ∃ t : Nat, iv = .int .i64 t ∧ t ≤ j ∧ Hid (Below w.heap.size w wr) ∧ Hid (wr.heap[w.heap.size]? = some (.cells #[.string n, .int .i64 i] 84 (0, 0)))) (fun i _ => L.length - (intOf i).toNat)
  case atStart => exact ⟨0, rfl, by omega, (Below.refl _ _).alloc (Nat.le_refl _) _, heap_alloc_at _ _⟩
  case round =>
    obtain ⟨t, rfl, htj, hB, hV⟩ := hrel
    have htl : t < L.length := by omega
    obtain ⟨x, hx⟩ : ∃ x, L[t]? = some x := ⟨_, List.getElem?_eq_getElem htl⟩
    have hcx := placeCells_at L t x hx
    have hgr : wr.heap[g]? = some (.cells cur 84 (0, 0)) := (hB.out.block g hgs).trans HH.out
    have c0 : wr.cell? ⟨w.heap.size, 0, none⟩ = some (.string n) := by rw [cell_of_row wr _ _ _ _ _ hV.out]; rfl
    have c1 : wr.cell? ⟨w.heap.size, 1, none⟩ = some (.int .i64 i) := by rw [cell_of_row wr _ _ _ _ _ hV.out]; rfl
    have e0 : wr.cell? ⟨g, t * 2, none⟩ = some (.string x.oc) := by
      rw [cell_of_row wr g _ _ _ _ hgr]
      exact ((HT.out (t * 2)).resolve_right (by omega)).trans hcx.1
    have e1 : wr.cell? ⟨g, t * 2 + 1, none⟩ = some (.int .i64 x.oi) := by
      rw [cell_of_row wr g _ _ _ _ hgr]
      exact ((HT.out (t * 2 + 1)).resolve_right (by omega)).trans hcx.2
    have i1 : (0 : Int) ≤ (t : Int) := by omega
    have i2 : (t : Int) < (L.length : Int) := by omega
    have HX := Lib.hid hx
    clear hx hcx hgr
    by_cases hlt : t < j
    · have hp : Hid (sameP n i x.oc x.oi = false) := HNO.out t x hlt HX.out
      have heq' : ∀ W : World, (binOp .eql 84 (.agg #[.string n, .int .i64 i]) (.agg #[.string x.oc, .int .i64 x.oi])).run Try.prog W = .ok (.bool false) W := fun W => by rw [heq, hp.out]
      clear heq
      go_wp2_with fail
      go_quiet (fail)
      go_wp2
      go_roundw
      case rel => exact ⟨t + 1, by go_num, by omega, ⟨hB.out.os, hB.out.tape, hB.out.output, hB.out.size, hB.out.block⟩, hV.out⟩
      case measure => simp [intOf]; omega
    · obtain rfl : t = j := by omega
      obtain rfl : x = k := by have := HX.out; rw [HJ.out] at this; cases this; rfl
      have hp : Hid (sameP n i x.oc x.oi = true) := HP.out
      have heq' : ∀ W : World, (binOp .eql 84 (.agg #[.string n, .int .i64 i]) (.agg #[.string x.oc, .int .i64 x.oi])).run Try.prog W = .ok (.bool true) W := fun W => by rw [heq, hp.out]
      clear heq
      go_wp2_with fail
      go_quiet (fail)
      go_wp2
      go_ret
      exact ⟨rfl, ⟨hB.out.os, hB.out.tape, hB.out.output, hB.out.size, hB.out.block⟩⟩
end Go.Proofs.Ytjdbnaedlljfhaa
