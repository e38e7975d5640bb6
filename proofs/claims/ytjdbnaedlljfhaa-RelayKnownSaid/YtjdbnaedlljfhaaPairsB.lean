/- RelayPairs: what the third loop keeps. -/
import Derived.Test.YtjdbnaedlljfhaaPairsA
namespace Go.Proofs.Ytjdbnaedlljfhaa
open Go.RowKit

/-- rows of circuits stay, and all below base -/
structure K44 (base : Nat) (a w : World) : Prop where
  low : Below base a w
  size : a.heap.size ≤ w.heap.size
  rows : ∀ (g : Nat) (cur : Array Value), a.heap[g]? = some (.cells cur 44 (0, 0)) → w.heap[g]? = some (.cells cur 44 (0, 0))
theorem K44.refl (base : Nat) (a : World) : K44 base a a := ⟨Below.refl _ _, Nat.le_refl _, fun _ _ h => h⟩
theorem K44.of {base : Nat} {a w : World} (hb : base ≤ a.heap.size) (h : Below a.heap.size a w) : K44 base a w := ⟨h.mono hb, h.size, fun g _ hg => (h.block g (lt_of_heap hg)).trans hg⟩
theorem K44.trans {base : Nat} {a b c : World} (h : K44 base a b) (k : K44 base b c) : K44 base a c := ⟨h.low.trans k.low, Nat.le_trans h.size k.size, fun g cur hg => k.rows g cur (h.rows g cur hg)⟩
theorem K44.alloc {base : Nat} {a w : World} (hb : base ≤ a.heap.size) (h : K44 base a w) (o : Obj) : K44 base a (w.alloc o) := h.trans (K44.of (Nat.le_trans hb h.size) (below_new' w o))
theorem K44.drew {base : Nat} {a w : World} (h : K44 base a w) : K44 base a w.drew := ⟨h.low.drew, h.size, h.rows⟩
theorem K44.setCell {base : Nat} {a w : World} (hb : base ≤ a.heap.size) (h : K44 base a w) {p : Addr} (hp : a.heap.size ≤ p.block) (v : Value) : K44 base a (w.setCell p v) :=
  ⟨h.low.setCell (Nat.le_trans hb hp) v, by simp only [World.size_setCell]; exact h.size, fun g cur hg => (Below.heap_setCell w p v g (fun e => by have := lt_of_heap hg; omega)).trans (h.rows g cur hg)⟩
theorem K44.turn {base rb mi mo : Nat} {v x : Value} {M M' : List Circ} {W w6 : World} {e : Ending} (hR : RelAt W base rb mi mo v M) (ht : TurnPost W base rb mi mo v M' x e w6) : e = .returned x ∧ (∃ v', RelAt w6 base rb mi mo v' M') ∧ K44 base W w6 := by
  obtain ⟨h1, h2, h3, h4⟩ := turn_below hR ht
  exact ⟨h1, h2, h3, (by obtain ⟨_, _, _, _, hf⟩ := ht; exact hf.size), fun g cur hg => (h4 g cur 44 (0, 0) (by decide) (by decide) hg).trans hg⟩
theorem K44.circ {base g o : Nat} {a w : World} {c : Circ} {cur : Array Value} (h : K44 base a w) (hg : a.heap[g]? = some (.cells cur 44 (0, 0))) (hc : CircAt a g o c) : CircAt w g o c := hc.block ((h.rows g cur hg).trans hg.symm)
theorem K44.lat {base : Nat} {a w : World} {la : Option Addr} {L : List Circ} (h : K44 base a w) (hl : LAt a la L) : LAt w la L := hl.keep fun g cur hg => (h.rows g cur hg).trans hg.symm
theorem keepK2 {base : Nat} {a W : World} {g o : Nat} {c : Circ} {cur : Array Value} (h : K44 base a W) (hg : a.heap[g]? = some (.cells cur 44 (0, 0))) (hc : CircAt a g o c) : K44 base a W ∧ W.cell? ⟨g, o + 2, none⟩ = some (.string c.oc) ∧ W.cell? ⟨g, o + 3, none⟩ = some (.int .i64 c.oi) :=
  ⟨h, (h.circ hg hc).q2, (h.circ hg hc).q3⟩
theorem rot_erase {L : List Circ} {i : Nat} {c : Circ} (hc : L[i]? = some c) : (L.drop i ++ L.take i).eraseIdx 0 = L.drop (i + 1) ++ L.take i ∧ (L.drop i ++ L.take i)[0]? = some c ∧ L.drop (i + 1) ++ L.take i ++ [c] = L.drop (i + 1) ++ L.take (i + 1) := by
  have hk := (List.getElem?_eq_some_iff.1 hc).1
  have he : L[i] = c := by rw [List.getElem?_eq_getElem hk] at hc; exact Option.some.inj hc
  rw [List.drop_eq_getElem_cons hk, he]
  refine ⟨rfl, rfl, ?_⟩
  rw [List.take_succ_eq_append_getElem hk, he, List.append_assoc]
theorem findC_absent {p : Circ → Bool} : ∀ (L : List Circ) (i : Nat), (∀ (t : Nat) (x : Circ), L[t]? = some x → p x = false) → findC p L i = none
  | [], _, _ => rfl
  | c :: L, i, h => by
    unfold findC
    rw [if_neg (by rw [h 0 c rfl]; decide)]
    exact findC_absent L (i + 1) fun t x hx => h (t + 1) x (by simpa using hx)
theorem rest_none {M : List Circ} {c : Circ} (hu : Uniq M) (hc : M[0]? = some c) : findC (Circ.inIs c.ic c.ii) (M.eraseIdx 0) 0 = none ∧ findC (Circ.outIs c.oc c.oi) (M.eraseIdx 0) 0 = none := by
  have at_ : ∀ (t : Nat) (x : Circ), (M.eraseIdx 0)[t]? = some x → M[t + 1]? = some x := fun t x hx => by
    rw [List.getElem?_eraseIdx] at hx
    simpa using hx
  constructor
  · refine findC_absent _ _ fun t x hx => ?_
    cases hp : Circ.inIs c.ic c.ii x with
    | false => rfl
    | true => exact absurd (hu (t + 1) 0 x c (at_ t x hx) hc (.inl (by
        have : Circ.inIs c.ic c.ii x = Circ.inIs x.ic x.ii c := sameP_comm _ _ _ _
        first | (rw [← this]; exact hp) | (rw [this] at hp; exact hp) | exact hp))) (by omega)
  · refine findC_absent _ _ fun t x hx => ?_
    cases hp : Circ.outIs c.oc c.oi x with
    | false => rfl
    | true => exact absurd (hu (t + 1) 0 x c (at_ t x hx) hc (.inr (by
        have : Circ.outIs c.oc c.oi x = Circ.outIs x.oc x.oi c := sameP_comm _ _ _ _
        first | (rw [← this]; exact hp) | (rw [this] at hp; exact hp) | exact hp))) (by omega)
theorem set10_K44 {base : Nat} {w W : World} {b : Nat} {c : Circ} (hb0 : base ≤ w.heap.size) (h : K44 base w W) (hb : w.heap.size ≤ b) : K44 base w ((((((((((W.setCell ⟨b, 0, none⟩ (.string c.ic)).setCell ⟨b, 1, none⟩ (.int .i64 c.ii)).setCell ⟨b, 2, none⟩ (.string c.oc)).setCell ⟨b, 3, none⟩ (.int .i64 c.oi)).setCell ⟨b, 4, none⟩ (.int .i64 c.ia)).setCell ⟨b, 5, none⟩ (.int .i64 c.oa)).setCell ⟨b, 6, none⟩ (.int .i64 c.ie)).setCell ⟨b, 7, none⟩ (.int .i64 c.oe)).setCell ⟨b, 8, none⟩ (.string c.hash)).setCell ⟨b, 9, none⟩ (.string c.sh)) := by
  have h0 := (h).setCell hb0 (p := ⟨b, 0, none⟩) hb (.string c.ic)
  have h1 := (h0).setCell hb0 (p := ⟨b, 1, none⟩) hb (.int .i64 c.ii)
  have h2 := (h1).setCell hb0 (p := ⟨b, 2, none⟩) hb (.string c.oc)
  have h3 := (h2).setCell hb0 (p := ⟨b, 3, none⟩) hb (.int .i64 c.oi)
  have h4 := (h3).setCell hb0 (p := ⟨b, 4, none⟩) hb (.int .i64 c.ia)
  have h5 := (h4).setCell hb0 (p := ⟨b, 5, none⟩) hb (.int .i64 c.oa)
  have h6 := (h5).setCell hb0 (p := ⟨b, 6, none⟩) hb (.int .i64 c.ie)
  have h7 := (h6).setCell hb0 (p := ⟨b, 7, none⟩) hb (.int .i64 c.oe)
  have h8 := (h7).setCell hb0 (p := ⟨b, 8, none⟩) hb (.string c.hash)
  have h9 := (h8).setCell hb0 (p := ⟨b, 9, none⟩) hb (.string c.sh)
  exact h9
theorem not_rel {w : World} {base rb mi mo : Nat} {v : Value} {L : List Circ} (h : RelAt w base rb mi mo v L) {g : Nat} {cur : Array Value} (hg : w.heap[g]? = some (.cells cur 44 (0, 0))) : ¬ RelS rb mi mo v g := by
  rintro (e | e | e | e)
  · rw [e, h.rbk] at hg; injection hg with hg; injection hg with _ hg; revert hg; decide
  · obtain ⟨es, c, e1, _⟩ := h.mik; rw [e, e1] at hg; injection hg with hg; cases hg
  · obtain ⟨es, c, e1, _⟩ := h.mok; rw [e, e1] at hg; injection hg with hg; cases hg
  · rcases h.own.2 with ⟨hv, _⟩ | ⟨g', cap, cur', hv, _, hh, _⟩
    · rw [hv] at e; cases e
    · rw [hv] at e
      simp only [Value.ownBlock, Option.some.injEq] at e
      rw [e] at hh; rw [hh] at hg; injection hg with hg; injection hg with _ hg; revert hg; decide
theorem set10_rel {W : World} {base rb mi mo b : Nat} {v : Value} {L : List Circ} {c : Circ} {cur : Array Value} (h : RelAt W base rb mi mo v L) (hb : W.heap[b]? = some (.cells cur 44 (0, 0))) : RelAt ((((((((((W.setCell ⟨b, 0, none⟩ (.string c.ic)).setCell ⟨b, 1, none⟩ (.int .i64 c.ii)).setCell ⟨b, 2, none⟩ (.string c.oc)).setCell ⟨b, 3, none⟩ (.int .i64 c.oi)).setCell ⟨b, 4, none⟩ (.int .i64 c.ia)).setCell ⟨b, 5, none⟩ (.int .i64 c.oa)).setCell ⟨b, 6, none⟩ (.int .i64 c.ie)).setCell ⟨b, 7, none⟩ (.int .i64 c.oe)).setCell ⟨b, 8, none⟩ (.string c.hash)).setCell ⟨b, 9, none⟩ (.string c.sh)) base rb mi mo v L := by
  have f : Fr (fun k => k = b) W W := Fr.refl _ _
  have f0 := (f).set ⟨b, 0, none⟩ (.string c.ic) (fun _ => rfl)
  have f1 := (f0).set ⟨b, 1, none⟩ (.int .i64 c.ii) (fun _ => rfl)
  have f2 := (f1).set ⟨b, 2, none⟩ (.string c.oc) (fun _ => rfl)
  have f3 := (f2).set ⟨b, 3, none⟩ (.int .i64 c.oi) (fun _ => rfl)
  have f4 := (f3).set ⟨b, 4, none⟩ (.int .i64 c.ia) (fun _ => rfl)
  have f5 := (f4).set ⟨b, 5, none⟩ (.int .i64 c.oa) (fun _ => rfl)
  have f6 := (f5).set ⟨b, 6, none⟩ (.int .i64 c.ie) (fun _ => rfl)
  have f7 := (f6).set ⟨b, 7, none⟩ (.int .i64 c.oe) (fun _ => rfl)
  have f8 := (f7).set ⟨b, 8, none⟩ (.string c.hash) (fun _ => rfl)
  have f9 := (f8).set ⟨b, 9, none⟩ (.string c.sh) (fun _ => rfl)
  exact h.fr f9 (fun k hk e => not_rel h hb (e ▸ hk))
theorem alloc_drew_at (w : World) (o : Obj) : ((w.alloc o).drew).heap[w.heap.size]? = some o := heap_alloc_at w o
theorem new_cells {w : World} {b : Nat} (h : w.heap[b]? = some (.cells #[.string ⟨#[]⟩, .int .i64 0, .string ⟨#[]⟩, .int .i64 0, .int .i64 0, .int .i64 0, .int .i64 0, .int .i64 0, .string ⟨#[]⟩, .string ⟨#[]⟩] 44 (0, 0))) :
    (w.cell? ⟨b, 0, none⟩ = some (.string ⟨#[]⟩) ∧ w.cell? ⟨b, 1, none⟩ = some (.int .i64 0) ∧ w.cell? ⟨b, 2, none⟩ = some (.string ⟨#[]⟩) ∧ w.cell? ⟨b, 3, none⟩ = some (.int .i64 0) ∧ w.cell? ⟨b, 4, none⟩ = some (.int .i64 0) ∧ w.cell? ⟨b, 5, none⟩ = some (.int .i64 0) ∧ w.cell? ⟨b, 6, none⟩ = some (.int .i64 0) ∧ w.cell? ⟨b, 7, none⟩ = some (.int .i64 0) ∧ w.cell? ⟨b, 8, none⟩ = some (.string ⟨#[]⟩) ∧ w.cell? ⟨b, 9, none⟩ = some (.string ⟨#[]⟩)) ∧ ∀ j, w.frozen? ⟨b, j, none⟩ = false :=
  ⟨by simp [World.cell?, h], fun j => frozen_of_row w b j _ 44 h⟩
theorem keepK20 {base : Nat} {a W : World} {g k o : Nat} {c : Circ} {cur : Array Value} (h : K44 base a W) (hk : a.heap[k]? = some (.cells c.cells.toArray 44 (0, 0))) (hg : a.heap[g]? = some (.cells cur 44 (0, 0))) (hc : CircAt a g o c) : K44 base a W ∧ W.cell? ⟨k, 0, none⟩ = some (.string c.ic) ∧ W.cell? ⟨k, 1, none⟩ = some (.int .i64 c.ii) ∧ W.cell? ⟨k, 2, none⟩ = some (.string c.oc) ∧ W.cell? ⟨k, 3, none⟩ = some (.int .i64 c.oi) ∧ W.cell? ⟨k, 4, none⟩ = some (.int .i64 c.ia) ∧ W.cell? ⟨k, 5, none⟩ = some (.int .i64 c.oa) ∧ W.cell? ⟨k, 6, none⟩ = some (.int .i64 c.ie) ∧ W.cell? ⟨k, 7, none⟩ = some (.int .i64 c.oe) ∧ W.cell? ⟨k, 8, none⟩ = some (.string c.hash) ∧ W.cell? ⟨k, 9, none⟩ = some (.string c.sh) ∧ W.cell? ⟨g, o, none⟩ = some (.string c.ic) ∧ W.cell? ⟨g, o + 1, none⟩ = some (.int .i64 c.ii) ∧ W.cell? ⟨g, o + 2, none⟩ = some (.string c.oc) ∧ W.cell? ⟨g, o + 3, none⟩ = some (.int .i64 c.oi) ∧ W.cell? ⟨g, o + 4, none⟩ = some (.int .i64 c.ia) ∧ W.cell? ⟨g, o + 5, none⟩ = some (.int .i64 c.oa) ∧ W.cell? ⟨g, o + 6, none⟩ = some (.int .i64 c.ie) ∧ W.cell? ⟨g, o + 7, none⟩ = some (.int .i64 c.oe) ∧ W.cell? ⟨g, o + 8, none⟩ = some (.string c.hash) ∧ W.cell? ⟨g, o + 9, none⟩ = some (.string c.sh) := by
  obtain ⟨a0, a1, a2, a3, a4, a5, a6, a7, a8, a9⟩ := ten_cells _ _ _ _ _ _ _ _ _ _ (h.rows k _ hk)
  obtain ⟨b0, b1, b2, b3, b4, b5, b6, b7, b8, b9⟩ := h.circ hg hc
  exact ⟨h, a0, a1, a2, a3, a4, a5, a6, a7, a8, a9, b0, b1, b2, b3, b4, b5, b6, b7, b8, b9⟩
end Go.Proofs.Ytjdbnaedlljfhaa
