/- The relay and the document's, side by side. -/
import Derived.Test.YtjdbnaedlljfhaaDocG
import Derived.Test.YtjdbnaedlljfhaaPairsB
namespace Go.Proofs.Ytjdbnaedlljfhaa
open Go.RowKit
theorem docclose_sum (mb base : Nat) (v : Value) (L : List Circ) (w : World) (h : DocAt w base mb v L) (hl : L.length ≤ 256) (hu : Uniq L) (n : ByteArray) (i : Int) : Calls Try.prog 21 #[.pointer (some ⟨mb, 0, none⟩), .string n, .int .i64 i] w (DocPost w base mb v (closeN L n i).1 (.tuple #[(closeN L n i).2.1.val, .int .i64 (closeN L n i).2.2])) := by
  unfold closeN
  cases hx : findC (Circ.outIs n i) L 0 with
  | none => exact (docclose_none mb base v L w h hl n i hx).mono fun e w' ⟨he, hb⟩ => doc_same h he hb
  | some x =>
    obtain ⟨j, k⟩ := x
    have hs := findC_some hx
    have hj : L[j]? = some k := by simpa using hs.2.1
    have he : L.filter (fun x => !Circ.outIs n i x) = L.eraseIdx j := by
      refine filter_erase L (Circ.outIs n i) j k hj hs.2.2.1 fun t x ht hp => ?_
      refine hu t j x k ht hj (.inr ?_)
      have h1 := hp
      have h2 := hs.2.2.1
      unfold Circ.outIs sameP at h1 h2 ⊢
      rw [Bool.and_eq_true] at h1 h2 ⊢
      simp only [beq_iff_eq] at h1 h2 ⊢
      exact ⟨by rw [← h1.1, h2.1], by rw [← h1.2, h2.2]⟩
    have := docclose_some mb base v L w h hl n i j k hx
    rw [he] at this
    exact this
/-- the relay and the document's -/
structure Two (w : World) (base rb mi mo mb : Nat) (v u : Value) (L M : List Circ) : Prop where
  rel : RelAt w base rb mi mo v L
  doc : DocAt w base mb u M
theorem Two.below {w w' : World} {base rb mi mo mb : Nat} {v u : Value} {L M : List Circ} (h : Two w base rb mi mo mb v u L M) (hb : Below w.heap.size w w') : Two w' base rb mi mo mb v u L M := ⟨h.rel.below hb, h.doc.below hb⟩
theorem not_rel' {w : World} {base rb mi mo : Nat} {v : Value} {L : List Circ} (h : RelAt w base rb mi mo v L) {g : Nat} {cur : Array Value} {t : TypeId} (h1 : t ≠ 82) (h2 : t ≠ 84) (hg : w.heap[g]? = some (.cells cur t (0, 0))) : ¬ RelS rb mi mo v g := by
  rintro (e | e | e | e)
  · rw [e, h.rbk] at hg; injection hg with hg; injection hg with _ hg; exact h1 hg.symm
  · obtain ⟨es, c, e1, _⟩ := h.mik; rw [e, e1] at hg; injection hg with hg; cases hg
  · obtain ⟨es, c, e1, _⟩ := h.mok; rw [e, e1] at hg; injection hg with hg; cases hg
  · rcases h.own.2 with ⟨hv, _⟩ | ⟨g', cap, cur', hv, _, hh, _⟩
    · rw [hv] at e; cases e
    · rw [hv] at e
      simp only [Value.ownBlock, Option.some.injEq] at e
      rw [e] at hh; rw [hh] at hg; injection hg with hg; injection hg with _ hg; exact h2 hg.symm
theorem not_doc {w : World} {base mb : Nat} {u : Value} {M : List Circ} (h : DocAt w base mb u M) {g : Nat} {o : Obj} (hg : w.heap[g]? = some o) (hn : ∀ (cur : Array Value) (t : TypeId), o = .cells cur t (0, 0) → t ≠ 42 ∧ t ≠ 49) : ¬ DocS mb u g := by
  rintro (e | e)
  · rw [e, h.mbk] at hg; injection hg with hg; exact (hn _ _ hg.symm).1 rfl
  · rcases h.own.2 with ⟨hv, _⟩ | ⟨g', cap, cur', hv, _, hh, _⟩
    · rw [hv] at e; cases e
    · rw [hv] at e
      simp only [Value.ownBlock, Option.some.injEq] at e
      rw [e] at hh; rw [hh] at hg; injection hg with hg; exact (hn _ _ hg.symm).2 rfl
theorem Two.fr {w w' : World} {base rb mi mo mb g : Nat} {v u : Value} {L M : List Circ} {cur : Array Value} (h : Two w base rb mi mo mb v u L M) (hg : w.heap[g]? = some (.cells cur 44 (0, 0))) (hf : Fr (fun k => k = g) w w') : Two w' base rb mi mo mb v u L M := by
  have hd := not_doc h.doc hg (fun cur t e => by injection e with _ e; subst e; decide)
  refine ⟨h.rel.fr hf (fun k hk e => not_rel h.rel hg (e ▸ hk)), ?_⟩
  exact h.doc.fr hf (fun e => hd (.inl e.symm)) (fun e => hd (.inr e))
theorem Two.fr49 {w w' : World} {base rb mi mo mb g : Nat} {v u : Value} {L M : List Circ} {cur : Array Value} (h : Two w base rb mi mo mb v u L M) (hg : w.heap[g]? = some (.cells cur 49 (0, 0))) (hu : u.ownBlock ≠ some g) (hf : Fr (fun k => k = g) w w') : Two w' base rb mi mo mb v u L M := by
  refine ⟨h.rel.fr hf (fun k hk e => not_rel' h.rel (by decide) (by decide) hg (e ▸ hk)), ?_⟩
  refine h.doc.fr hf (fun e => ?_) hu
  have := h.doc.mbk; rw [e, hg] at this; injection this with this; injection this with _ this; revert this; decide
theorem two_turn {W w' : World} {base rb mi mo mb : Nat} {v u x : Value} {L L' M : List Circ} {e : Ending} (h : Two W base rb mi mo mb v u L M) (ht : TurnPost W base rb mi mo v L' x e w') : e = .returned x ∧ (∃ v', Two w' base rb mi mo mb v' u L' M) ∧ K44 base W w' := by
  obtain ⟨h1, ⟨v', h2⟩, h3⟩ := K44.turn h.rel ht
  obtain ⟨_, _, _, _, hf⟩ := ht
  refine ⟨h1, ⟨v', h2, (hf.block mb (lt_of_heap h.doc.mbk) (not_rel' h.rel (by decide) (by decide) h.doc.mbk)).trans h.doc.mbk, ?_, h.doc.h1⟩, h3⟩
  refine ownsRow_blocks h.doc.own (fun g hg => ?_) hf.size
  rcases h.doc.own.2 with ⟨hv, _⟩ | ⟨g', cap, cur', hv, _, hh, _⟩
  · rw [hv] at hg; cases hg
  · rw [hv] at hg
    simp only [Value.ownBlock, Option.some.injEq] at hg
    rw [hg] at hh
    exact hf.block g (lt_of_heap hh) (not_rel' h.rel (by decide) (by decide) hh)
theorem two_doc {W w' : World} {base rb mi mo mb : Nat} {v u x : Value} {L M M' : List Circ} {e : Ending} (h : Two W base rb mi mo mb v u L M) (ht : DocPost W base mb u M' x e w') : e = .returned x ∧ (∃ u', Two w' base rb mi mo mb v u' L M' ∧ ∀ g, u'.ownBlock = some g → u.ownBlock = some g ∨ W.heap.size ≤ g) ∧ K44 base W w' ∧ Fr (DocS mb u) W w' := by
  obtain ⟨u', h1, h2, hnew, hf⟩ := ht
  refine ⟨h1, ⟨u', ⟨h.rel.fr hf fun k hk hd => ?_, h2⟩, hnew⟩, ?_, hf⟩
  · rcases hd with e | e
    · exact not_rel' h.rel (by decide) (by decide) h.doc.mbk (e ▸ hk)
    · rcases h.doc.own.2 with ⟨hv, _⟩ | ⟨g', cap, cur', hv, _, hh, _⟩
      · rw [hv] at e; cases e
      · rw [hv] at e
        simp only [Value.ownBlock, Option.some.injEq] at e
        rw [e] at hh
        exact not_rel' h.rel (by decide) (by decide) hh hk
  · refine ⟨hf.toBelow (fun k hk => ?_) ?_, hf.size, fun g cur hg => (hf.block g (lt_of_heap hg) (not_doc h.doc hg (fun cur t e => by injection e with _ e; subst e; decide))).trans hg⟩
    · rcases hk with e | e
      · rw [e]; exact h.doc.h1
      · exact (h.doc.own.lt k e).1
    · have := lt_of_heap h.doc.mbk; have := h.doc.h1; omega
theorem keepK10 {base : Nat} {a W : World} {k : Nat} {c : Circ} (h : K44 base a W) (hk : a.heap[k]? = some (.cells c.cells.toArray 44 (0, 0))) : K44 base a W ∧ W.cell? ⟨k, 0, none⟩ = some (.string c.ic) ∧ W.cell? ⟨k, 1, none⟩ = some (.int .i64 c.ii) ∧ W.cell? ⟨k, 2, none⟩ = some (.string c.oc) ∧ W.cell? ⟨k, 3, none⟩ = some (.int .i64 c.oi) ∧ W.cell? ⟨k, 4, none⟩ = some (.int .i64 c.ia) ∧ W.cell? ⟨k, 5, none⟩ = some (.int .i64 c.oa) ∧ W.cell? ⟨k, 6, none⟩ = some (.int .i64 c.ie) ∧ W.cell? ⟨k, 7, none⟩ = some (.int .i64 c.oe) ∧ W.cell? ⟨k, 8, none⟩ = some (.string c.hash) ∧ W.cell? ⟨k, 9, none⟩ = some (.string c.sh) :=
  ⟨h, ten_cells _ _ _ _ _ _ _ _ _ _ (h.rows k _ hk)⟩
/-- what In, Out tell, as variables -/
theorem tell_parts (F : Option (Nat × Circ)) : ∃ (d : Circ) (b : Bool), ∀ (w : World) (e : Ending) (w' : World), TellPost F w e w' → e = .returned (.tuple #[.agg #[.string d.ic, .int .i64 d.ii, .string d.oc, .int .i64 d.oi, .int .i64 d.ia, .int .i64 d.oa, .int .i64 d.ie, .int .i64 d.oe, .string d.hash, .string d.sh], .bool b]) ∧ Below w.heap.size w w' := by
  cases F with
  | none => exact ⟨Circ.zero, false, fun w e w' h => h⟩
  | some x => exact ⟨x.2, true, fun w e w' h => h⟩
theorem run_equal_circ49 (w : World) (c : Circ) : (Op.equal 49 c.val c.val).run Try.prog w = .ok true w := by
  have hf : (Try.prog.fieldsOf 49).toList.map (fun f => (f.name, f.type, f.offset)) = [("InChan", 9, 0), ("InID", 2, 1), ("OutChan", 9, 2), ("OutID", 2, 3), ("InAmount", 2, 4), ("OutAmount", 2, 5), ("InExpiry", 3, 6), ("OutExpiry", 3, 7), ("Hash", 22, 8), ("Shared", 22, 9)] := by kernel_rfl
  have key : ∀ (l : List Field), l.map (fun f => (f.name, f.type, f.offset)) = [("InChan", 9, 0), ("InID", 2, 1), ("OutChan", 9, 2), ("OutID", 2, 3), ("InAmount", 2, 4), ("OutAmount", 2, 5), ("InExpiry", 3, 6), ("OutExpiry", 3, 7), ("Hash", 22, 8), ("Shared", 22, 9)] →
      (Op.eqFields 9999 #[.string c.ic, .int .i64 c.ii, .string c.oc, .int .i64 c.oi, .int .i64 c.ia, .int .i64 c.oa, .int .i64 c.ie, .int .i64 c.oe, .string c.hash, .string c.sh] #[.string c.ic, .int .i64 c.ii, .string c.oc, .int .i64 c.oi, .int .i64 c.ia, .int .i64 c.oa, .int .i64 c.ie, .int .i64 c.oe, .string c.hash, .string c.sh] l).run Try.prog w = .ok true w := by
    intro l hl
    have hlen : l.length = 10 := by have := congrArg List.length hl; simpa using this
    match l, hlen, hl with
    | [f0, f1, f2, f3, f4, f5, f6, f7, f8, f9], _, hl =>
      simp only [List.map_cons, List.map_nil, List.cons.injEq, Prod.mk.injEq, and_true] at hl
      obtain ⟨⟨n0, t0, o0⟩, ⟨n1, t1, o1⟩, ⟨n2, t2, o2⟩, ⟨n3, t3, o3⟩, ⟨n4, t4, o4⟩, ⟨n5, t5, o5⟩, ⟨n6, t6, o6⟩, ⟨n7, t7, o7⟩, ⟨n8, t8, o8⟩, ⟨n9, t9, o9⟩⟩ := hl
      obtain ⟨p0, p1, p2, p3, p4, p5, p6, p7, p8, p9⟩ := run_part_circ (.string c.ic) (.int .i64 c.ii) (.string c.oc) (.int .i64 c.oi) (.int .i64 c.ia) (.int .i64 c.oa) (.int .i64 c.ie) (.int .i64 c.oe) (.string c.hash) (.string c.sh) w
      simp only [Op.eqFields, n0, n1, n2, n3, n4, n5, n6, n7, n8, n9, t0, t1, t2, t3, t4, t5, t6, t7, t8, t9, o0, o1, o2, o3, o4, o5, o6, o7, o8, o9]
      simp only [Sem.run_bind, Sem.run_ite, p0, p1, p2, p3, p4, p5, p6, p7, p8, p9, Result.andThen_ok, run_equalIn_string w _ 9 c.ic c.ic Try.underlying9, run_equalIn_string w _ 9 c.oc c.oc Try.underlying9, run_equalIn_string w _ 22 c.hash c.hash Try.underlying22, run_equalIn_string w _ 22 c.sh c.sh Try.underlying22, run_equalIn_int w _ 2 .i64 .i64 _ _ Try.underlying2, run_equalIn_int w _ 3 .i64 .i64 _ _ Try.underlying3, Sem.run_pure]
      simp
  unfold Op.equal Op.maxDepth Circ.val
  rw [run_equalIn_agg w 9999 49 _ _ (by kernel_rfl) (by kernel_rfl)]
  exact key _ hf
theorem run_neq_circ49 (w : World) (c : Circ) : (binOp .neq 49 (.agg #[.string c.ic, .int .i64 c.ii, .string c.oc, .int .i64 c.oi, .int .i64 c.ia, .int .i64 c.oa, .int .i64 c.ie, .int .i64 c.oe, .string c.hash, .string c.sh]) (.agg #[.string c.ic, .int .i64 c.ii, .string c.oc, .int .i64 c.oi, .int .i64 c.ia, .int .i64 c.oa, .int .i64 c.ie, .int .i64 c.oe, .string c.hash, .string c.sh])).run Try.prog w = .ok (.bool false) w := by
  have h := run_equal_circ49 w c
  unfold Circ.val at h
  simp [binOp, h]
/-- the told list from place k on -/
def LFrom (w : World) (B : Nat) (a : Option Addr) (L : List Circ) (k : Nat) : Prop := L = [] ∨ ∃ (g : Nat) (cur : Array Value), a = some ⟨g, 0, none⟩ ∧ B ≤ g ∧ w.heap[g]? = some (.cells cur 44 (0, 0)) ∧ L.length * 10 ≤ cur.size ∧ ∀ (j : Nat) (c : Circ), k ≤ j → L[j]? = some c → ∀ t, t < 10 → cur[j * 10 + t]? = c.cells[t]?
theorem LFrom.of {w : World} {base n c : Nat} {a : Option Addr} {L : List Circ} (h : w.ownsRow base 44 10 (.slice a n c) n (circCells L)) (hn : L.length = n) : LFrom w base a L 0 := by
  rcases h.2 with ⟨_, h0⟩ | ⟨g, cap, cur, hv, hg, hh, hc, _, hs, ht⟩
  · exact .inl (List.eq_nil_of_length_eq_zero (by omega))
  · cases hv
    refine .inr ⟨g, cur, rfl, hg, hh, by have := congrArg List.length ht; simp [h.1] at this; omega, fun k c _ hk j hj => ?_⟩
    have hkl := (List.getElem?_eq_some_iff.1 hk).1
    rw [← circ_at_cells L k c hk j hj, ← ht, List.getElem?_take, if_pos (by omega), Array.getElem?_toList]
theorem LFrom.below {w w' : World} {B k : Nat} {a : Option Addr} {L : List Circ} (h : LFrom w B a L k) (hb : Below w.heap.size w w') : LFrom w' B a L k := by
  rcases h with h | ⟨g, cur, ha, hB, hh, hs, hc⟩
  · exact .inl h
  · exact .inr ⟨g, cur, ha, hB, (hb.block g (lt_of_heap hh)).trans hh, hs, hc⟩
theorem LFrom.row {w : World} {B k : Nat} {a : Option Addr} {L : List Circ} (h : LFrom w B a L k) {c : Circ} (hk : L[k]? = some c) : ∃ (g : Nat) (cur : Array Value), a = some ⟨g, 0, none⟩ ∧ B ≤ g ∧ w.heap[g]? = some (.cells cur 44 (0, 0)) ∧ CircAt w g (k * 10) c := by
  have hkl := (List.getElem?_eq_some_iff.1 hk).1
  obtain ⟨g, cur, ha, hB, hh, _, hc⟩ := h.resolve_left (fun e => by rw [e] at hkl; simp at hkl)
  have hc := hc k c (Nat.le_refl _) hk
  refine ⟨g, cur, ha, hB, hh, ?_, ?_, ?_, ?_, ?_, ?_, ?_, ?_, ?_, ?_⟩
  · rw [cell_of_row _ _ _ _ _ _ hh]; exact hc 0 (by omega)
  · rw [cell_of_row _ _ _ _ _ _ hh]; exact hc 1 (by omega)
  · rw [cell_of_row _ _ _ _ _ _ hh]; exact hc 2 (by omega)
  · rw [cell_of_row _ _ _ _ _ _ hh]; exact hc 3 (by omega)
  · rw [cell_of_row _ _ _ _ _ _ hh]; exact hc 4 (by omega)
  · rw [cell_of_row _ _ _ _ _ _ hh]; exact hc 5 (by omega)
  · rw [cell_of_row _ _ _ _ _ _ hh]; exact hc 6 (by omega)
  · rw [cell_of_row _ _ _ _ _ _ hh]; exact hc 7 (by omega)
  · rw [cell_of_row _ _ _ _ _ _ hh]; exact hc 8 (by omega)
  · rw [cell_of_row _ _ _ _ _ _ hh]; exact hc 9 (by omega)
/-- the caller writes over what it was told -/
theorem LFrom.over {w : World} {B k g : Nat} {L : List Circ} (h : LFrom w B (some ⟨g, 0, none⟩) L k) (x : Value) : LFrom (w.setCell ⟨g, k * 10, none⟩ x) B (some ⟨g, 0, none⟩) L (k + 1) := by
  rcases h with h | ⟨g', cur, ha, hB, hh, hs, hc⟩
  · exact .inl h
  · cases ha
    refine .inr ⟨g, _, rfl, hB, heap_setCell_same w g (k * 10) cur 44 x hh, by simpa using hs, fun j c hj hc' t ht => ?_⟩
    rw [Array.getElem?_setIfInBounds, if_neg (by omega)]
    exact hc j c (by omega) hc' t ht
end Go.Proofs.Ytjdbnaedlljfhaa
