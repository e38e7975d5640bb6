/- The document's relay: Open, where it opens. -/
import Derived.Test.YtjdbnaedlljfhaaDocC
namespace Go.Proofs.Ytjdbnaedlljfhaa
open Go.RowKit
theorem Try.info49 : (Try.prog.info? 49).map (fun i => (i.zero, i.size, i.bytes)) = some (some Circ.zero.val, 10, 112) := by kernel_rfl
def DocS (mb : Nat) (v : Value) (k : Nat) : Prop := k = mb ∨ v.ownBlock = some k
def DocPost (w : World) (base mb : Nat) (v : Value) (L' : List Circ) (x : Value) (e : Ending) (w' : World) : Prop := ∃ v', e = .returned x ∧ DocAt w' base mb v' L' ∧ (∀ g, v'.ownBlock = some g → v.ownBlock = some g ∨ w.heap.size ≤ g) ∧ Fr (DocS mb v) w w'
theorem DocAt.ne {w : World} {base mb : Nat} {v : Value} {L : List Circ} (h : DocAt w base mb v L) : v.ownBlock ≠ some mb := fun e => by
  rcases h.own.2 with ⟨hv, _⟩ | ⟨g, cap, cur, hv, _, hh, _⟩
  · rw [hv] at e; cases e
  · rw [hv] at e
    simp only [Value.ownBlock, Option.some.injEq] at e
    rw [e, h.mbk] at hh; injection hh with hh; injection hh with _ hh; revert hh; decide
theorem doc_end {w w6 w7 : World} {base mb g cap : Nat} {va : Option Addr} {vc : Nat} {L : List Circ} {o : Obj} (c : Circ) (h : DocAt w base mb (.slice va L.length vc) L) (hb : Below w.heap.size w w6) (hg : ((w6.alloc o).drew).grownBy w7 (Value.slice va L.length vc).ownBlock)
    (ha : (Value.slice va L.length vc).ownBlock = some g ∨ g = w6.heap.size + 1)
    (ho : w7.ownsRow base 49 10 (.slice (some ⟨g, 0, none⟩) (L.length + 1) cap) (L.length + 1) (circCells L ++ c.cells)) :
    DocPost w base mb (.slice va L.length vc) (L ++ [c]) (.int .i64 0) (.returned (.int .i64 0)) (w7.setCell ⟨mb, 0, none⟩ (.slice (some ⟨g, 0, none⟩) (L.length + 1) cap)) := by
  have hmb := lt_of_heap h.mbk
  have h6 : w6.heap[mb]? = some (.cells #[.slice va L.length vc] 42 (0, 0)) := (hb.block mb hmb).trans h.mbk
  have h7 : w7.heap[mb]? = some (.cells #[.slice va L.length vc] 42 (0, 0)) := (hg.block mb (by simp; have := hb.size; omega) (fun e => h.ne e.symm)).trans ((alloc_heap o (lt_of_heap h6)).trans h6)
  have hgne : g ≠ mb := fun e => by
    rcases ho.2 with ⟨hv, _⟩ | ⟨g', cap', cur, hv, _, hh, _⟩
    · cases hv
    · cases hv; rw [e, h7] at hh; injection hh with hh; injection hh with _ hh; revert hh; decide
  refine ⟨.slice (some ⟨g, 0, none⟩) (L.length + 1) cap, rfl, ⟨heap_setCell_same w7 mb 0 _ 42 _ h7, ?_, h.h1⟩, fun g' hg' => ?_, ?_⟩
  · rw [circCells_snoc, List.length_append, List.length_singleton]
    exact own_setCell ho _ _ (fun e => hgne (by simpa [Value.ownBlock] using e))
  · simp only [Value.ownBlock, Option.some.injEq] at hg'
    subst hg'
    rcases ha with ha | ha
    · exact .inl ha
    · refine .inr ?_; have := hb.size; omega
  · have f1 : Fr (DocS mb (.slice va L.length vc)) w w6 := Fr.below hb
    have f2 : Fr (DocS mb (.slice va L.length vc)) w (w6.alloc o).drew := (f1.alloc o).drew
    have f3 := f2.trans' (Fr.grown (S := fun k => (Value.slice va L.length vc).ownBlock = some k) hg (fun g hg => hg)) (fun k _ hk => .inr hk)
    exact f3.set ⟨mb, 0, none⟩ _ (fun _ => .inl rfl)
set_option maxRecDepth 100000 in
set_option maxHeartbeats 2000000 in
theorem docopen_yes (mb base : Nat) (v : Value) (L : List Circ) (w : World) (h : DocAt w base mb v L) (hm : L.length ≤ 256) (c : Circ) (hc : c.fits) (ma : mayB c.ic c.ii = true) (mo : mayB c.oc c.oi = true) (hx : findC (Circ.inIs c.ic c.ii) L 0 = none) (hy : findC (Circ.outIs c.oc c.oi) L 0 = none) (hf : L.length < 256) : Calls Try.prog 23 #[.pointer (some ⟨mb, 0, none⟩), .agg #[.string c.ic, .int .i64 c.ii, .string c.oc, .int .i64 c.oi, .int .i64 c.ia, .int .i64 c.oa, .int .i64 c.ie, .int .i64 c.oe, .string c.hash, .string c.sh]] w (DocPost w base mb v (L ++ [c]) (.int .i64 0)) := by
  have NA := Lib.hid (named_b c.ic true (may_parts ma).1 hc.1)
  have NB := Lib.hid (named_b c.oc true (may_parts mo).1 hc.2)
  have px := (may_parts ma).2
  have py := (may_parts mo).2
  obtain ⟨va, vc, rfl⟩ := own_slice h.own
  have HD := Lib.hid h
  have hmb : mb < w.heap.size := lt_of_heap h.mbk
  have cm : w.cell? ⟨mb, 0, none⟩ = some (.slice va L.length vc) := by simp [World.cell?, h.mbk]
  have DIN : Hid (∀ W, DocAt W base mb (.slice va L.length vc) L → Calls Try.prog 16 #[.pointer (some ⟨mb, 0, none⟩), .string c.ic, .int .i64 c.ii] W fun e w' => e = .returned (.tuple #[.agg #[.string ⟨#[]⟩, .int .i64 0, .string ⟨#[]⟩, .int .i64 0, .int .i64 0, .int .i64 0, .int .i64 0, .int .i64 0, .string ⟨#[]⟩, .string ⟨#[]⟩], .bool false]) ∧ Below W.heap.size W w') := fun W hW => by
    have := docin_any mb base _ L W hW hm c.ic c.ii
    rw [hx] at this
    exact this
  have DOUT : Hid (∀ W, DocAt W base mb (.slice va L.length vc) L → Calls Try.prog 19 #[.pointer (some ⟨mb, 0, none⟩), .string c.oc, .int .i64 c.oi] W fun e w' => e = .returned (.tuple #[.agg #[.string ⟨#[]⟩, .int .i64 0, .string ⟨#[]⟩, .int .i64 0, .int .i64 0, .int .i64 0, .int .i64 0, .int .i64 0, .string ⟨#[]⟩, .string ⟨#[]⟩], .bool false]) ∧ Below W.heap.size W w') := fun W hW => by
    have := docout_any mb base _ L W hW hm c.oc c.oi
    rw [hy] at this
    exact this
  clear h hx hy ma mo hc
  obtain ⟨i0, hi0, hz0, hz1, hz2⟩ := info_parts Try.info49
  have hfi : (L.length : Int) < 256 := by omega
  go_enter Try.func23, Try.ntmps23
  go_wp2_with (first
    | (go_at_call 41; (with_reducible refine Calls.mono (NA.out _) ?_); rintro e w1 ⟨rfl, rfl⟩)
    | (go_at_call 41; (with_reducible refine Calls.mono (NB.out _) ?_); rintro e w1 ⟨rfl, rfl⟩)
    | (go_at_call 16; (with_reducible refine Calls.mono (DIN.out _ (HD.out.below (below_new' w _))) ?_); rintro e w1 ⟨rfl, hb1⟩; obtain ⟨hc1, hf1⟩ := bcell hb1; have B1 := Lib.hid ((below_new' w (.cells #[.string c.ic, .int .i64 c.ii, .string c.oc, .int .i64 c.oi, .int .i64 c.ia, .int .i64 c.oa, .int .i64 c.ie, .int .i64 c.oe, .string c.hash, .string c.sh] 49)).trans (hb1.mono (by simp))); have z1 := hb1.size; (try simp only [World.size_alloc] at z1); have cm1 := cell_later B1.out cm; have KB1 := Lib.hid ((hb1.block _ (by simp)).trans (heap_alloc_at w (.cells #[.string c.ic, .int .i64 c.ii, .string c.oc, .int .i64 c.oi, .int .i64 c.ia, .int .i64 c.oa, .int .i64 c.ie, .int .i64 c.oe, .string c.hash, .string c.sh] 49))); obtain ⟨k0, k1, k2, k3, k4, k5, k6, k7, k8, k9⟩ := ten_c KB1.out; have zk : w.heap.size < w1.heap.size := (by omega); have zm : mb < w1.heap.size := (by omega); clear hc1 hf1)
    | (go_at_call 19; (with_reducible refine Calls.mono (DOUT.out _ (HD.out.below (B1.out.alloc B1.out.size _))) ?_); rintro e w2 ⟨rfl, hb2⟩; obtain ⟨hc2, hf2⟩ := bcell hb2; have B2 := Lib.hid ((B1.out.alloc B1.out.size (.cells #[.string ⟨#[]⟩, .int .i64 0, .string ⟨#[]⟩, .int .i64 0, .int .i64 0, .int .i64 0, .int .i64 0, .int .i64 0, .string ⟨#[]⟩, .string ⟨#[]⟩] 49)).trans (hb2.mono (by have := B1.out.size; simp; omega))); have z2 := hb2.size; (try simp only [World.size_alloc] at z2); have cm2 := cell_later B2.out cm; have zm2 : mb < w2.heap.size := (by omega); have B23 : Hid (Below w1.heap.size w1 w2) := (below_new' w1 _).trans (hb2.mono (by simp)); clear hc2 hf2))
  have cm3 := cell_later (below_new' w2 (.cells #[.string ⟨#[]⟩, .int .i64 0, .string ⟨#[]⟩, .int .i64 0, .int .i64 0, .int .i64 0, .int .i64 0, .int .i64 0, .string ⟨#[]⟩, .string ⟨#[]⟩] 49)) cm2
  have B3 := Lib.hid (B2.out.alloc B2.out.size (.cells #[.string ⟨#[]⟩, .int .i64 0, .string ⟨#[]⟩, .int .i64 0, .int .i64 0, .int .i64 0, .int .i64 0, .int .i64 0, .string ⟨#[]⟩, .string ⟨#[]⟩] 49))
  have KB2 := Lib.hid ((B23.out.block _ zk).trans KB1.out)
  have KB3 := Lib.hid (((below_new' w2 (.cells #[.string ⟨#[]⟩, .int .i64 0, .string ⟨#[]⟩, .int .i64 0, .int .i64 0, .int .i64 0, .int .i64 0, .int .i64 0, .string ⟨#[]⟩, .string ⟨#[]⟩] 49)).block _ (lt_of_heap KB2.out)).trans KB2.out)
  clear k0 k1 k2 k3 k4 k5 k6 k7 k8 k9 cm cm1 cm2
  generalize w2.alloc (.cells #[.string ⟨#[]⟩, .int .i64 0, .string ⟨#[]⟩, .int .i64 0, .int .i64 0, .int .i64 0, .int .i64 0, .int .i64 0, .string ⟨#[]⟩, .string ⟨#[]⟩] 49) = w6 at cm3 B3 KB3 ⊢
  obtain ⟨k0, k1, k2, k3, k4, k5, k6, k7, k8, k9⟩ := ten_c KB3.out
  have O6 := Lib.hid (own_below HD.out.own B3.out)
  have HRN := Lib.hid HD.out.ne
  have h6 : w6.heap[mb]? = some (.cells #[.slice va L.length vc] 42 (0, 0)) := (B3.out.block mb hmb).trans HD.out.mbk
  have fm6 : w6.frozen? ⟨mb, 0, none⟩ = false := frozen_of_row w6 mb 0 _ 42 h6
  have zmb : mb < w6.heap.size := lt_of_heap h6
  have hbb : base ≤ w6.heap.size := by have := HD.out.h1; omega
  have hlen : (circCells L).length = L.length * 10 := O6.out.1
  obtain ⟨gb, hgb⟩ : ∃ gb, w.heap.size = gb := ⟨_, rfl⟩
  have HGB := Lib.hid hgb
  rw [hgb] at k0 k1 k2 k3 k4 k5 k6 k7 k8 k9 ⊢
  clear hgb
  go_region_law ((refine step_append_lies _ (by rfl) _ _ _ (by rfl) base 49 i0 _ 10 112 Try.underlying40 hi0 hz0 hz1 hz2 rfl (by omega) (.slice va L.length vc) L.length (circCells L) (by rfl) ((O6.out.alloc _).drew) ⟨w6.heap.size, 0, none⟩ 1 1 c.cells (by rfl) (by rfl) (World.news_of_block (cs := c.cells.toArray) (t := 49) (fr := (0, 0)) (heap_alloc_at w6 _)) (by simp [Circ.cells, Value.oneCell']) (by omega) (by unfold maxLen; omega) (by omega) (by simp; omega) (w6.heap.size + 1) (by simp) ?_; intro g cap w7 hown7 hgrow7 hat7 hlt7; have c27 := cellrow hgrow7 cm3 HRN.out; have f27 := frzrow hgrow7 fm6 zmb HRN.out; have HG7 := Lib.hid hgrow7; have HO7 := Lib.hid hown7; have HA7 := Lib.hid hat7; clear hgrow7 hown7 hat7))
  all_goals
    go_wp2
    go_ret
    exact doc_end c HD.out B3.out HG7.out HA7.out HO7.out
end Go.Proofs.Ytjdbnaedlljfhaa
