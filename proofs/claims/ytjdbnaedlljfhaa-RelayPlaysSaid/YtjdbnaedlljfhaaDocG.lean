/- The document's Close, where there is one. -/
import Derived.Test.YtjdbnaedlljfhaaDocF
namespace Go.Proofs.Ytjdbnaedlljfhaa
open Go.RowKit
theorem set10_fr (W : World) (b : Nat) (c : Circ) : Fr (fun k => k = b) W ((((((((((W.setCell ⟨b, 0, none⟩ (.string c.ic)).setCell ⟨b, 1, none⟩ (.int .i64 c.ii)).setCell ⟨b, 2, none⟩ (.string c.oc)).setCell ⟨b, 3, none⟩ (.int .i64 c.oi)).setCell ⟨b, 4, none⟩ (.int .i64 c.ia)).setCell ⟨b, 5, none⟩ (.int .i64 c.oa)).setCell ⟨b, 6, none⟩ (.int .i64 c.ie)).setCell ⟨b, 7, none⟩ (.int .i64 c.oe)).setCell ⟨b, 8, none⟩ (.string c.hash)).setCell ⟨b, 9, none⟩ (.string c.sh)) :=
  ((((((((((Fr.refl (fun k => k = b) W).set ⟨b, 0, none⟩ _ fun _ => rfl).set ⟨b, 1, none⟩ _ fun _ => rfl).set ⟨b, 2, none⟩ _ fun _ => rfl).set ⟨b, 3, none⟩ _ fun _ => rfl).set ⟨b, 4, none⟩ _ fun _ => rfl).set ⟨b, 5, none⟩ _ fun _ => rfl).set ⟨b, 6, none⟩ _ fun _ => rfl).set ⟨b, 7, none⟩ _ fun _ => rfl).set ⟨b, 8, none⟩ _ fun _ => rfl).set ⟨b, 9, none⟩ _ fun _ => rfl
theorem DocAt.fr {w w' : World} {base mb b : Nat} {v : Value} {L : List Circ} (h : DocAt w base mb v L) (hf : Fr (fun k => k = b) w w') (h1 : mb ≠ b) (h2 : v.ownBlock ≠ some b) : DocAt w' base mb v L :=
  ⟨(hf.block mb (lt_of_heap h.mbk) h1).trans h.mbk, ownsRow_blocks h.own (fun g hg => hf.block g (h.own.lt g hg).2 (fun e => h2 (by rw [hg, e]))) hf.size, h.h1⟩
theorem own_base {w : World} {B B' E size n : Nat} {v : Value} {xs : List Value} (h : w.ownsRow B E size v n xs) (hb : B' ≤ B) : w.ownsRow B' E size v n xs := by
  refine ⟨h.1, ?_⟩
  rcases h.2 with h0 | ⟨g, cap, cur, hv, hg, hrest⟩
  · exact .inl h0
  · exact .inr ⟨g, cap, cur, hv, Nat.le_trans hb hg, hrest⟩
/-- the world behind the two stores -/
theorem close_world {w w2 wr : World} {base mb : Nat} {v nv : Value} {L M : List Circ} {c : Circ} (h : DocAt w base mb v L) (hb2 : Below w.heap.size w w2) (hr : Below w2.heap.size w2 wr) (z2 : w.heap.size < w2.heap.size) (ho : wr.ownsRow w2.heap.size 49 10 nv M.length (circCells M)) :
    (∃ T, wr.heap[mb]? = some (.cells #[v] 42 (0, 0)) ∧ wr.setCell ⟨mb, 0, none⟩ nv = T ∧ Fr (DocS mb v) w T ∧ DocAt T base mb nv M ∧ (∀ g, nv.ownBlock = some g → w.heap.size < g) ∧ ∀ k, k ≠ mb → T.heap[k]? = wr.heap[k]?) := by
  have hmb := lt_of_heap h.mbk
  have hmr : wr.heap[mb]? = some (.cells #[v] 42 (0, 0)) := ((hr.block mb (by omega)).trans (hb2.block mb hmb)).trans h.mbk
  have hbase := h.h1
  have hob : ∀ g, nv.ownBlock = some g → w2.heap.size ≤ g := fun g hg => (ho.lt g hg).1
  refine ⟨_, hmr, rfl, ?_, ⟨heap_setCell_same wr mb 0 _ 42 _ hmr, own_base (own_setCell ho _ _ fun e => ?_) (by omega), hbase⟩, fun g e => ?_, fun k hk => heap_setCell_other wr _ k nv hk⟩
  · exact ((Fr.below hb2).trans' (Fr.below (S := fun _ => False) hr) (fun _ _ x => x.elim)).set _ _ fun _ => .inl rfl
  · have := hob _ e; simp at this; omega
  · have := hob _ e; omega
set_option maxRecDepth 100000 in
set_option maxHeartbeats 2000000 in
theorem docclose_some (mb base : Nat) (v : Value) (L : List Circ) (w : World) (h : DocAt w base mb v L) (hm : L.length ≤ 256) (n : ByteArray) (i : Int) (j : Nat) (c : Circ) (hx : findC (Circ.outIs n i) L 0 = some (j, c)) : Calls Try.prog 21 #[.pointer (some ⟨mb, 0, none⟩), .string n, .int .i64 i] w (DocPost w base mb v (L.filter fun x => !Circ.outIs n i x) (.tuple #[c.val, .int .i64 0])) := by
  obtain ⟨va, vc, rfl⟩ := own_slice h.own
  have HD := Lib.hid h
  have hmb : mb < w.heap.size := lt_of_heap h.mbk
  have DOUT : Hid (∀ W, DocAt W base mb (.slice va L.length vc) L → Calls Try.prog 19 #[.pointer (some ⟨mb, 0, none⟩), .string n, .int .i64 i] W fun e w' => e = .returned (.tuple #[.agg #[.string c.ic, .int .i64 c.ii, .string c.oc, .int .i64 c.oi, .int .i64 c.ia, .int .i64 c.oa, .int .i64 c.ie, .int .i64 c.oe, .string c.hash, .string c.sh], .bool true]) ∧ Below W.heap.size W w') := fun W hW => by
    have := docout_any mb base _ L W hW hm n i
    rw [hx] at this
    exact this
  clear h hx
  go_enter Try.func21, Try.ntmps21
  go_wp2_with fail
  refine Calls.mono (DOUT.out _ (HD.out.below (below_new' w _))) ?_
  rintro e w1 ⟨rfl, hb1⟩
  have KB1 := Lib.hid ((hb1.block _ (by simp)).trans (heap_alloc_at w (.cells #[.string ⟨#[]⟩, .int .i64 0, .string ⟨#[]⟩, .int .i64 0, .int .i64 0, .int .i64 0, .int .i64 0, .int .i64 0, .string ⟨#[]⟩, .string ⟨#[]⟩] 49)))
  have B1 := Lib.hid ((below_new' w (.cells #[.string ⟨#[]⟩, .int .i64 0, .string ⟨#[]⟩, .int .i64 0, .int .i64 0, .int .i64 0, .int .i64 0, .int .i64 0, .string ⟨#[]⟩, .string ⟨#[]⟩] 49)).trans (hb1.mono (by simp)))
  have zk : w.heap.size < w1.heap.size := lt_of_heap KB1.out
  clear hb1 DOUT
  go_upto_region 2 with fail
  have KB2 := Lib.hid ((((below_new' w1 (.cells c.cells.toArray 49)).block _ zk).trans KB1.out))
  have KC2 := Lib.hid (heap_alloc_at w1 (.cells c.cells.toArray 49))
  have B2 := Lib.hid (B1.out.alloc B1.out.size (.cells c.cells.toArray 49))
  have hgen : w1.alloc (.cells #[.string c.ic, .int .i64 c.ii, .string c.oc, .int .i64 c.oi, .int .i64 c.ia, .int .i64 c.oa, .int .i64 c.ie, .int .i64 c.oe, .string c.hash, .string c.sh] 49) = w1.alloc (.cells c.cells.toArray 49) := rfl
  rw [hgen]
  generalize w1.alloc (.cells c.cells.toArray 49) = w2 at KB2 KC2 B2 ⊢
  have HB1 : Hid (w1.heap.size < w2.heap.size) := lt_of_heap KC2.out
  have z2 : w.heap.size < w2.heap.size := by have := HB1.out; omega
  obtain ⟨b1, hb1⟩ : ∃ b1, w1.heap.size = b1 := ⟨_, rfl⟩
  have z1b : w.heap.size < b1 := by rw [← hb1]; exact zk
  rw [hb1] at KC2 HB1 ⊢
  obtain ⟨b2, hb2⟩ : ∃ b2, w2.heap.size = b2 := ⟨_, rfl⟩
  have HB2 := Lib.hid hb2
  rw [hb2] at HB1 z2
  clear hb1 hb2 hgen
  obtain ⟨i0, hi0, hz0, hz1, hz2⟩ := info_parts Try.info49
  have D2 := Lib.hid (HD.out.below B2.out)
  have cm2 := cell_later B2.out (show w.cell? ⟨mb, 0, none⟩ = some (.slice va L.length vc) by simp [World.cell?, HD.out.mbk])
  go_wp2_with fail
  go_loopw [10, 11] (fun ov iv wr => ∃ (k : Nat) (a0 : Option Addr) (c0 : Nat) (M : List Circ), k ≤ L.length ∧ M.length ≤ k ∧ iv = .int .i64 k ∧ ov = .slice a0 M.length c0 ∧ Hid (M = (L.take k).filter fun x => !Circ.outIs n i x) ∧ Hid (wr.ownsRow b2 49 10 (.slice a0 M.length c0) M.length (circCells M)) ∧ Hid (Below b2 w2 wr)) (fun _ iv _ => L.length - (intOf iv).toNat)
  case atStart => exact ⟨0, none, 0, [], Nat.zero_le _, Nat.le_refl _, rfl, rfl, rfl, World.ownsRow_nil _ _ _ _, Below.refl _ _⟩
  case round =>
    obtain ⟨k, a0, c0, M, hk, hMk, rfl, rfl, hM, hown, hB⟩ := hrel
    have hB' : Below w2.heap.size w2 wr := by rw [HB2.out]; exact hB.out
    have cw := cell_later hB' cm2
    have hBs : b2 ≤ wr.heap.size := by rw [← HB2.out]; exact hB'.size
    by_cases hlt : k < L.length
    · obtain ⟨x, hx⟩ : ∃ x, L[k]? = some x := ⟨_, List.getElem?_eq_getElem hlt⟩
      obtain ⟨g, cap, hv, hca⟩ := (D2.out.below hB').row hx
      cases hv
      obtain ⟨q0, q1, q2, q3, q4, q5, q6, q7, q8, q9⟩ := hca
      have hkl : (k : Int) < (L.length : Int) := by omega
      have hs : Circ.outIs n i x = ((x.oc.toList == n.toList) && (x.oi == i)) := sameP_comm n i x.oc x.oi
      have htk : Hid ((L.take (k + 1)).filter (fun x => !Circ.outIs n i x) = M ++ (if Circ.outIs n i x then [] else [x])) := by
        show _ = _
        have hLk : L[k] = x := by rw [List.getElem?_eq_getElem hlt] at hx; exact Option.some.inj hx
        rw [List.take_succ_eq_append_getElem hlt, List.filter_append, ← hM.out, hLk]
        cases ho : Circ.outIs n i x <;> simp [ho]
      have hMl : (circCells M).length = M.length * 10 := hown.out.1
      clear hx hB'
      cases hA : (x.oc.toList == n.toList) with
      | false =>
        have hno : Hid (Circ.outIs n i x = false) := by show _ = _; rw [hs, hA]; rfl
        clear hs
        go_wp2_with (at_builtin; refine wpList_append_lies _ rfl _ _ _ rfl b2 49 i0 _ 10 112 Try.underlying40 hi0 hz0 hz1 hz2 rfl (by omega) _ _ _ rfl (hown.out.alloc _) ⟨wr.heap.size, 0, none⟩ 1 1 x.cells rfl rfl (World.news_of_block (cs := x.cells.toArray) (t := 49) (fr := (0, 0)) (heap_alloc_at wr _)) (by simp [Circ.cells, Value.oneCell']) (by omega) (by unfold maxLen; omega) (by omega) (by simp; omega) (wr.heap.size + 1) (by simp) ?_; intro g2 cap2 w3 hown3 hgrow3 hat3 hlt3; have HO3 := Lib.hid hown3; have HG3 := Lib.hid hgrow3; clear hown3 hgrow3 hat3 hlt3)
        go_roundw
        case rel =>
          refine ⟨k + 1, _, _, M ++ [x], by omega, by simp; omega, by go_num, by rw [List.length_append, List.length_singleton], ?_, ?_, ?_⟩
          · show _ = _
            rw [htk.out, hno.out]; rfl
          · have h := HO3.out
            show _
            rw [circCells_snoc, List.length_append, List.length_singleton]
            exact h
          · have hrow := fun (g : Nat) (hg : (Value.slice a0 M.length c0).ownBlock = some g) => (hown.out.lt g hg).1
            exact (hB.out.alloc hBs _).grown HG3.out (by simp; omega) hrow
        case measure => simp [intOf]; omega
      | true =>
        cases hBb : (x.oi == i) with
        | false =>
          have hno : Hid (Circ.outIs n i x = false) := by show _ = _; rw [hs, hA, hBb]; rfl
          clear hs
          go_wp2_with (at_builtin; refine wpList_append_lies _ rfl _ _ _ rfl b2 49 i0 _ 10 112 Try.underlying40 hi0 hz0 hz1 hz2 rfl (by omega) _ _ _ rfl (hown.out.alloc _) ⟨wr.heap.size, 0, none⟩ 1 1 x.cells rfl rfl (World.news_of_block (cs := x.cells.toArray) (t := 49) (fr := (0, 0)) (heap_alloc_at wr _)) (by simp [Circ.cells, Value.oneCell']) (by omega) (by unfold maxLen; omega) (by omega) (by simp; omega) (wr.heap.size + 1) (by simp) ?_; intro g2 cap2 w3 hown3 hgrow3 hat3 hlt3; have HO3 := Lib.hid hown3; have HG3 := Lib.hid hgrow3; clear hown3 hgrow3 hat3 hlt3)
          go_roundw
          case rel =>
            refine ⟨k + 1, _, _, M ++ [x], by omega, by simp; omega, by go_num, by rw [List.length_append, List.length_singleton], ?_, ?_, ?_⟩
            · show _ = _
              rw [htk.out, hno.out]; rfl
            · have h := HO3.out
              show _
              rw [circCells_snoc, List.length_append, List.length_singleton]
              exact h
            · have hrow := fun (g : Nat) (hg : (Value.slice a0 M.length c0).ownBlock = some g) => (hown.out.lt g hg).1
              exact (hB.out.alloc hBs _).grown HG3.out (by simp; omega) hrow
          case measure => simp [intOf]; omega
        | true =>
          have hno : Hid (Circ.outIs n i x = true) := by show _ = _; rw [hs, hA, hBb]; rfl
          clear hs
          go_wp2_with fail
          go_roundw
          case rel =>
            refine ⟨k + 1, a0, c0, M, by omega, by omega, by go_num, rfl, ?_, hown, hB⟩
            show _ = _
            rw [htk.out, hno.out]; simp
          case measure => simp [intOf]; omega
    · obtain rfl : k = L.length := by omega
      have hM' : Hid (L.filter (fun x => !Circ.outIs n i x) = M) := by have := hM.out; rw [List.take_length] at this; exact this.symm
      clear hM
      obtain ⟨T, hmr, hT, FT, DT, ne1, kT⟩ := close_world (c := c) HD.out B2.out hB' (by rw [HB2.out]; exact z2) (by rw [HB2.out]; exact hown.out)
      have fm : wr.frozen? ⟨mb, 0, none⟩ = false := frozen_of_row wr mb 0 _ 42 hmr
      have KBr := Lib.hid ((hB'.block _ (by rw [HB2.out]; exact z2)).trans KB2.out)
      have KCr := Lib.hid ((hB'.block _ (by rw [HB2.out]; exact HB1.out)).trans KC2.out)
      have KBt := Lib.hid ((kT _ (by omega)).trans KBr.out)
      have KCt := Lib.hid ((kT _ (by omega)).trans KCr.out)
      have HFT := Lib.hid FT; have HDT := Lib.hid DT; have HNE := Lib.hid ne1
      clear hmr FT DT ne1 kT hB' hown hB cm2
      go_upto_region 11 with fail
      (try rw [hT])
      clear hT fm cw
      obtain ⟨⟨k0, k1, k2, k3, k4, k5, k6, k7, k8, k9⟩, kf⟩ := new_cells49 KBt.out
      obtain ⟨t0, t1, t2, t3, t4, t5, t6, t7, t8, t9⟩ := ten_t KCt.out
      go_wp2_with fail
      have hf10 := set10_fr T w.heap.size c
      have hblk := set10t (c := c) KBt.out
      generalize ((((((((((T.setCell ⟨w.heap.size, 0, none⟩ (.string c.ic)).setCell ⟨w.heap.size, 1, none⟩ (.int .i64 c.ii)).setCell ⟨w.heap.size, 2, none⟩ (.string c.oc)).setCell ⟨w.heap.size, 3, none⟩ (.int .i64 c.oi)).setCell ⟨w.heap.size, 4, none⟩ (.int .i64 c.ia)).setCell ⟨w.heap.size, 5, none⟩ (.int .i64 c.oa)).setCell ⟨w.heap.size, 6, none⟩ (.int .i64 c.ie)).setCell ⟨w.heap.size, 7, none⟩ (.int .i64 c.oe)).setCell ⟨w.heap.size, 8, none⟩ (.string c.hash)).setCell ⟨w.heap.size, 9, none⟩ (.string c.sh)) = W' at hf10 hblk ⊢
      clear k0 k1 k2 k3 k4 k5 k6 k7 k8 k9 kf t0 t1 t2 t3 t4 t5 t6 t7 t8 t9
      obtain ⟨t0, t1, t2, t3, t4, t5, t6, t7, t8, t9⟩ := ten_t hblk
      refine bodyPost_ret (v := .tuple #[.agg #[.string c.ic, .int .i64 c.ii, .string c.oc, .int .i64 c.oi, .int .i64 c.ia, .int .i64 c.oa, .int .i64 c.ie, .int .i64 c.oe, .string c.hash, .string c.sh], .int .i64 0]) (by simp [results, Try.results21, go_sem, *]) rfl ?_
      rw [hM'.out]
      exact ⟨_, rfl, HDT.out.fr hf10 (by omega) (fun e => absurd (HNE.out _ e) (Nat.lt_irrefl _)), fun g hg => .inr (Nat.le_of_lt (HNE.out g hg)), HFT.out.trans' hf10 (fun k hk e => by omega)⟩
end Go.Proofs.Ytjdbnaedlljfhaa
