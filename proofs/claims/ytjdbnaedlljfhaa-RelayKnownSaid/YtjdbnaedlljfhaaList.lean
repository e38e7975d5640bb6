/- The relay's List. -/
import Derived.Test.YtjdbnaedlljfhaaWorks
namespace Go.Proofs.Ytjdbnaedlljfhaa
open Go.RowKit

/-- m[k] without 'ok' -/
theorem run_look1 (key : Circ → Value) (p : Circ → Bool) (n : ByteArray) (i : Int) (hk : ∀ c w, (Op.equal 84 (placeV n i) (key c)).run Try.prog w = .ok (p c) w) (es : Array MapEntry) (clock mb : Nat) (L : List Circ) (w : World) (h : Lies key es.toList L)
    (hp : ∀ c : Circ, ∃ n' i', key c = placeV n' i') (hb : w.heap[mb]? = some (.map es clock)) :
    (Instr.lookup 79 (.map (some mb)) (placeV n i) false).run Try.prog w = .ok (((findC p L 0).map fun x => x.2.kept).getD zeroKept) w := by
  have hz : (zeroValue 88).run Try.prog w = .ok zeroKept w := by kernel_rfl
  have hf := run_findKey_place key p n i hk es.toList L w h hp
  simp only [Instr.lookup, Sem.run_bind, run_underlying Try.underlying79, Result.andThen_ok, run_getObj_map w mb es clock hb, Sem.run_pure, run_checkKey_place, hf]
  cases findC p L 0 with
  | none => simp [hz, go_sem]
  | some x => simp [go_sem]
def Circ.cells (c : Circ) : List Value := [.string c.ic, .int .i64 c.ii, .string c.oc, .int .i64 c.oi, .int .i64 c.ia, .int .i64 c.oa, .int .i64 c.ie, .int .i64 c.oe, .string c.hash, .string c.sh]
def circCells (L : List Circ) : List Value := L.flatMap Circ.cells
theorem circCells_snoc (L : List Circ) (c : Circ) : circCells (L ++ [c]) = circCells L ++ c.cells := by simp [circCells]
theorem Try.info44 : (Try.prog.info? 44).map (fun i => (i.zero, i.size, i.bytes)) = some (some Circ.zero.val, 10, 112) := by kernel_rfl
def ListPost (L : List Circ) (w : World) (e : Ending) (w' : World) : Prop := ∃ v, e = .returned v ∧ w'.ownsRow w.heap.size 44 10 v L.length (circCells L) ∧ Below w.heap.size w w'
theorem place_at' : ∀ (L : List Circ) (k : Nat) (c : Circ), L[k]? = some c → (placeCells L)[k * 2]? = some (.string c.oc) ∧ (placeCells L)[k * 2 + 1]? = some (.int .i64 c.oi)
  | [], k, c, h => by simp at h
  | x :: L, 0, c, h => by simp at h; subst h; exact ⟨rfl, rfl⟩
  | x :: L, k + 1, c, h => by
    have := place_at' L k c (by simpa using h)
    rw [show (k + 1) * 2 = k * 2 + 1 + 1 by omega]
    simpa [placeCells] using this
theorem circCells_take {L : List Circ} {k : Nat} {c : Circ} (h : L[k]? = some c) : circCells (L.take (k + 1)) = circCells (L.take k) ++ c.cells := by
  have hk := (List.getElem?_eq_some_iff.1 h).1
  rw [List.take_succ_eq_append_getElem hk, show L[k] = c by rw [List.getElem?_eq_getElem hk] at h; exact Option.some.inj h, circCells_snoc]
theorem below_new' (w : World) (o : Obj) : Below w.heap.size w (w.alloc o) := (Below.refl _ _).alloc (Nat.le_refl _) _
theorem own_below {w w' : World} {base E size n : Nat} {v : Value} {xs : List Value} (h : w.ownsRow base E size v n xs) (hb : Below w.heap.size w w') : w'.ownsRow base E size v n xs := ownsRow_blocks h (fun g hg => hb.block g (h.lt g hg).2) hb.size
set_option maxRecDepth 100000 in
set_option maxHeartbeats 4000000 in
theorem list_any (rb base mi mo : Nat) (v : Value) (L : List Circ) (w : World) (h : RelAt w base rb mi mo v L) : Calls Try.prog 24 #[.pointer (some ⟨rb, 0, none⟩)] w (ListPost L w) := by
  obtain ⟨vo, vc, rfl⟩ := own_slice h.own
  have hfew := h.few
  obtain ⟨fs, co, n0, hl, _⟩ := h.mok
  have hlk : ∀ (W : World) (c : Circ) (k : Nat), L[k]? = some c → MapAt W mo fs co → (Instr.lookup 79 (.map (some mo)) (placeV c.oc c.oi) false).run Try.prog W = .ok c.kept W := fun W c k hk hW => by
    have := run_look1 Circ.outV (Circ.outIs c.oc c.oi) c.oc c.oi (key_out c.oc c.oi) fs co mo L W hl (fun c => ⟨_, _, rfl⟩) hW
    rw [find_out h.uni hk] at this
    exact this
  have HLK := Lib.hid hlk
  have c2 : w.cell? ⟨rb, 2, none⟩ = some (.slice vo L.length vc) := by simp [World.cell?, h.rbk]
  have c1 : w.cell? ⟨rb, 1, none⟩ = some (.map (some mo)) := by simp [World.cell?, h.rbk]
  have n0 : MapAt w mo fs co := n0
  have HN0 := Lib.hid n0; have HC1 := Lib.hid c1; have HH := Lib.hid h
  clear hlk n0 hl h c1
  obtain ⟨i0, hi0, hz0, hz1, hz2⟩ := info_parts Try.info44
  go_enter Try.func24, Try.ntmps24
  go_wp2
  go_loopw [3, 13] (fun ov iv wr => ∃ (k : Nat) (a0 : Option Addr) (c0 : Nat), k ≤ L.length ∧ iv = .int .i64 k ∧ ov = .slice a0 k c0 ∧ Hid (wr.ownsRow w.heap.size 44 10 (.slice a0 k c0) k (circCells (L.take k))) ∧ Hid (Below w.heap.size w wr)) (fun _ iv _ => L.length - (intOf iv).toNat)
  case atStart => exact ⟨0, none, 0, Nat.zero_le _, rfl, rfl, World.ownsRow_nil _ _ _ _, Below.refl _ _⟩
  case round =>
    obtain ⟨k, a0, c0, hk, rfl, rfl, hown, hB⟩ := hrel
    have hBs := hB.out.size
    by_cases hlt : k < L.length
    · obtain ⟨c, hc⟩ : ∃ c, L[k]? = some c := ⟨_, List.getElem?_eq_getElem hlt⟩
      obtain ⟨g, cap, cur, hvv, hg, hh, _, _, _, ht⟩ := row_cells HH.out.own (by omega)
      cases hvv
      have hp := place_at' L k c hc
      have d0 : wr.cell? ⟨g, k * 2, none⟩ = some (.string c.oc) := cell_later hB.out (by rw [cell_of_row _ _ _ _ _ _ hh]; exact ((ht _).resolve_right (by omega)).trans hp.1)
      have d1 : wr.cell? ⟨g, k * 2 + 1, none⟩ = some (.int .i64 c.oi) := cell_later hB.out (by rw [cell_of_row _ _ _ _ _ _ hh]; exact ((ht _).resolve_right (by omega)).trans hp.2)
      have e1 := cell_later hB.out HC1.out
      have HCT := Lib.hid (circCells_take hc)
      have HLK' : Hid (∀ W : World, MapAt W mo fs co → (Instr.lookup 79 (.map (some mo)) (placeV c.oc c.oi) false).run Try.prog W = .ok c.kept W) := fun W hW => HLK.out W c k hc hW
      have hkl : (k : Int) < (L.length : Int) := by omega
      clear hc ht hh hp
      go_wp2
      have B1 := Lib.hid (hB.out.alloc hBs (.cells #[.string c.oc, .int .i64 c.oi] 84))
      have b1 := below_new' wr (.cells #[.string c.oc, .int .i64 c.oi] 84)
      have own1 := Lib.hid (own_below hown.out b1)
      have f0 := cell_later b1 e1
      have MA := Lib.hid ((HN0.out.below hB.out).below b1)
      have k0 : (wr.alloc (.cells #[.string c.oc, .int .i64 c.oi] 84)).cell? ⟨wr.heap.size, 0, none⟩ = some (.string c.oc) := by rw [cell_of_row _ _ _ _ _ _ (heap_alloc_at wr _)]; rfl
      have k1 : (wr.alloc (.cells #[.string c.oc, .int .i64 c.oi] 84)).cell? ⟨wr.heap.size, 1, none⟩ = some (.int .i64 c.oi) := by rw [cell_of_row _ _ _ _ _ _ (heap_alloc_at wr _)]; rfl
      generalize wr.alloc (.cells #[.string c.oc, .int .i64 c.oi] 84) = w6 at B1 own1 f0 MA k0 k1 ⊢
      generalize wr.heap.size = gk at k0 k1 ⊢
      have hme : (Instr.lookup 79 (.map (some mo)) (.agg #[.string c.oc, .int .i64 c.oi]) false).run Try.prog w6.drew = .ok (.agg #[.string c.ic, .int .i64 c.ii, .string c.oc, .int .i64 c.oi, .string c.ic, .int .i64 c.ii, .string c.oc, .int .i64 c.oi, .int .i64 c.ia, .int .i64 c.oa, .int .i64 c.ie, .int .i64 c.oe, .string c.hash, .string c.sh]) w6.drew := HLK'.out w6.drew MA.out.drew
      have hfld : ∀ W : World, (Instr.field 88 (.agg #[.string c.ic, .int .i64 c.ii, .string c.oc, .int .i64 c.oi, .string c.ic, .int .i64 c.ii, .string c.oc, .int .i64 c.oi, .int .i64 c.ia, .int .i64 c.oa, .int .i64 c.ie, .int .i64 c.oe, .string c.hash, .string c.sh]) 1).run Try.prog W = .ok (.agg #[.string c.ic, .int .i64 c.ii, .string c.oc, .int .i64 c.oi, .int .i64 c.ia, .int .i64 c.oa, .int .i64 c.ie, .int .i64 c.oe, .string c.hash, .string c.sh]) W := fun W => by kernel_rfl
      have hlen : (circCells (L.take k)).length = k * 10 := own1.out.1
      clear d0 d1 e1 b1
      go_region_law ((refine step_append_lies _ (by rfl) _ _ _ (by rfl) w.heap.size 44 i0 _ 10 112 Try.underlying59 hi0 hz0 hz1 hz2 rfl (by omega) (.slice a0 k c0) k (circCells (L.take k)) (by rfl) ((own1.out.alloc _).drew) ⟨w6.heap.size, 0, none⟩ 1 1 c.cells (by rfl) (by rfl) (World.news_of_block (cs := c.cells.toArray) (t := 44) (fr := (0, 0)) (heap_alloc_at w6 _)) (by simp [Circ.cells, Value.oneCell']) (by omega) (by unfold maxLen; omega) (by omega) (by have := B1.out.size; simp; omega) (w6.heap.size + 1) (by simp) ?_; intro g2 cap2 w7 hown7 hgrow7 hat7 hlt7; have HG7 := Lib.hid hgrow7; have HO7 := Lib.hid hown7; clear hgrow7 hown7 hat7))
      all_goals
        go_wp2
        go_roundw
      all_goals first
        | (case rel =>
            refine ⟨k + 1, _, _, by omega, by go_num, rfl, ?_, ?_⟩
            · rw [HCT.out]; exact HO7.out
            · exact (B1.out.alloc B1.out.size _).drew.grown HG7.out (by have := B1.out.size; simp; omega) (fun g hg => (own1.out.lt g hg).1))
        | (simp [intOf]; omega)
    · obtain rfl : k = L.length := by omega
      go_wp2_with fail
      go_ret
      refine ⟨_, rfl, ?_, hB.out⟩
      have := hown.out
      rw [List.take_length] at this
      exact this
end Go.Proofs.Ytjdbnaedlljfhaa
