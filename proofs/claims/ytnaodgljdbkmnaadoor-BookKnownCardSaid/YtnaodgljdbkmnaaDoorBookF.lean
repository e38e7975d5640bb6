/- Bills -/
import Derived.Test.YtnaodgljdbkmnaaDoorBookD
import Derived.Test.YtnaodgljdbkmnaaDoorBookE
import Derived.Deep.AppendLies
namespace Go.Proofs.YtnaodgljdbkmnaaDoor
set_option linter.unusedVariables false
open Go.RowKit
theorem row_cellsG {w : World} {base t sz n : Nat} {v : Value} {xs : List Value} (h : w.ownsRow base t sz v n xs) (hn : 0 < n) : ∃ g cap cur, v = .slice (some ⟨g, 0, none⟩) n cap ∧ base ≤ g ∧ w.heap[g]? = some (.cells cur t (0, 0)) ∧ n ≤ cap ∧ cap ≤ maxLen ∧ cur.size = cap * sz ∧ (∀ i, i < n * sz → cur[i]? = xs[i]?) := by
  rcases h.2 with ⟨_, h0⟩ | ⟨g, cap, cur, hv, hg, hh, hc, hm, hs, ht⟩
  · omega
  · refine ⟨g, cap, cur, hv, hg, hh, hc, hm, hs, fun i hi => ?_⟩
    rw [← ht, List.getElem?_take, if_pos hi, Array.getElem?_toList]
theorem findB_at {L : List Ent} (hu : (L.map (·.2.hash)).Nodup) : ∀ {k : Nat} {e : Ent} (j : Nat), L[k]? = some e → findB e.2.hash L j = some (j + k, e) := by
  induction L with
  | nil => intro k e j h; simp at h
  | cons c L ih =>
    intro k e j h
    simp only [List.map_cons, List.nodup_cons] at hu
    cases k with
    | zero =>
      simp at h; subst h
      unfold findB
      rw [if_pos ((ba_beq _ _).2 rfl)]; rfl
    | succ k =>
      have h' : L[k]? = some e := by simpa using h
      have hne : ¬ (e.2.hash == c.2.hash) = true := fun hb => hu.1 (List.mem_map.2 ⟨e, List.mem_of_getElem? h', (ba_beq _ _).1 hb⟩)
      unfold findB
      rw [if_neg hne, ih hu.2 (j + 1) h']
      congr 2; omega
def billCells (L : List Ent) : List Value := L.flatMap fun e => e.2.cells
theorem billCells_snoc (L : List Ent) (e : Ent) : billCells (L ++ [e]) = billCells L ++ e.2.cells := by simp [billCells]
theorem Tryd.parts58 : (Tryd.prog.info? 58).map (fun i => (i.zero, i.size, i.bytes)) = some (some (.agg #[.string ⟨#[]⟩, .string ⟨#[]⟩, .int .i64 0, .int .i64 0, .int .i64 0, .int .i64 0, .string ⟨#[]⟩, .bool false]), 8, 88) := by kernel_rfl
theorem billCells_take {L : List Ent} {k : Nat} {e : Ent} (h : L[k]? = some e) : billCells (L.take (k + 1)) = billCells (L.take k) ++ e.2.cells := by
  have hk := (List.getElem?_eq_some_iff.1 h).1
  rw [List.take_succ_eq_append_getElem hk, show L[k] = e by rw [List.getElem?_eq_getElem hk] at h; exact Option.some.inj h, billCells_snoc]
def BillsPost (L : List Ent) (w : World) (e : Ending) (w' : World) : Prop := ∃ v, e = .returned v ∧ w'.ownsRow w.heap.size 58 8 v L.length (billCells L) ∧ Below w.heap.size w w'
set_option maxRecDepth 100000 in
set_option maxHeartbeats 4000000 in
theorem bills_any (base bk mm : Nat) (v : Value) (L : List Ent) (w : World) (h : BookAt w base bk mm v L) : Calls Tryd.prog 41 #[.pointer (some ⟨bk, 0, none⟩)] w (BillsPost L w) := by
  obtain ⟨vo, vc, rfl⟩ := own_slice h.own
  have hfew := h.few
  have HH := Lib.hid h
  obtain ⟨c0, c1⟩ := h.cells
  have HC0 := Lib.hid c0
  clear h c0
  obtain ⟨i0, hi0, hz0, hz1, hz2⟩ := info_parts Tryd.parts58
  go_enter Tryd.func41, Tryd.ntmps41
  go_wp2
  go_loopw [3, 13] (fun ov iv wr => ∃ (k : Nat) (a0 : Option Addr) (c0 : Nat), k ≤ L.length ∧ iv = .int .i64 k ∧ ov = .slice a0 k c0 ∧ Hid (wr.ownsRow w.heap.size 58 8 (.slice a0 k c0) k (billCells (L.take k))) ∧ Hid (Below w.heap.size w wr)) (fun _ iv _ => L.length - (intOf iv).toNat)
  case atStart => exact ⟨0, none, 0, Nat.zero_le _, rfl, rfl, World.ownsRow_nil _ _ _ _, Below.refl _ _⟩
  case round =>
    obtain ⟨k, a0, c0, hk, rfl, rfl, hown, hB⟩ := hrel
    have hBs := hB.out.size
    by_cases hlt : k < L.length
    · obtain ⟨e, he⟩ : ∃ e, L[k]? = some e := ⟨_, List.getElem?_eq_getElem hlt⟩
      obtain ⟨g, cap, cur, hvv, hg, hh, _, _, _, ht⟩ := row_cellsG HH.out.own (by omega)
      cases hvv
      have hp : (L.map fun e => Value.string e.2.hash)[k]? = some (.string e.2.hash) := by rw [List.getElem?_map, he]; rfl
      have d0 : wr.cell? ⟨g, k, none⟩ = some (.string e.2.hash) := cell_later hB.out (by rw [cell_of_row _ _ _ _ _ _ hh]; exact (ht _ (by omega)).trans hp)
      have e1 := cell_later hB.out HC0.out
      have HCT := Lib.hid (billCells_take he)
      have hW := HH.out.below hB.out
      obtain ⟨es, cn, hm, hl⟩ := hW.map
      have hlk := run_lookB1 e.2.hash es cn mm L wr hl hm
      rw [findB_at HH.out.uni 0 he] at hlk
      simp only [Option.map_some, Option.getD_some] at hlk
      unfold Ent.ptr at hlk
      obtain ⟨hblk, hbge⟩ := hW.bills e (List.mem_of_getElem? he)
      have HBL := Lib.hid hblk
      have hkl : (k : Int) < (L.length : Int) := by omega
      have own1 := hown
      have hlen : (billCells (L.take k)).length = k * 8 := hown.out.1
      have HLEN := Lib.hid hlen
      clear he ht hh hp hm hl hblk hW hlen hbge
      go_wp2_with (first
        | (refine wpList_load_row rfl 58 (.tmp 24) rfl e.1 rfl 58 #[.string e.2.hash, .string e.2.pre, .int .i64 e.2.amt, .int .i64 e.2.stamp, .int .i64 e.2.exp, .int .i64 e.2.delta, .string e.2.memo, .bool e.2.paid] (0, 0) _ HBL.out Tryd.underlying58 rfl info58 ?_)
        | (at_builtin; refine wpList_append_lies _ rfl _ _ _ rfl w.heap.size 58 i0 _ 8 88 Tryd.underlying77 hi0 hz0 hz1 hz2 rfl (by omega) (.slice a0 k c0) k (billCells (L.take k)) rfl (World.ownsRow.alloc own1.out _) ⟨wr.heap.size, 0, none⟩ 1 1 e.2.cells rfl rfl (World.news_of_block (cs := #[.string e.2.hash, .string e.2.pre, .int .i64 e.2.amt, .int .i64 e.2.stamp, .int .i64 e.2.exp, .int .i64 e.2.delta, .string e.2.memo, .bool e.2.paid]) (t := 58) (fr := (0, 0)) (heap_alloc_at wr _)) (by simp [Bil.cells, Value.oneCell']) (by omega) (by unfold maxLen; omega) (by omega) (by simp; omega) (wr.heap.size + 1) (by simp) ?_; intro g2 cap2 w7 hown7 hgrow7 hat7 hlt7; have HG7 := Lib.hid hgrow7; have HO7 := Lib.hid hown7; clear hgrow7 hown7 hat7))
      go_roundw
      case rel =>
        refine ⟨k + 1, _, _, by omega, by go_num, rfl, ?_, ?_⟩
        · rw [HCT.out]; exact HO7.out
        · exact (hB.out.alloc hBs _).grown HG7.out (by simp; omega) (fun g hg => (own1.out.lt g hg).1)
      case measure => simp [intOf]; omega
    · obtain rfl : k = L.length := by omega
      go_wp2_with fail
      go_ret
      refine ⟨_, rfl, ?_, hB.out⟩
      have := hown.out
      rw [List.take_length] at this
      exact this
end Go.Proofs.YtnaodgljdbkmnaaDoor
