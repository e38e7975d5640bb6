import Derived.BigRegion
import Derived.Deep.RegionHeld3
import Derived.StillTailTactics
import Derived.Lib.ParseIntB
import Derived.Lib.Bytealg
import Derived.Lib.ItoaNum
import Derived.Lib.ParseIntBCases
import Derived.Shelf.Strings.Builder1
import Derived.Shelf.Small.Bits
import Derived.Shelf.Small.Strs
import Derived.Shelf.Small.Wraps
import Derived.Shelf.Strings.BuilderF
import Derived.Shelf.Strings.BuilderK
import Derived.Shelf.Strconv.Itoa0
import Derived.Shelf.Strconv.Itoa1
import Derived.Shelf.LaysM
import Derived.Shelf.Strconv.Itoa2
import Derived.Shelf.Strconv.Itoa3
import Derived.Shelf.Strconv.Itoa4
import Derived.Shelf.Strconv.ParseIntEmpty
import Derived.Shelf.Strconv.Clone
import Derived.Shelf.Strconv.SyntaxError
import Derived.Shelf.LaysC
import Derived.Shelf.Strconv.ToError
import Derived.Shelf.Strconv.Lower
import Derived.Shelf.Strconv.ParseUint10
import Derived.Shelf.Strconv.ParseUint10Empty
import Derived.Shelf.Strconv.ParseUint10Any
import Derived.Shelf.Strconv.ParseInt10
import Derived.Shelf.Strconv.RangeError
import Derived.Shelf.Strconv.ToErrorRange
import Derived.Shelf.Strconv.ParseUintEmpty
import Derived.Shelf.Strconv.ParseUint10b64
import Derived.Shelf.Strconv.ParseUint10b32
import Derived.Shelf.Strconv.ParseUint10b16
import Derived.Shelf.Strconv.ParseUint10b8
import Derived.Shelf.Strconv.ParseUint10At
import Derived.Shelf.Strconv.ParseInt10At64
import Derived.Shelf.Strconv.ParseInt10At32
import Derived.Shelf.Strconv.ParseInt10At16
import Derived.Shelf.Strconv.ParseInt10At8
import Derived.Shelf.Strconv.ParseInt10All
import Derived.Shelf.Strconv.ParseIntPublic10
import Derived.Shelf.Strconv.ErrVarParseInt
import Derived.Shelf.Strings.Search1
import Derived.Shelf.Bits.Mul64
import Derived.Shelf.Strings.BuilderCap
import Derived.Ground.Names2Prog
import Derived.Shelf.Slices.Clone
import Derived.Shelf.Slices.SearchI
import Derived.Ground.SlgnProg
import Derived.Shelf.SlicesE.Clone
import Derived.WalkKit
import Derived.WalkSpells
import Derived.WalkLawsBesides
import Derived.Handy
import Derived.Lib.Hide
import Derived.Deep.QuietTactic
import Derived.BigQuiet
import Derived.Lib.Strings
import Derived.Lib.IndexBytes
import Derived.Deep.RegionLaw
import Derived.Deep.AppendLies
import Derived.Deep.LoopGhost
import Derived.Deep.Onto
import Derived.Deep.WholeRow
import Derived.Deep.CutRange
import Derived.Laws.CopyOwn
import Derived.Lib.ItoaLen
import Derived.Lib.AppendIntMem
import Derived.Deep.CutBlock
import Derived.Deep.MidRow
import Derived.Deep.RegionHeld
import Derived.Outline
import Derived.Laws.Tables
import Derived.Laws.MakeOwn
import Derived.Laws.OwnMore
import Derived.WalkMore
import Derived.MapKept
import Derived.Carry
import Derived.Test.YtbdimlppnhcicaaGreatDoorRows
import Derived.Test.YtbdimlppnhcicaaGreatDoorProg
import Derived.Test.YtbdimlppnhcicaaGreatDoorNu
import Derived.Test.YtbdimlppnhcicaaGreatDoorTa
import Derived.Test.YtbdimlppnhcicaaGreatDoorRg
import Derived.Test.YtbdimlppnhcicaaGreatDoorBa
import Derived.Test.YtbdimlppnhcicaaGreatDoorO
import Derived.Test.YtbdimlppnhcicaaGreatDoorRefI
import Derived.Test.YtbdimlppnhcicaaGreatDoorVa
import Derived.Test.YtbdimlppnhcicaaGreatDoorWg
import Derived.Test.YtbdimlppnhcicaaGreatDoorSo
import Derived.Test.YtbdimlppnhcicaaGreatDoorOnA
import Derived.Test.YtbdimlppnhcicaaGreatDoorOb
import Derived.Test.YtbdimlppnhcicaaGreatDoorOe
import Derived.Test.YtbdimlppnhcicaaGreatDoorMny
import Derived.Test.YtbdimlppnhcicaaGreatDoorRo1
import Derived.Test.YtbdimlppnhcicaaGreatDoorOf
import Derived.Test.YtbdimlppnhcicaaGreatDoorOh
import Derived.Test.YtbdimlppnhcicaaGreatDoorOj
import Derived.Test.YtbdimlppnhcicaaGreatDoorRo2
import Derived.Test.YtbdimlppnhcicaaGreatDoorRo3
import Derived.Test.YtbdimlppnhcicaaGreatDoorRo4
import Derived.Test.YtbdimlppnhcicaaGreatDoorRo5
import Derived.Test.YtbdimlppnhcicaaGreatDoorRo7
import Derived.Test.YtbdimlppnhcicaaGreatDoorRo6
import Derived.Test.YtbdimlppnhcicaaGreatDoorRo8
import Derived.Test.YtbdimlppnhcicaaGreatDoorRtZ
namespace Go.Proofs.YtbdimlppnhcicaaGreatDoor
set_option linter.unusedVariables false
open Go.RowKit Rte
/-! route: the document's edge -/
def metI (E : List Edg) (bad : List ByteArray) (i : Nat) : List ByteArray := ((E.take i).map (·.chan)).reverse ++ bad
theorem edgeGo_next {E : List Edg} {bad : List ByteArray} {c : ByteArray} {i : Nat} {e : Edg} (he : E[i]? = some e) : edgeGo (metI E bad i) (E.drop i) c = if e.chan = c ∧ countsB E bad i = true then some e else edgeGo (metI E bad (i + 1)) (E.drop (i + 1)) c := by
  have hlt : i < E.length := (List.getElem?_eq_some_iff.1 he).1
  have hd : E.drop i = e :: E.drop (i + 1) := by rw [List.drop_eq_getElem_cons hlt]; congr 1; exact (List.getElem?_eq_some_iff.1 he).2
  have hm : metI E bad (i + 1) = e.chan :: metI E bad i := by unfold metI; rw [List.take_add_one, he]; simp
  have hc : (countsB E bad i = true) ↔ ¬ (e.chan ∈ metI E bad i ∨ e.a = e.b) := by
    unfold countsB metI
    rw [he]
    dsimp only
    rw [Bool.and_eq_true, Bool.and_eq_true, decide_eq_true_iff, decide_eq_true_iff, decide_eq_true_iff, List.mem_append, List.mem_reverse]
    constructor
    · rintro ⟨⟨h1, h2⟩, h3⟩ ((h | h) | h)
      · exact h1 h
      · exact h2 h
      · exact h3 h
    · intro h
      exact ⟨⟨fun k => h (.inl (.inl k)), fun k => h (.inl (.inr k))⟩, fun k => h (.inr k)⟩
  rw [hd, edgeGo, hm]
  by_cases h1 : e.chan = c
  · by_cases h2 : countsB E bad i = true
    · rw [if_pos ⟨h1, hc.1 h2⟩, if_pos ⟨h1, h2⟩]
    · rw [if_neg (fun k => h2 (hc.2 k.2)), if_neg (fun k => h2 k.2)]
  · rw [if_neg (fun k => h1 k.1), if_neg (fun k => h1 k.1)]
def edgZ : Edg := ⟨⟨#[]⟩, ⟨#[]⟩, ⟨#[]⟩, 0⟩
def edgR (o : Option Edg) : Edg := match o with | none => edgZ | some e => e
def edgOk (o : Option Edg) (f t : ByteArray) : Bool := match o with | none => false | some e => decide (e.a = f ∧ e.b = t ∨ e.b = f ∧ e.a = t)
theorem leadsR_eq (E : List Edg) (bad : List ByteArray) (a : ByteArray) (h : Hp) : leadsR E bad a h = (edgOk (edgeGo bad E h.chan) a h.node && decide (0 ≤ h.amt) && decide (h.amt ≤ (edgR (edgeGo bad E h.chan)).cap * 1000)) := by
  unfold leadsR edgOk edgR
  cases edgeGo bad E h.chan with
  | none => rfl
  | some e =>
    dsimp only
    rw [Bool.eq_iff_iff, Bool.and_eq_true, Bool.and_eq_true, decide_eq_true_iff, decide_eq_true_iff, decide_eq_true_iff, decide_eq_true_iff]
    exact ⟨fun h => ⟨⟨h.1, h.2.1⟩, h.2.2⟩, fun h => ⟨h.1.1, h.1.2, h.2⟩⟩
def EdgePost (o : Option Edg) (f t : ByteArray) (w : World) (e : Ending) (w' : World) : Prop := e = .returned (.tuple #[edgV (edgR o), .bool (edgOk o f t)]) ∧ Below w.heap.size w w'
set_option maxRecDepth 100000 in
set_option maxHeartbeats 8000000 in
theorem edge_any (oe : Option Addr) (E : List Edg) (ce : Nat) (ob : Option Addr) (bad : List ByteArray) (cb : Nat) (c f t : ByteArray) (w : World) (hE : RowsAt 4 edgC oe E w) (hB : StrsAt ob bad w) (hn : E.length ≤ 1000) (hb : bad.length ≤ 1000) :
    Calls Tryz.prog 88 #[.slice oe E.length ce, .slice ob bad.length cb, .string c, .string f, .string t] w (EdgePost (edgeGo bad E c) f t w) := by
  have HEE := Lib.hid hE
  have HN := Lib.hid hn
  have HCT := Lib.hid (fun W (h : Below w.heap.size w W) (i : Nat) (hi : i < E.length) => counts_any oe E ce i ob bad cb W hi (hE.below h) (by
    rcases hB with k | ⟨b, off, k1, k2⟩
    · exact .inl k
    · exact .inr ⟨b, off, k1, fun i s hi => cell_later' h (k2 i s hi)⟩) hn hb)
  obtain ⟨r, hr⟩ : ∃ r, edgeGo bad E c = r := ⟨_, rfl⟩
  rw [hr]
  have HR : Hid (edgeGo (metI E bad 0) (E.drop 0) c = r) := by
    show _ = _
    rw [← hr]; rfl
  clear hE hB hn hb hr
  go_enter Tryz.func88, Tryz.ntmps88
  go_wp2_with fail
  go_loopw [12] (fun iv wr => ∃ i : Nat, i ≤ E.length ∧ iv = .int .i64 i ∧ Hid (edgeGo (metI E bad i) (E.drop i) c = r) ∧ Hid (Below w.heap.size w wr) ∧ Hid (wr.heap[w.heap.size]? = some (.cells #[.string ⟨#[]⟩, .string ⟨#[]⟩, .string ⟨#[]⟩, .int .i64 0] 51 (0, 0)))) (fun iv _ => E.length - (intOf iv).toNat)
  case atStart => exact ⟨0, Nat.zero_le _, rfl, HR.out, below_new' _ _, heap_alloc_at _ _⟩
  case round =>
    clear HR
    obtain ⟨i, hi, rfl, hT, hB, hK⟩ := hrel
    have hi2 := HN.out
    by_cases hlt : i < E.length
    · obtain ⟨e, he⟩ : ∃ e, E[i]? = some e := ⟨_, List.getElem?_eq_getElem hlt⟩
      have hnx := edgeGo_next (bad := bad) (c := c) he
      rw [hT.out] at hnx
      have HNX := Lib.hid hnx
      obtain ⟨eb, eo, rfl, hc⟩ := rows_at HEE.out he
      have hii : (i : Int) < (E.length : Int) := by omega
      have hii2 : (E.length : Int) ≤ 1000 := by omega
      have z0 : wr.cell? ⟨eb, eo + i * 4, none⟩ = some (.string e.chan) := cell_later' hB.out (hc 0 _ rfl)
      have z1 : wr.cell? ⟨eb, eo + i * 4 + 1, none⟩ = some (.string e.a) := cell_later' hB.out (hc 1 _ rfl)
      have z2 : wr.cell? ⟨eb, eo + i * 4 + 2, none⟩ = some (.string e.b) := cell_later' hB.out (hc 2 _ rfl)
      have z3 : wr.cell? ⟨eb, eo + i * 4 + 3, none⟩ = some (.int .i64 e.cap) := cell_later' hB.out (hc 3 _ rfl)
      have B5 : Hid (Below w.heap.size w (wr.alloc (.cells #[.string e.chan, .string e.a, .string e.b, .int .i64 e.cap] 51))) := btr hB.out (below_new' _ _)
      have K5 : Hid ((wr.alloc (.cells #[.string e.chan, .string e.a, .string e.b, .int .i64 e.cap] 51)).heap[w.heap.size]? = some (.cells #[.string ⟨#[]⟩, .string ⟨#[]⟩, .string ⟨#[]⟩, .int .i64 0] 51 (0, 0))) := ((below_new' wr _).block _ (lt_of_heap hK.out)).trans hK.out
      have X5 : Hid ((wr.alloc (.cells #[.string e.chan, .string e.a, .string e.b, .int .i64 e.cap] 51)).heap[wr.heap.size]? = some (.cells #[.string e.chan, .string e.a, .string e.b, .int .i64 e.cap] 51 (0, 0))) := heap_alloc_at _ _
      have XNE : Hid (w.heap.size < wr.heap.size) := lt_of_heap hK.out
      have HILT := Lib.hid hlt
      clear hc he hnx hT hi hi2 hB hK
      go_upto_region 5 with fail
      clear z0 z1 z2 z3
      generalize (wr.alloc (.cells #[.string e.chan, .string e.a, .string e.b, .int .i64 e.cap] 51)) = w5 at B5 K5 X5 ⊢
      generalize wr.heap.size = xb at X5 XNE ⊢
      obtain ⟨z0, z1, z2, z3, zl⟩ := cells4 X5.out
      by_cases hch : e.chan = c
      · have q0 : e.chan.toList = c.toList := by rw [hch]
        cases hcb : countsB E bad i with
        | false =>
          have HCF := Lib.hid (HCT.out w5 B5.out i HILT.out)
          rw [hcb] at HCF
          have HT2 : Hid (edgeGo (metI E bad (i + 1)) (E.drop (i + 1)) c = r) := by
            show _ = _
            rw [HNX.out, if_neg (fun h => by rw [hcb] at h; cases h.2)]
          clear hcb hch
          go_wp2_with ((go_at_call 82; (with_reducible refine Calls.mono HCF.out ?_); rintro e6 w6 ⟨rfl, hb6⟩; have B6 := Lib.hid (btr B5.out hb6); have K6 := Lib.hid ((hb6.block _ (lt_of_heap K5.out)).trans K5.out); clear hb6))
          go_roundw
          case rel => exact ⟨i + 1, HILT.out, by rw [Int.natCast_succ], HT2.out, B6.out, K6.out⟩
          case measure => have := HILT.out; simp only [intOf]; omega
        | true =>
          have HCF := Lib.hid (HCT.out w5 B5.out i HILT.out)
          rw [hcb] at HCF
          have hrs : r = some e := by rw [HNX.out, if_pos ⟨hch, hcb⟩]
          subst hrs
          clear hcb hch
          go_wp2_with ((go_at_call 82; (with_reducible refine Calls.mono HCF.out ?_); rintro e6 w6 ⟨rfl, hb6⟩; have B6 := Lib.hid (btr B5.out hb6); have K6 := Lib.hid ((hb6.block _ (lt_of_heap K5.out)).trans K5.out); have X6 := Lib.hid ((hb6.block _ (lt_of_heap X5.out)).trans X5.out); clear hb6))
          clear z0 z1 z2 z3 zl
          obtain ⟨z0, z1, z2, z3, zl⟩ := cells4 X6.out
          obtain ⟨k0, k1, k2, k3, kl⟩ := cells4 K6.out
          have f0 := froz9 K6.out 0; have f1 := froz9 K6.out 1; have f2 := froz9 K6.out 2; have f3 := froz9 K6.out 3
          have hne : xb ≠ w.heap.size := by have := XNE.out; omega
          have hne2 := hne.symm
          by_cases h1 : e.a = f
          · by_cases h2 : e.b = t
            · have q1 : e.a.toList = f.toList := by rw [h1]
              have q2 : e.b.toList = t.toList := by rw [h2]
              have HV : Hid (edgOk (some e) f t = true) := by show decide _ = true; exact decide_eq_true (.inl ⟨h1, h2⟩)
              clear h1 h2
              go_region
              go_wp2_with fail
              have HR9 : ((((w6.setCell ⟨w.heap.size, 0, none⟩ (.string e.chan)).setCell ⟨w.heap.size, 1, none⟩ (.string e.a)).setCell ⟨w.heap.size, 2, none⟩ (.string e.b)).setCell ⟨w.heap.size, 3, none⟩ (.int .i64 e.cap)).heap[w.heap.size]? = some (.cells #[.string e.chan, .string e.a, .string e.b, .int .i64 e.cap] 51 (0, 0)) := row4_set K6.out
              have HB9 : Below w.heap.size w ((((w6.setCell ⟨w.heap.size, 0, none⟩ (.string e.chan)).setCell ⟨w.heap.size, 1, none⟩ (.string e.a)).setCell ⟨w.heap.size, 2, none⟩ (.string e.b)).setCell ⟨w.heap.size, 3, none⟩ (.int .i64 e.cap)) := below_fr B6.out fr4_set (Nat.le_refl _) (by omega)
              clear z0 z1 z2 z3 k0 k1 k2 k3 f0 f1 f2 f3
              generalize ((((w6.setCell ⟨w.heap.size, 0, none⟩ (.string e.chan)).setCell ⟨w.heap.size, 1, none⟩ (.string e.a)).setCell ⟨w.heap.size, 2, none⟩ (.string e.b)).setCell ⟨w.heap.size, 3, none⟩ (.int .i64 e.cap)) = w9 at HR9 HB9 ⊢
              have hl := run_loadVar_row (P := Tryz.prog) w9.drew w.heap.size 51 51 #[.string e.chan, .string e.a, .string e.b, .int .i64 e.cap] (0, 0) _ HR9 Tryz.underlying51 rfl (by kernel_rfl)
              exact bodyPost_ret (results_cell_tmp Tryz.results88 _ _ _ rfl hl) rfl ⟨by rw [HV.out]; rfl, HB9.drew⟩
            · by_cases h3 : e.b = f
              · by_cases h4 : e.a = t
                · exact absurd (h3.trans (h1.symm.trans h4)) h2
                · have q1 : e.a.toList = f.toList := by rw [h1]
                  have q2 := toList_ne h2
                  have q3 : e.b.toList = f.toList := by rw [h3]
                  have q4 := toList_ne h4
                  have q5 := toList_ne (show f ≠ t from fun k => h2 (h3.trans k))
                  have HV : Hid (edgOk (some e) f t = false) := by show decide _ = false; exact decide_eq_false (fun h => h.elim (fun k => h2 k.2) (fun k => h4 k.2))
                  clear h1 h2 h3 h4
                  go_region
                  go_wp2_with fail
                  have HR9 : ((((w6.setCell ⟨w.heap.size, 0, none⟩ (.string e.chan)).setCell ⟨w.heap.size, 1, none⟩ (.string e.a)).setCell ⟨w.heap.size, 2, none⟩ (.string e.b)).setCell ⟨w.heap.size, 3, none⟩ (.int .i64 e.cap)).heap[w.heap.size]? = some (.cells #[.string e.chan, .string e.a, .string e.b, .int .i64 e.cap] 51 (0, 0)) := row4_set K6.out
                  have HB9 : Below w.heap.size w ((((w6.setCell ⟨w.heap.size, 0, none⟩ (.string e.chan)).setCell ⟨w.heap.size, 1, none⟩ (.string e.a)).setCell ⟨w.heap.size, 2, none⟩ (.string e.b)).setCell ⟨w.heap.size, 3, none⟩ (.int .i64 e.cap)) := below_fr B6.out fr4_set (Nat.le_refl _) (by omega)
                  clear z0 z1 z2 z3 k0 k1 k2 k3 f0 f1 f2 f3
                  generalize ((((w6.setCell ⟨w.heap.size, 0, none⟩ (.string e.chan)).setCell ⟨w.heap.size, 1, none⟩ (.string e.a)).setCell ⟨w.heap.size, 2, none⟩ (.string e.b)).setCell ⟨w.heap.size, 3, none⟩ (.int .i64 e.cap)) = w9 at HR9 HB9 ⊢
                  have hl := run_loadVar_row (P := Tryz.prog) w9.drew w.heap.size 51 51 #[.string e.chan, .string e.a, .string e.b, .int .i64 e.cap] (0, 0) _ HR9 Tryz.underlying51 rfl (by kernel_rfl)
                  exact bodyPost_ret (results_cell_tmp Tryz.results88 _ _ _ rfl hl) rfl ⟨by rw [HV.out]; rfl, HB9.drew⟩
              · have q1 : e.a.toList = f.toList := by rw [h1]
                have q2 := toList_ne h2
                have q3 := toList_ne h3
                have HV : Hid (edgOk (some e) f t = false) := by show decide _ = false; exact decide_eq_false (fun h => h.elim (fun k => h2 k.2) (fun k => h3 k.1))
                clear h1 h2 h3
                go_region
                go_wp2_with fail
                have HR9 : ((((w6.setCell ⟨w.heap.size, 0, none⟩ (.string e.chan)).setCell ⟨w.heap.size, 1, none⟩ (.string e.a)).setCell ⟨w.heap.size, 2, none⟩ (.string e.b)).setCell ⟨w.heap.size, 3, none⟩ (.int .i64 e.cap)).heap[w.heap.size]? = some (.cells #[.string e.chan, .string e.a, .string e.b, .int .i64 e.cap] 51 (0, 0)) := row4_set K6.out
                have HB9 : Below w.heap.size w ((((w6.setCell ⟨w.heap.size, 0, none⟩ (.string e.chan)).setCell ⟨w.heap.size, 1, none⟩ (.string e.a)).setCell ⟨w.heap.size, 2, none⟩ (.string e.b)).setCell ⟨w.heap.size, 3, none⟩ (.int .i64 e.cap)) := below_fr B6.out fr4_set (Nat.le_refl _) (by omega)
                clear z0 z1 z2 z3 k0 k1 k2 k3 f0 f1 f2 f3
                generalize ((((w6.setCell ⟨w.heap.size, 0, none⟩ (.string e.chan)).setCell ⟨w.heap.size, 1, none⟩ (.string e.a)).setCell ⟨w.heap.size, 2, none⟩ (.string e.b)).setCell ⟨w.heap.size, 3, none⟩ (.int .i64 e.cap)) = w9 at HR9 HB9 ⊢
                have hl := run_loadVar_row (P := Tryz.prog) w9.drew w.heap.size 51 51 #[.string e.chan, .string e.a, .string e.b, .int .i64 e.cap] (0, 0) _ HR9 Tryz.underlying51 rfl (by kernel_rfl)
                exact bodyPost_ret (results_cell_tmp Tryz.results88 _ _ _ rfl hl) rfl ⟨by rw [HV.out]; rfl, HB9.drew⟩
          · by_cases h3 : e.b = f
            · by_cases h4 : e.a = t
              · have q1 := toList_ne h1
                have q3 : e.b.toList = f.toList := by rw [h3]
                have q4 : e.a.toList = t.toList := by rw [h4]
                have q6 := toList_ne (show t ≠ f from fun k => h1 (h4.trans k))
                have HV : Hid (edgOk (some e) f t = true) := by show decide _ = true; exact decide_eq_true (.inr ⟨h3, h4⟩)
                clear h1 h3 h4
                go_region
                go_wp2_with fail
                have HR9 : ((((w6.setCell ⟨w.heap.size, 0, none⟩ (.string e.chan)).setCell ⟨w.heap.size, 1, none⟩ (.string e.a)).setCell ⟨w.heap.size, 2, none⟩ (.string e.b)).setCell ⟨w.heap.size, 3, none⟩ (.int .i64 e.cap)).heap[w.heap.size]? = some (.cells #[.string e.chan, .string e.a, .string e.b, .int .i64 e.cap] 51 (0, 0)) := row4_set K6.out
                have HB9 : Below w.heap.size w ((((w6.setCell ⟨w.heap.size, 0, none⟩ (.string e.chan)).setCell ⟨w.heap.size, 1, none⟩ (.string e.a)).setCell ⟨w.heap.size, 2, none⟩ (.string e.b)).setCell ⟨w.heap.size, 3, none⟩ (.int .i64 e.cap)) := below_fr B6.out fr4_set (Nat.le_refl _) (by omega)
                clear z0 z1 z2 z3 k0 k1 k2 k3 f0 f1 f2 f3
                generalize ((((w6.setCell ⟨w.heap.size, 0, none⟩ (.string e.chan)).setCell ⟨w.heap.size, 1, none⟩ (.string e.a)).setCell ⟨w.heap.size, 2, none⟩ (.string e.b)).setCell ⟨w.heap.size, 3, none⟩ (.int .i64 e.cap)) = w9 at HR9 HB9 ⊢
                have hl := run_loadVar_row (P := Tryz.prog) w9.drew w.heap.size 51 51 #[.string e.chan, .string e.a, .string e.b, .int .i64 e.cap] (0, 0) _ HR9 Tryz.underlying51 rfl (by kernel_rfl)
                exact bodyPost_ret (results_cell_tmp Tryz.results88 _ _ _ rfl hl) rfl ⟨by rw [HV.out]; rfl, HB9.drew⟩
              · have q1 := toList_ne h1
                have q3 : e.b.toList = f.toList := by rw [h3]
                have q4 := toList_ne h4
                have HV : Hid (edgOk (some e) f t = false) := by show decide _ = false; exact decide_eq_false (fun h => h.elim (fun k => h1 k.1) (fun k => h4 k.2))
                clear h1 h3 h4
                go_region
                go_wp2_with fail
                have HR9 : ((((w6.setCell ⟨w.heap.size, 0, none⟩ (.string e.chan)).setCell ⟨w.heap.size, 1, none⟩ (.string e.a)).setCell ⟨w.heap.size, 2, none⟩ (.string e.b)).setCell ⟨w.heap.size, 3, none⟩ (.int .i64 e.cap)).heap[w.heap.size]? = some (.cells #[.string e.chan, .string e.a, .string e.b, .int .i64 e.cap] 51 (0, 0)) := row4_set K6.out
                have HB9 : Below w.heap.size w ((((w6.setCell ⟨w.heap.size, 0, none⟩ (.string e.chan)).setCell ⟨w.heap.size, 1, none⟩ (.string e.a)).setCell ⟨w.heap.size, 2, none⟩ (.string e.b)).setCell ⟨w.heap.size, 3, none⟩ (.int .i64 e.cap)) := below_fr B6.out fr4_set (Nat.le_refl _) (by omega)
                clear z0 z1 z2 z3 k0 k1 k2 k3 f0 f1 f2 f3
                generalize ((((w6.setCell ⟨w.heap.size, 0, none⟩ (.string e.chan)).setCell ⟨w.heap.size, 1, none⟩ (.string e.a)).setCell ⟨w.heap.size, 2, none⟩ (.string e.b)).setCell ⟨w.heap.size, 3, none⟩ (.int .i64 e.cap)) = w9 at HR9 HB9 ⊢
                have hl := run_loadVar_row (P := Tryz.prog) w9.drew w.heap.size 51 51 #[.string e.chan, .string e.a, .string e.b, .int .i64 e.cap] (0, 0) _ HR9 Tryz.underlying51 rfl (by kernel_rfl)
                exact bodyPost_ret (results_cell_tmp Tryz.results88 _ _ _ rfl hl) rfl ⟨by rw [HV.out]; rfl, HB9.drew⟩
            · have q1 := toList_ne h1
              have q3 := toList_ne h3
              have HV : Hid (edgOk (some e) f t = false) := by show decide _ = false; exact decide_eq_false (fun h => h.elim (fun k => h1 k.1) (fun k => h3 k.1))
              clear h1 h3
              go_region
              go_wp2_with fail
              have HR9 : ((((w6.setCell ⟨w.heap.size, 0, none⟩ (.string e.chan)).setCell ⟨w.heap.size, 1, none⟩ (.string e.a)).setCell ⟨w.heap.size, 2, none⟩ (.string e.b)).setCell ⟨w.heap.size, 3, none⟩ (.int .i64 e.cap)).heap[w.heap.size]? = some (.cells #[.string e.chan, .string e.a, .string e.b, .int .i64 e.cap] 51 (0, 0)) := row4_set K6.out
              have HB9 : Below w.heap.size w ((((w6.setCell ⟨w.heap.size, 0, none⟩ (.string e.chan)).setCell ⟨w.heap.size, 1, none⟩ (.string e.a)).setCell ⟨w.heap.size, 2, none⟩ (.string e.b)).setCell ⟨w.heap.size, 3, none⟩ (.int .i64 e.cap)) := below_fr B6.out fr4_set (Nat.le_refl _) (by omega)
              clear z0 z1 z2 z3 k0 k1 k2 k3 f0 f1 f2 f3
              generalize ((((w6.setCell ⟨w.heap.size, 0, none⟩ (.string e.chan)).setCell ⟨w.heap.size, 1, none⟩ (.string e.a)).setCell ⟨w.heap.size, 2, none⟩ (.string e.b)).setCell ⟨w.heap.size, 3, none⟩ (.int .i64 e.cap)) = w9 at HR9 HB9 ⊢
              have hl := run_loadVar_row (P := Tryz.prog) w9.drew w.heap.size 51 51 #[.string e.chan, .string e.a, .string e.b, .int .i64 e.cap] (0, 0) _ HR9 Tryz.underlying51 rfl (by kernel_rfl)
              exact bodyPost_ret (results_cell_tmp Tryz.results88 _ _ _ rfl hl) rfl ⟨by rw [HV.out]; rfl, HB9.drew⟩
      · have q0 := toList_ne hch
        have HT2 : Hid (edgeGo (metI E bad (i + 1)) (E.drop (i + 1)) c = r) := by
          show _ = _
          rw [HNX.out, if_neg (fun h => hch h.1)]
        clear hch
        go_wp2_with fail
        go_roundw
        case rel => exact ⟨i + 1, HILT.out, by rw [Int.natCast_succ], HT2.out, B5.out, K5.out⟩
        case measure => have := HILT.out; simp only [intOf]; omega
    · obtain rfl : i = E.length := by omega
      have hrs : r = none := by
        have := hT.out
        rw [List.drop_length] at this
        exact this.symm
      subst hrs
      clear hi hi2 hlt hT
      go_wp2_with (with_reducible refine wpList_store_row rfl 51 (.tmp 10) (.tmp 57) rfl w.heap.size #[.string ⟨#[]⟩, .string ⟨#[]⟩, .string ⟨#[]⟩, .int .i64 0] rfl rfl 51 _ hK.out (by kernel_rfl) rfl (by simp [Value.oneCell']) ?_)
      have hl := run_loadVar_row (P := Tryz.prog) (wr.setRow w.heap.size #[.string ⟨#[]⟩, .string ⟨#[]⟩, .string ⟨#[]⟩, .int .i64 0]) w.heap.size 51 51 #[.string ⟨#[]⟩, .string ⟨#[]⟩, .string ⟨#[]⟩, .int .i64 0] (0, 0) _ (setRow_heap wr w.heap.size _ _ 51 _ hK.out) Tryz.underlying51 rfl (by kernel_rfl)
      refine bodyPost_ret (results_cell_tmp Tryz.results88 _ _ _ rfl hl) rfl ⟨rfl, below_setRow hB.out (Nat.le_refl _) _⟩
end Go.Proofs.YtbdimlppnhcicaaGreatDoor
namespace Go.Proofs.YtbdimlppnhcicaaGreatDoor
set_option linter.unusedVariables false
open Go.RowKit Rte
/-! route: the document's asked -/
def askB (p : Plc) (ok : Bool) (o : Option Int) (h g : Hp) : Bool := ok && (match o with | none => false | some x => decide (p.min ≤ g.amt ∧ g.amt ≤ p.max ∧ h.amt = x ∧ (0 ≤ g.exp ∧ g.exp < 2147483648) ∧ h.exp = g.exp + p.delta))
theorem asked_pol (P : List Plc) (h g : Hp) : askedR P h g = askB (polR P g.chan h.node).1 (polR P g.chan h.node).2 (Mny.grossO g.amt (polR P g.chan h.node).1.base (polR P g.chan h.node).1.rate) h g := by
  rw [Bool.eq_iff_iff, asked_iff]
  unfold polR askB
  cases hp : polOf P g.chan h.node with
  | none => simp [polT]
  | some p =>
    show _ ↔ ((!p.off) && _) = true
    cases hg : Mny.grossO g.amt p.base p.rate with
    | none =>
      rw [show (polT (some p)).1 = p from rfl, hg]
      simp
      intro _ h1
      rw [hg] at h1; cases h1
    | some x =>
      rw [show (polT (some p)).1 = p from rfl, hg]
      dsimp only
      rw [Bool.and_eq_true, decide_eq_true_iff]
      constructor
      · rintro ⟨q, e, k1, k2, k3, k4, k5, k6⟩
        cases e
        rw [hg] at k2
        cases k2
        rw [time_iff] at k5
        exact ⟨by rw [k1]; rfl, k3, k4, rfl, k5, k6⟩
      · rintro ⟨k1, k3, k4, k2, k5, k6⟩
        refine ⟨p, rfl, ?_, ?_, k3, k4, (time_iff _).2 k5, k6⟩
        · cases ho : p.off with
          | false => rfl
          | true => rw [ho] at k1; cases k1
        · rw [hg, k2]
set_option maxRecDepth 100000 in
set_option maxHeartbeats 16000000 in
theorem asked_any (op : Option Addr) (P : List Plc) (cp : Nat) (h g : Hp) (w : World) (hP : RowsAt 9 plcC op P w) (hpl : ∀ p ∈ P, PlcOk p) (hn : P.length ≤ 1000) :
    Calls Tryz.prog 89 #[.slice op P.length cp, .agg #[.string h.chan, .string h.node, .int .i64 h.amt, .int .i64 h.exp], .agg #[.string g.chan, .string g.node, .int .i64 g.amt, .int .i64 g.exp]] w fun e w' => e = .returned (.bool (askedR P h g)) ∧ Below w.heap.size w w' := by
  obtain ⟨hc, hnd, ha, hx⟩ := h
  obtain ⟨gc, gn, ga, gx⟩ := g
  dsimp only
  obtain ⟨out, hout⟩ : ∃ o, askedR P ⟨hc, hnd, ha, hx⟩ ⟨gc, gn, ga, gx⟩ = o := ⟨_, rfl⟩
  rw [hout]
  have hao := asked_pol P ⟨hc, hnd, ha, hx⟩ ⟨gc, gn, ga, gx⟩
  rw [hout] at hao
  dsimp only at hao
  obtain ⟨p, pok, hpp⟩ : ∃ p b, polR P gc hnd = (p, b) := ⟨_, _, rfl⟩
  rw [hpp] at hao
  dsimp only at hao
  have HPOL := Lib.hid (fun (W : World) (k : Below w.heap.size w W) => policy_any op P cp gc hnd W (hP.below k) hn)
  rw [hpp] at HPOL
  have HPD : Hid (pok = true → 0 ≤ p.delta ∧ p.delta < 2147483648) := fun hpk => by
    unfold polR polT at hpp
    cases hpo : polOf P gc hnd with
    | none => rw [hpo] at hpp; have h2 : pok = false := (congrArg Prod.snd hpp).symm; rw [hpk] at h2; cases h2
    | some q =>
      rw [hpo] at hpp
      have h2 : q = p := congrArg Prod.fst hpp
      have h3 := hpl q (pol_mem hpo)
      rw [h2] at h3
      exact ⟨h3.d0, h3.d1⟩
  have HAO := Lib.hid hao
  clear hout hao hpp hP hpl hn
  obtain ⟨pc, pf, ps, pb, pr, pd, pmn, pmx, po⟩ := p
  unfold plcV at HPOL
  dsimp only at HPOL HAO HPD
  have hb2 : Below w.heap.size w ((w.alloc (.cells #[.string hc, .string hnd, .int .i64 ha, .int .i64 hx] 49)).alloc (.cells #[.string gc, .string gn, .int .i64 ga, .int .i64 gx] 49)) := ((Below.refl _ _).alloc (Nat.le_refl _) _).alloc (by simp) _
  have HB2 := Lib.hid hb2
  have hk1 : ((w.alloc (.cells #[.string hc, .string hnd, .int .i64 ha, .int .i64 hx] 49)).alloc (.cells #[.string gc, .string gn, .int .i64 ga, .int .i64 gx] 49)).heap[w.heap.size]? = some (.cells #[.string hc, .string hnd, .int .i64 ha, .int .i64 hx] 49 (0, 0)) := (heap_alloc_old _ _ (by simp)).trans (heap_alloc_at w _)
  have hk2 : ((w.alloc (.cells #[.string hc, .string hnd, .int .i64 ha, .int .i64 hx] 49)).alloc (.cells #[.string gc, .string gn, .int .i64 ga, .int .i64 gx] 49)).heap[w.heap.size + 1]? = some (.cells #[.string gc, .string gn, .int .i64 ga, .int .i64 gx] 49 (0, 0)) := by
    have := heap_alloc_at (w.alloc (.cells #[.string hc, .string hnd, .int .i64 ha, .int .i64 hx] 49)) (.cells #[.string gc, .string gn, .int .i64 ga, .int .i64 gx] 49)
    simpa using this
  have HK1 := Lib.hid hk1
  have HK2 := Lib.hid hk2
  clear hb2 hk1 hk2
  have HG := Lib.hid (fun W => Mny.grossr_any ga pb pr W)
  obtain ⟨o, ho⟩ : ∃ o, Mny.grossO ga pb pr = o := ⟨_, rfl⟩
  rw [ho] at HAO HG
  clear ho
  cases pok with
  | false =>
    have hv : out = false := HAO.out
    subst hv
    clear HAO HPD
    cases o with
    | none =>
      go_enter Tryz.func89, Tryz.ntmps89
      obtain ⟨a0, a1, a2, a3, al⟩ := cells4 HK1.out
      obtain ⟨c0, c1, c2, c3, cl⟩ := cells4 HK2.out
      go_wp2_with (first
        | (go_at_call 142; (with_reducible refine Calls.mono (HPOL.out _ HB2.out) ?_); rintro e w4 ⟨rfl, hb4⟩; have B5 := Lib.hid (btr HB2.out (btr hb4 (below_new' w4 (.cells #[.string pc, .string pf, .int .i64 ps, .int .i64 pb, .int .i64 pr, .int .i64 pd, .int .i64 pmn, .int .i64 pmx, .bool po] 53)))); have HK1' : Hid ((w4.alloc (.cells #[.string pc, .string pf, .int .i64 ps, .int .i64 pb, .int .i64 pr, .int .i64 pd, .int .i64 pmn, .int .i64 pmx, .bool po] 53)).heap[w.heap.size]? = some (.cells #[.string hc, .string hnd, .int .i64 ha, .int .i64 hx] 49 (0, 0))) := ((btr hb4 (below_new' w4 (.cells #[.string pc, .string pf, .int .i64 ps, .int .i64 pb, .int .i64 pr, .int .i64 pd, .int .i64 pmn, .int .i64 pmx, .bool po] 53))).block _ (lt_of_heap HK1.out)).trans HK1.out; have HK2' : Hid ((w4.alloc (.cells #[.string pc, .string pf, .int .i64 ps, .int .i64 pb, .int .i64 pr, .int .i64 pd, .int .i64 pmn, .int .i64 pmx, .bool po] 53)).heap[w.heap.size + 1]? = some (.cells #[.string gc, .string gn, .int .i64 ga, .int .i64 gx] 49 (0, 0))) := ((btr hb4 (below_new' w4 (.cells #[.string pc, .string pf, .int .i64 ps, .int .i64 pb, .int .i64 pr, .int .i64 pd, .int .i64 pmn, .int .i64 pmx, .bool po] 53))).block _ (lt_of_heap HK2.out)).trans HK2.out; have HK3' : Hid ((w4.alloc (.cells #[.string pc, .string pf, .int .i64 ps, .int .i64 pb, .int .i64 pr, .int .i64 pd, .int .i64 pmn, .int .i64 pmx, .bool po] 53)).heap[w4.heap.size]? = some (.cells #[.string pc, .string pf, .int .i64 ps, .int .i64 pb, .int .i64 pr, .int .i64 pd, .int .i64 pmn, .int .i64 pmx, .bool po] 53 (0, 0))) := heap_alloc_at _ _; obtain ⟨b0, b1, b2, b3, bl⟩ := cells4 HK2'.out; clear hb4)
        | (go_at_call 143; (with_reducible refine Calls.mono (HG.out _) ?_); rintro e w6 hh; obtain ⟨rfl, hb6⟩ := Mny.opt_none hh rfl; have B6 := Lib.hid (btr B5.out hb6); obtain ⟨m0, m1, m2, m3, ml⟩ := cells4 ((hb6.block _ (lt_of_heap HK1'.out)).trans HK1'.out); obtain ⟨n0, n1, n2, n3, nl⟩ := cells4 ((hb6.block _ (lt_of_heap HK2'.out)).trans HK2'.out); obtain ⟨q0, q1, q2, q3, q4, q5, q6, q7, q8⟩ := cells9 ((hb6.block _ (lt_of_heap HK3'.out)).trans HK3'.out); clear hh hb6))
      go_ret
      exact ⟨rfl, by repeat (first | exact B6.out | exact B5.out | refine bdN ?_ _ | refine Below.drew ?_)⟩
    | some x =>
      go_enter Tryz.func89, Tryz.ntmps89
      obtain ⟨a0, a1, a2, a3, al⟩ := cells4 HK1.out
      obtain ⟨c0, c1, c2, c3, cl⟩ := cells4 HK2.out
      go_wp2_with (first
        | (go_at_call 142; (with_reducible refine Calls.mono (HPOL.out _ HB2.out) ?_); rintro e w4 ⟨rfl, hb4⟩; have B5 := Lib.hid (btr HB2.out (btr hb4 (below_new' w4 (.cells #[.string pc, .string pf, .int .i64 ps, .int .i64 pb, .int .i64 pr, .int .i64 pd, .int .i64 pmn, .int .i64 pmx, .bool po] 53)))); have HK1' : Hid ((w4.alloc (.cells #[.string pc, .string pf, .int .i64 ps, .int .i64 pb, .int .i64 pr, .int .i64 pd, .int .i64 pmn, .int .i64 pmx, .bool po] 53)).heap[w.heap.size]? = some (.cells #[.string hc, .string hnd, .int .i64 ha, .int .i64 hx] 49 (0, 0))) := ((btr hb4 (below_new' w4 (.cells #[.string pc, .string pf, .int .i64 ps, .int .i64 pb, .int .i64 pr, .int .i64 pd, .int .i64 pmn, .int .i64 pmx, .bool po] 53))).block _ (lt_of_heap HK1.out)).trans HK1.out; have HK2' : Hid ((w4.alloc (.cells #[.string pc, .string pf, .int .i64 ps, .int .i64 pb, .int .i64 pr, .int .i64 pd, .int .i64 pmn, .int .i64 pmx, .bool po] 53)).heap[w.heap.size + 1]? = some (.cells #[.string gc, .string gn, .int .i64 ga, .int .i64 gx] 49 (0, 0))) := ((btr hb4 (below_new' w4 (.cells #[.string pc, .string pf, .int .i64 ps, .int .i64 pb, .int .i64 pr, .int .i64 pd, .int .i64 pmn, .int .i64 pmx, .bool po] 53))).block _ (lt_of_heap HK2.out)).trans HK2.out; have HK3' : Hid ((w4.alloc (.cells #[.string pc, .string pf, .int .i64 ps, .int .i64 pb, .int .i64 pr, .int .i64 pd, .int .i64 pmn, .int .i64 pmx, .bool po] 53)).heap[w4.heap.size]? = some (.cells #[.string pc, .string pf, .int .i64 ps, .int .i64 pb, .int .i64 pr, .int .i64 pd, .int .i64 pmn, .int .i64 pmx, .bool po] 53 (0, 0))) := heap_alloc_at _ _; obtain ⟨b0, b1, b2, b3, bl⟩ := cells4 HK2'.out; clear hb4)
        | (go_at_call 143; (with_reducible refine Calls.mono (HG.out _) ?_); rintro e w6 hh; obtain ⟨rfl, hb6⟩ := Mny.opt_some hh rfl; have B6 := Lib.hid (btr B5.out hb6); obtain ⟨m0, m1, m2, m3, ml⟩ := cells4 ((hb6.block _ (lt_of_heap HK1'.out)).trans HK1'.out); obtain ⟨n0, n1, n2, n3, nl⟩ := cells4 ((hb6.block _ (lt_of_heap HK2'.out)).trans HK2'.out); obtain ⟨q0, q1, q2, q3, q4, q5, q6, q7, q8⟩ := cells9 ((hb6.block _ (lt_of_heap HK3'.out)).trans HK3'.out); clear hh hb6))
      go_ret
      exact ⟨rfl, by repeat (first | exact B6.out | exact B5.out | refine bdN ?_ _ | refine Below.drew ?_)⟩
  | true =>
    cases o with
    | none =>
      have hv : out = false := HAO.out
      subst hv
      clear HAO HPD
      go_enter Tryz.func89, Tryz.ntmps89
      obtain ⟨a0, a1, a2, a3, al⟩ := cells4 HK1.out
      obtain ⟨c0, c1, c2, c3, cl⟩ := cells4 HK2.out
      go_wp2_with (first
        | (go_at_call 142; (with_reducible refine Calls.mono (HPOL.out _ HB2.out) ?_); rintro e w4 ⟨rfl, hb4⟩; have B5 := Lib.hid (btr HB2.out (btr hb4 (below_new' w4 (.cells #[.string pc, .string pf, .int .i64 ps, .int .i64 pb, .int .i64 pr, .int .i64 pd, .int .i64 pmn, .int .i64 pmx, .bool po] 53)))); have HK1' : Hid ((w4.alloc (.cells #[.string pc, .string pf, .int .i64 ps, .int .i64 pb, .int .i64 pr, .int .i64 pd, .int .i64 pmn, .int .i64 pmx, .bool po] 53)).heap[w.heap.size]? = some (.cells #[.string hc, .string hnd, .int .i64 ha, .int .i64 hx] 49 (0, 0))) := ((btr hb4 (below_new' w4 (.cells #[.string pc, .string pf, .int .i64 ps, .int .i64 pb, .int .i64 pr, .int .i64 pd, .int .i64 pmn, .int .i64 pmx, .bool po] 53))).block _ (lt_of_heap HK1.out)).trans HK1.out; have HK2' : Hid ((w4.alloc (.cells #[.string pc, .string pf, .int .i64 ps, .int .i64 pb, .int .i64 pr, .int .i64 pd, .int .i64 pmn, .int .i64 pmx, .bool po] 53)).heap[w.heap.size + 1]? = some (.cells #[.string gc, .string gn, .int .i64 ga, .int .i64 gx] 49 (0, 0))) := ((btr hb4 (below_new' w4 (.cells #[.string pc, .string pf, .int .i64 ps, .int .i64 pb, .int .i64 pr, .int .i64 pd, .int .i64 pmn, .int .i64 pmx, .bool po] 53))).block _ (lt_of_heap HK2.out)).trans HK2.out; have HK3' : Hid ((w4.alloc (.cells #[.string pc, .string pf, .int .i64 ps, .int .i64 pb, .int .i64 pr, .int .i64 pd, .int .i64 pmn, .int .i64 pmx, .bool po] 53)).heap[w4.heap.size]? = some (.cells #[.string pc, .string pf, .int .i64 ps, .int .i64 pb, .int .i64 pr, .int .i64 pd, .int .i64 pmn, .int .i64 pmx, .bool po] 53 (0, 0))) := heap_alloc_at _ _; obtain ⟨b0, b1, b2, b3, bl⟩ := cells4 HK2'.out; clear hb4)
        | (go_at_call 143; (with_reducible refine Calls.mono (HG.out _) ?_); rintro e w6 hh; obtain ⟨rfl, hb6⟩ := Mny.opt_none hh rfl; have B6 := Lib.hid (btr B5.out hb6); obtain ⟨m0, m1, m2, m3, ml⟩ := cells4 ((hb6.block _ (lt_of_heap HK1'.out)).trans HK1'.out); obtain ⟨n0, n1, n2, n3, nl⟩ := cells4 ((hb6.block _ (lt_of_heap HK2'.out)).trans HK2'.out); obtain ⟨q0, q1, q2, q3, q4, q5, q6, q7, q8⟩ := cells9 ((hb6.block _ (lt_of_heap HK3'.out)).trans HK3'.out); clear hh hb6))
      go_ret
      exact ⟨rfl, by repeat (first | exact B6.out | exact B5.out | refine bdN ?_ _ | refine Below.drew ?_)⟩
    | some x =>
      by_cases g1 : pmn ≤ ga
      · have d1 : decide (pmn ≤ ga) = true := decide_eq_true g1
        by_cases g2 : ga ≤ pmx
        · have d2 : decide (ga ≤ pmx) = true := decide_eq_true g2
          by_cases g3 : ha = x
          · have d3 : (ha == x) = true := by simp [g3]
            by_cases g4 : 0 ≤ gx
            · have d4 : decide (0 ≤ gx) = true := decide_eq_true g4
              by_cases g5 : gx < 2147483648
              · have d5 : decide (gx < 2147483648) = true := decide_eq_true g5
                have hsum : wrap64 (gx + pd) = gx + pd := by obtain ⟨u0, u1⟩ := HPD.out rfl; unfold wrap64; omega
                by_cases g6 : hx = gx + pd
                · have d6 : (hx == gx + pd) = true := by simp [g6]
                  have hv : out = true := by rw [HAO.out]; exact decide_eq_true ⟨g1, g2, g3, ⟨g4, g5⟩, g6⟩
                  subst hv
                  clear g1 g2 g3 g4 g5 g6 HAO HPD
                  go_enter Tryz.func89, Tryz.ntmps89
                  obtain ⟨a0, a1, a2, a3, al⟩ := cells4 HK1.out
                  obtain ⟨c0, c1, c2, c3, cl⟩ := cells4 HK2.out
                  go_wp2_with (first
                    | (go_at_call 142; (with_reducible refine Calls.mono (HPOL.out _ HB2.out) ?_); rintro e w4 ⟨rfl, hb4⟩; have B5 := Lib.hid (btr HB2.out (btr hb4 (below_new' w4 (.cells #[.string pc, .string pf, .int .i64 ps, .int .i64 pb, .int .i64 pr, .int .i64 pd, .int .i64 pmn, .int .i64 pmx, .bool po] 53)))); have HK1' : Hid ((w4.alloc (.cells #[.string pc, .string pf, .int .i64 ps, .int .i64 pb, .int .i64 pr, .int .i64 pd, .int .i64 pmn, .int .i64 pmx, .bool po] 53)).heap[w.heap.size]? = some (.cells #[.string hc, .string hnd, .int .i64 ha, .int .i64 hx] 49 (0, 0))) := ((btr hb4 (below_new' w4 (.cells #[.string pc, .string pf, .int .i64 ps, .int .i64 pb, .int .i64 pr, .int .i64 pd, .int .i64 pmn, .int .i64 pmx, .bool po] 53))).block _ (lt_of_heap HK1.out)).trans HK1.out; have HK2' : Hid ((w4.alloc (.cells #[.string pc, .string pf, .int .i64 ps, .int .i64 pb, .int .i64 pr, .int .i64 pd, .int .i64 pmn, .int .i64 pmx, .bool po] 53)).heap[w.heap.size + 1]? = some (.cells #[.string gc, .string gn, .int .i64 ga, .int .i64 gx] 49 (0, 0))) := ((btr hb4 (below_new' w4 (.cells #[.string pc, .string pf, .int .i64 ps, .int .i64 pb, .int .i64 pr, .int .i64 pd, .int .i64 pmn, .int .i64 pmx, .bool po] 53))).block _ (lt_of_heap HK2.out)).trans HK2.out; have HK3' : Hid ((w4.alloc (.cells #[.string pc, .string pf, .int .i64 ps, .int .i64 pb, .int .i64 pr, .int .i64 pd, .int .i64 pmn, .int .i64 pmx, .bool po] 53)).heap[w4.heap.size]? = some (.cells #[.string pc, .string pf, .int .i64 ps, .int .i64 pb, .int .i64 pr, .int .i64 pd, .int .i64 pmn, .int .i64 pmx, .bool po] 53 (0, 0))) := heap_alloc_at _ _; obtain ⟨b0, b1, b2, b3, bl⟩ := cells4 HK2'.out; clear hb4)
                    | (go_at_call 143; (with_reducible refine Calls.mono (HG.out _) ?_); rintro e w6 hh; obtain ⟨rfl, hb6⟩ := Mny.opt_some hh rfl; have B6 := Lib.hid (btr B5.out hb6); obtain ⟨m0, m1, m2, m3, ml⟩ := cells4 ((hb6.block _ (lt_of_heap HK1'.out)).trans HK1'.out); obtain ⟨n0, n1, n2, n3, nl⟩ := cells4 ((hb6.block _ (lt_of_heap HK2'.out)).trans HK2'.out); obtain ⟨q0, q1, q2, q3, q4, q5, q6, q7, q8⟩ := cells9 ((hb6.block _ (lt_of_heap HK3'.out)).trans HK3'.out); clear hh hb6))
                  go_ret
                  exact ⟨rfl, by repeat (first | exact B6.out | exact B5.out | refine bdN ?_ _ | refine Below.drew ?_)⟩
                · have d6 : (hx == gx + pd) = false := by simp [g6]
                  have hv : out = false := by rw [HAO.out]; exact decide_eq_false (fun h => g6 h.2.2.2.2)
                  subst hv
                  clear g1 g2 g3 g4 g5 g6 HAO HPD
                  go_enter Tryz.func89, Tryz.ntmps89
                  obtain ⟨a0, a1, a2, a3, al⟩ := cells4 HK1.out
                  obtain ⟨c0, c1, c2, c3, cl⟩ := cells4 HK2.out
                  go_wp2_with (first
                    | (go_at_call 142; (with_reducible refine Calls.mono (HPOL.out _ HB2.out) ?_); rintro e w4 ⟨rfl, hb4⟩; have B5 := Lib.hid (btr HB2.out (btr hb4 (below_new' w4 (.cells #[.string pc, .string pf, .int .i64 ps, .int .i64 pb, .int .i64 pr, .int .i64 pd, .int .i64 pmn, .int .i64 pmx, .bool po] 53)))); have HK1' : Hid ((w4.alloc (.cells #[.string pc, .string pf, .int .i64 ps, .int .i64 pb, .int .i64 pr, .int .i64 pd, .int .i64 pmn, .int .i64 pmx, .bool po] 53)).heap[w.heap.size]? = some (.cells #[.string hc, .string hnd, .int .i64 ha, .int .i64 hx] 49 (0, 0))) := ((btr hb4 (below_new' w4 (.cells #[.string pc, .string pf, .int .i64 ps, .int .i64 pb, .int .i64 pr, .int .i64 pd, .int .i64 pmn, .int .i64 pmx, .bool po] 53))).block _ (lt_of_heap HK1.out)).trans HK1.out; have HK2' : Hid ((w4.alloc (.cells #[.string pc, .string pf, .int .i64 ps, .int .i64 pb, .int .i64 pr, .int .i64 pd, .int .i64 pmn, .int .i64 pmx, .bool po] 53)).heap[w.heap.size + 1]? = some (.cells #[.string gc, .string gn, .int .i64 ga, .int .i64 gx] 49 (0, 0))) := ((btr hb4 (below_new' w4 (.cells #[.string pc, .string pf, .int .i64 ps, .int .i64 pb, .int .i64 pr, .int .i64 pd, .int .i64 pmn, .int .i64 pmx, .bool po] 53))).block _ (lt_of_heap HK2.out)).trans HK2.out; have HK3' : Hid ((w4.alloc (.cells #[.string pc, .string pf, .int .i64 ps, .int .i64 pb, .int .i64 pr, .int .i64 pd, .int .i64 pmn, .int .i64 pmx, .bool po] 53)).heap[w4.heap.size]? = some (.cells #[.string pc, .string pf, .int .i64 ps, .int .i64 pb, .int .i64 pr, .int .i64 pd, .int .i64 pmn, .int .i64 pmx, .bool po] 53 (0, 0))) := heap_alloc_at _ _; obtain ⟨b0, b1, b2, b3, bl⟩ := cells4 HK2'.out; clear hb4)
                    | (go_at_call 143; (with_reducible refine Calls.mono (HG.out _) ?_); rintro e w6 hh; obtain ⟨rfl, hb6⟩ := Mny.opt_some hh rfl; have B6 := Lib.hid (btr B5.out hb6); obtain ⟨m0, m1, m2, m3, ml⟩ := cells4 ((hb6.block _ (lt_of_heap HK1'.out)).trans HK1'.out); obtain ⟨n0, n1, n2, n3, nl⟩ := cells4 ((hb6.block _ (lt_of_heap HK2'.out)).trans HK2'.out); obtain ⟨q0, q1, q2, q3, q4, q5, q6, q7, q8⟩ := cells9 ((hb6.block _ (lt_of_heap HK3'.out)).trans HK3'.out); clear hh hb6))
                  go_ret
                  exact ⟨rfl, by repeat (first | exact B6.out | exact B5.out | refine bdN ?_ _ | refine Below.drew ?_)⟩
              · have d5 : decide (gx < 2147483648) = false := decide_eq_false g5
                have hv : out = false := by rw [HAO.out]; exact decide_eq_false (fun h => g5 h.2.2.2.1.2)
                subst hv
                clear g1 g2 g3 g4 g5 HAO HPD
                go_enter Tryz.func89, Tryz.ntmps89
                obtain ⟨a0, a1, a2, a3, al⟩ := cells4 HK1.out
                obtain ⟨c0, c1, c2, c3, cl⟩ := cells4 HK2.out
                go_wp2_with (first
                  | (go_at_call 142; (with_reducible refine Calls.mono (HPOL.out _ HB2.out) ?_); rintro e w4 ⟨rfl, hb4⟩; have B5 := Lib.hid (btr HB2.out (btr hb4 (below_new' w4 (.cells #[.string pc, .string pf, .int .i64 ps, .int .i64 pb, .int .i64 pr, .int .i64 pd, .int .i64 pmn, .int .i64 pmx, .bool po] 53)))); have HK1' : Hid ((w4.alloc (.cells #[.string pc, .string pf, .int .i64 ps, .int .i64 pb, .int .i64 pr, .int .i64 pd, .int .i64 pmn, .int .i64 pmx, .bool po] 53)).heap[w.heap.size]? = some (.cells #[.string hc, .string hnd, .int .i64 ha, .int .i64 hx] 49 (0, 0))) := ((btr hb4 (below_new' w4 (.cells #[.string pc, .string pf, .int .i64 ps, .int .i64 pb, .int .i64 pr, .int .i64 pd, .int .i64 pmn, .int .i64 pmx, .bool po] 53))).block _ (lt_of_heap HK1.out)).trans HK1.out; have HK2' : Hid ((w4.alloc (.cells #[.string pc, .string pf, .int .i64 ps, .int .i64 pb, .int .i64 pr, .int .i64 pd, .int .i64 pmn, .int .i64 pmx, .bool po] 53)).heap[w.heap.size + 1]? = some (.cells #[.string gc, .string gn, .int .i64 ga, .int .i64 gx] 49 (0, 0))) := ((btr hb4 (below_new' w4 (.cells #[.string pc, .string pf, .int .i64 ps, .int .i64 pb, .int .i64 pr, .int .i64 pd, .int .i64 pmn, .int .i64 pmx, .bool po] 53))).block _ (lt_of_heap HK2.out)).trans HK2.out; have HK3' : Hid ((w4.alloc (.cells #[.string pc, .string pf, .int .i64 ps, .int .i64 pb, .int .i64 pr, .int .i64 pd, .int .i64 pmn, .int .i64 pmx, .bool po] 53)).heap[w4.heap.size]? = some (.cells #[.string pc, .string pf, .int .i64 ps, .int .i64 pb, .int .i64 pr, .int .i64 pd, .int .i64 pmn, .int .i64 pmx, .bool po] 53 (0, 0))) := heap_alloc_at _ _; obtain ⟨b0, b1, b2, b3, bl⟩ := cells4 HK2'.out; clear hb4)
                  | (go_at_call 143; (with_reducible refine Calls.mono (HG.out _) ?_); rintro e w6 hh; obtain ⟨rfl, hb6⟩ := Mny.opt_some hh rfl; have B6 := Lib.hid (btr B5.out hb6); obtain ⟨m0, m1, m2, m3, ml⟩ := cells4 ((hb6.block _ (lt_of_heap HK1'.out)).trans HK1'.out); obtain ⟨n0, n1, n2, n3, nl⟩ := cells4 ((hb6.block _ (lt_of_heap HK2'.out)).trans HK2'.out); obtain ⟨q0, q1, q2, q3, q4, q5, q6, q7, q8⟩ := cells9 ((hb6.block _ (lt_of_heap HK3'.out)).trans HK3'.out); clear hh hb6))
                go_ret
                exact ⟨rfl, by repeat (first | exact B6.out | exact B5.out | refine bdN ?_ _ | refine Below.drew ?_)⟩
            · have d4 : decide (0 ≤ gx) = false := decide_eq_false g4
              have hv : out = false := by rw [HAO.out]; exact decide_eq_false (fun h => g4 h.2.2.2.1.1)
              subst hv
              clear g1 g2 g3 g4 HAO HPD
              go_enter Tryz.func89, Tryz.ntmps89
              obtain ⟨a0, a1, a2, a3, al⟩ := cells4 HK1.out
              obtain ⟨c0, c1, c2, c3, cl⟩ := cells4 HK2.out
              go_wp2_with (first
                | (go_at_call 142; (with_reducible refine Calls.mono (HPOL.out _ HB2.out) ?_); rintro e w4 ⟨rfl, hb4⟩; have B5 := Lib.hid (btr HB2.out (btr hb4 (below_new' w4 (.cells #[.string pc, .string pf, .int .i64 ps, .int .i64 pb, .int .i64 pr, .int .i64 pd, .int .i64 pmn, .int .i64 pmx, .bool po] 53)))); have HK1' : Hid ((w4.alloc (.cells #[.string pc, .string pf, .int .i64 ps, .int .i64 pb, .int .i64 pr, .int .i64 pd, .int .i64 pmn, .int .i64 pmx, .bool po] 53)).heap[w.heap.size]? = some (.cells #[.string hc, .string hnd, .int .i64 ha, .int .i64 hx] 49 (0, 0))) := ((btr hb4 (below_new' w4 (.cells #[.string pc, .string pf, .int .i64 ps, .int .i64 pb, .int .i64 pr, .int .i64 pd, .int .i64 pmn, .int .i64 pmx, .bool po] 53))).block _ (lt_of_heap HK1.out)).trans HK1.out; have HK2' : Hid ((w4.alloc (.cells #[.string pc, .string pf, .int .i64 ps, .int .i64 pb, .int .i64 pr, .int .i64 pd, .int .i64 pmn, .int .i64 pmx, .bool po] 53)).heap[w.heap.size + 1]? = some (.cells #[.string gc, .string gn, .int .i64 ga, .int .i64 gx] 49 (0, 0))) := ((btr hb4 (below_new' w4 (.cells #[.string pc, .string pf, .int .i64 ps, .int .i64 pb, .int .i64 pr, .int .i64 pd, .int .i64 pmn, .int .i64 pmx, .bool po] 53))).block _ (lt_of_heap HK2.out)).trans HK2.out; have HK3' : Hid ((w4.alloc (.cells #[.string pc, .string pf, .int .i64 ps, .int .i64 pb, .int .i64 pr, .int .i64 pd, .int .i64 pmn, .int .i64 pmx, .bool po] 53)).heap[w4.heap.size]? = some (.cells #[.string pc, .string pf, .int .i64 ps, .int .i64 pb, .int .i64 pr, .int .i64 pd, .int .i64 pmn, .int .i64 pmx, .bool po] 53 (0, 0))) := heap_alloc_at _ _; obtain ⟨b0, b1, b2, b3, bl⟩ := cells4 HK2'.out; clear hb4)
                | (go_at_call 143; (with_reducible refine Calls.mono (HG.out _) ?_); rintro e w6 hh; obtain ⟨rfl, hb6⟩ := Mny.opt_some hh rfl; have B6 := Lib.hid (btr B5.out hb6); obtain ⟨m0, m1, m2, m3, ml⟩ := cells4 ((hb6.block _ (lt_of_heap HK1'.out)).trans HK1'.out); obtain ⟨n0, n1, n2, n3, nl⟩ := cells4 ((hb6.block _ (lt_of_heap HK2'.out)).trans HK2'.out); obtain ⟨q0, q1, q2, q3, q4, q5, q6, q7, q8⟩ := cells9 ((hb6.block _ (lt_of_heap HK3'.out)).trans HK3'.out); clear hh hb6))
              go_ret
              exact ⟨rfl, by repeat (first | exact B6.out | exact B5.out | refine bdN ?_ _ | refine Below.drew ?_)⟩
          · have d3 : (ha == x) = false := by simp [g3]
            have hv : out = false := by rw [HAO.out]; exact decide_eq_false (fun h => g3 h.2.2.1)
            subst hv
            clear g1 g2 g3 HAO HPD
            go_enter Tryz.func89, Tryz.ntmps89
            obtain ⟨a0, a1, a2, a3, al⟩ := cells4 HK1.out
            obtain ⟨c0, c1, c2, c3, cl⟩ := cells4 HK2.out
            go_wp2_with (first
              | (go_at_call 142; (with_reducible refine Calls.mono (HPOL.out _ HB2.out) ?_); rintro e w4 ⟨rfl, hb4⟩; have B5 := Lib.hid (btr HB2.out (btr hb4 (below_new' w4 (.cells #[.string pc, .string pf, .int .i64 ps, .int .i64 pb, .int .i64 pr, .int .i64 pd, .int .i64 pmn, .int .i64 pmx, .bool po] 53)))); have HK1' : Hid ((w4.alloc (.cells #[.string pc, .string pf, .int .i64 ps, .int .i64 pb, .int .i64 pr, .int .i64 pd, .int .i64 pmn, .int .i64 pmx, .bool po] 53)).heap[w.heap.size]? = some (.cells #[.string hc, .string hnd, .int .i64 ha, .int .i64 hx] 49 (0, 0))) := ((btr hb4 (below_new' w4 (.cells #[.string pc, .string pf, .int .i64 ps, .int .i64 pb, .int .i64 pr, .int .i64 pd, .int .i64 pmn, .int .i64 pmx, .bool po] 53))).block _ (lt_of_heap HK1.out)).trans HK1.out; have HK2' : Hid ((w4.alloc (.cells #[.string pc, .string pf, .int .i64 ps, .int .i64 pb, .int .i64 pr, .int .i64 pd, .int .i64 pmn, .int .i64 pmx, .bool po] 53)).heap[w.heap.size + 1]? = some (.cells #[.string gc, .string gn, .int .i64 ga, .int .i64 gx] 49 (0, 0))) := ((btr hb4 (below_new' w4 (.cells #[.string pc, .string pf, .int .i64 ps, .int .i64 pb, .int .i64 pr, .int .i64 pd, .int .i64 pmn, .int .i64 pmx, .bool po] 53))).block _ (lt_of_heap HK2.out)).trans HK2.out; have HK3' : Hid ((w4.alloc (.cells #[.string pc, .string pf, .int .i64 ps, .int .i64 pb, .int .i64 pr, .int .i64 pd, .int .i64 pmn, .int .i64 pmx, .bool po] 53)).heap[w4.heap.size]? = some (.cells #[.string pc, .string pf, .int .i64 ps, .int .i64 pb, .int .i64 pr, .int .i64 pd, .int .i64 pmn, .int .i64 pmx, .bool po] 53 (0, 0))) := heap_alloc_at _ _; obtain ⟨b0, b1, b2, b3, bl⟩ := cells4 HK2'.out; clear hb4)
              | (go_at_call 143; (with_reducible refine Calls.mono (HG.out _) ?_); rintro e w6 hh; obtain ⟨rfl, hb6⟩ := Mny.opt_some hh rfl; have B6 := Lib.hid (btr B5.out hb6); obtain ⟨m0, m1, m2, m3, ml⟩ := cells4 ((hb6.block _ (lt_of_heap HK1'.out)).trans HK1'.out); obtain ⟨n0, n1, n2, n3, nl⟩ := cells4 ((hb6.block _ (lt_of_heap HK2'.out)).trans HK2'.out); obtain ⟨q0, q1, q2, q3, q4, q5, q6, q7, q8⟩ := cells9 ((hb6.block _ (lt_of_heap HK3'.out)).trans HK3'.out); clear hh hb6))
            go_ret
            exact ⟨rfl, by repeat (first | exact B6.out | exact B5.out | refine bdN ?_ _ | refine Below.drew ?_)⟩
        · have d2 : decide (ga ≤ pmx) = false := decide_eq_false g2
          have hv : out = false := by rw [HAO.out]; exact decide_eq_false (fun h => g2 h.2.1)
          subst hv
          clear g1 g2 HAO HPD
          go_enter Tryz.func89, Tryz.ntmps89
          obtain ⟨a0, a1, a2, a3, al⟩ := cells4 HK1.out
          obtain ⟨c0, c1, c2, c3, cl⟩ := cells4 HK2.out
          go_wp2_with (first
            | (go_at_call 142; (with_reducible refine Calls.mono (HPOL.out _ HB2.out) ?_); rintro e w4 ⟨rfl, hb4⟩; have B5 := Lib.hid (btr HB2.out (btr hb4 (below_new' w4 (.cells #[.string pc, .string pf, .int .i64 ps, .int .i64 pb, .int .i64 pr, .int .i64 pd, .int .i64 pmn, .int .i64 pmx, .bool po] 53)))); have HK1' : Hid ((w4.alloc (.cells #[.string pc, .string pf, .int .i64 ps, .int .i64 pb, .int .i64 pr, .int .i64 pd, .int .i64 pmn, .int .i64 pmx, .bool po] 53)).heap[w.heap.size]? = some (.cells #[.string hc, .string hnd, .int .i64 ha, .int .i64 hx] 49 (0, 0))) := ((btr hb4 (below_new' w4 (.cells #[.string pc, .string pf, .int .i64 ps, .int .i64 pb, .int .i64 pr, .int .i64 pd, .int .i64 pmn, .int .i64 pmx, .bool po] 53))).block _ (lt_of_heap HK1.out)).trans HK1.out; have HK2' : Hid ((w4.alloc (.cells #[.string pc, .string pf, .int .i64 ps, .int .i64 pb, .int .i64 pr, .int .i64 pd, .int .i64 pmn, .int .i64 pmx, .bool po] 53)).heap[w.heap.size + 1]? = some (.cells #[.string gc, .string gn, .int .i64 ga, .int .i64 gx] 49 (0, 0))) := ((btr hb4 (below_new' w4 (.cells #[.string pc, .string pf, .int .i64 ps, .int .i64 pb, .int .i64 pr, .int .i64 pd, .int .i64 pmn, .int .i64 pmx, .bool po] 53))).block _ (lt_of_heap HK2.out)).trans HK2.out; have HK3' : Hid ((w4.alloc (.cells #[.string pc, .string pf, .int .i64 ps, .int .i64 pb, .int .i64 pr, .int .i64 pd, .int .i64 pmn, .int .i64 pmx, .bool po] 53)).heap[w4.heap.size]? = some (.cells #[.string pc, .string pf, .int .i64 ps, .int .i64 pb, .int .i64 pr, .int .i64 pd, .int .i64 pmn, .int .i64 pmx, .bool po] 53 (0, 0))) := heap_alloc_at _ _; obtain ⟨b0, b1, b2, b3, bl⟩ := cells4 HK2'.out; clear hb4)
            | (go_at_call 143; (with_reducible refine Calls.mono (HG.out _) ?_); rintro e w6 hh; obtain ⟨rfl, hb6⟩ := Mny.opt_some hh rfl; have B6 := Lib.hid (btr B5.out hb6); obtain ⟨m0, m1, m2, m3, ml⟩ := cells4 ((hb6.block _ (lt_of_heap HK1'.out)).trans HK1'.out); obtain ⟨n0, n1, n2, n3, nl⟩ := cells4 ((hb6.block _ (lt_of_heap HK2'.out)).trans HK2'.out); obtain ⟨q0, q1, q2, q3, q4, q5, q6, q7, q8⟩ := cells9 ((hb6.block _ (lt_of_heap HK3'.out)).trans HK3'.out); clear hh hb6))
          go_ret
          exact ⟨rfl, by repeat (first | exact B6.out | exact B5.out | refine bdN ?_ _ | refine Below.drew ?_)⟩
      · have d1 : decide (pmn ≤ ga) = false := decide_eq_false g1
        have hv : out = false := by rw [HAO.out]; exact decide_eq_false (fun h => g1 h.1)
        subst hv
        clear g1 HAO HPD
        go_enter Tryz.func89, Tryz.ntmps89
        obtain ⟨a0, a1, a2, a3, al⟩ := cells4 HK1.out
        obtain ⟨c0, c1, c2, c3, cl⟩ := cells4 HK2.out
        go_wp2_with (first
          | (go_at_call 142; (with_reducible refine Calls.mono (HPOL.out _ HB2.out) ?_); rintro e w4 ⟨rfl, hb4⟩; have B5 := Lib.hid (btr HB2.out (btr hb4 (below_new' w4 (.cells #[.string pc, .string pf, .int .i64 ps, .int .i64 pb, .int .i64 pr, .int .i64 pd, .int .i64 pmn, .int .i64 pmx, .bool po] 53)))); have HK1' : Hid ((w4.alloc (.cells #[.string pc, .string pf, .int .i64 ps, .int .i64 pb, .int .i64 pr, .int .i64 pd, .int .i64 pmn, .int .i64 pmx, .bool po] 53)).heap[w.heap.size]? = some (.cells #[.string hc, .string hnd, .int .i64 ha, .int .i64 hx] 49 (0, 0))) := ((btr hb4 (below_new' w4 (.cells #[.string pc, .string pf, .int .i64 ps, .int .i64 pb, .int .i64 pr, .int .i64 pd, .int .i64 pmn, .int .i64 pmx, .bool po] 53))).block _ (lt_of_heap HK1.out)).trans HK1.out; have HK2' : Hid ((w4.alloc (.cells #[.string pc, .string pf, .int .i64 ps, .int .i64 pb, .int .i64 pr, .int .i64 pd, .int .i64 pmn, .int .i64 pmx, .bool po] 53)).heap[w.heap.size + 1]? = some (.cells #[.string gc, .string gn, .int .i64 ga, .int .i64 gx] 49 (0, 0))) := ((btr hb4 (below_new' w4 (.cells #[.string pc, .string pf, .int .i64 ps, .int .i64 pb, .int .i64 pr, .int .i64 pd, .int .i64 pmn, .int .i64 pmx, .bool po] 53))).block _ (lt_of_heap HK2.out)).trans HK2.out; have HK3' : Hid ((w4.alloc (.cells #[.string pc, .string pf, .int .i64 ps, .int .i64 pb, .int .i64 pr, .int .i64 pd, .int .i64 pmn, .int .i64 pmx, .bool po] 53)).heap[w4.heap.size]? = some (.cells #[.string pc, .string pf, .int .i64 ps, .int .i64 pb, .int .i64 pr, .int .i64 pd, .int .i64 pmn, .int .i64 pmx, .bool po] 53 (0, 0))) := heap_alloc_at _ _; obtain ⟨b0, b1, b2, b3, bl⟩ := cells4 HK2'.out; clear hb4)
          | (go_at_call 143; (with_reducible refine Calls.mono (HG.out _) ?_); rintro e w6 hh; obtain ⟨rfl, hb6⟩ := Mny.opt_some hh rfl; have B6 := Lib.hid (btr B5.out hb6); obtain ⟨m0, m1, m2, m3, ml⟩ := cells4 ((hb6.block _ (lt_of_heap HK1'.out)).trans HK1'.out); obtain ⟨n0, n1, n2, n3, nl⟩ := cells4 ((hb6.block _ (lt_of_heap HK2'.out)).trans HK2'.out); obtain ⟨q0, q1, q2, q3, q4, q5, q6, q7, q8⟩ := cells9 ((hb6.block _ (lt_of_heap HK3'.out)).trans HK3'.out); clear hh hb6))
        go_ret
        exact ⟨rfl, by repeat (first | exact B6.out | exact B5.out | refine bdN ?_ _ | refine Below.drew ?_)⟩
end Go.Proofs.YtbdimlppnhcicaaGreatDoor
namespace Go.Proofs.YtbdimlppnhcicaaGreatDoor
set_option linter.unusedVariables false
open Go.RowKit Rte
/-! route: the document's Check -/
theorem edgeGo_mem : ∀ {E : List Edg} {met : List ByteArray} {c : ByteArray} {e : Edg}, edgeGo met E c = some e → e ∈ E
  | [], _, _, _, h => by cases h
  | x :: E, met, c, e, h => by
    unfold edgeGo at h
    split at h
    · cases h; exact List.mem_cons_self ..
    · exact List.mem_cons_of_mem _ (edgeGo_mem h)
theorem goR_none {P : List Plc} {E : List Edg} {bad met : List ByteArray} {a : ByteArray} {pr : Option Hp} {h : Hp} {r : List Hp} {res : Option ByteArray} (hg : checkGoR P E bad met a pr (h :: r) = res) (hc : leadsR E bad a h = false ∨ h.node ∈ met ∨ linkR P pr h = false) : res = none := by
  rw [← hg, checkGoR, if_pos hc]
theorem goR_some {P : List Plc} {E : List Edg} {bad met : List ByteArray} {a : ByteArray} {pr : Option Hp} {h : Hp} {r : List Hp} {res : Option ByteArray} (hg : checkGoR P E bad met a pr (h :: r) = res) (h1 : leadsR E bad a h = true) (h2 : h.node ∉ met) (h3 : linkR P pr h = true) : checkGoR P E bad (h.node :: met) h.node (some h) r = res := by
  rw [← hg, checkGoR, if_neg]
  rintro (e | e | e)
  · rw [h1] at e; cases e
  · exact h2 e
  · rw [h3] at e; cases e
theorem keep3c {w W : World} {b o0 c r0 r1 : Nat} {u0 v0 v1 : Value} (hb : Below w.heap.size w W) (h : w.cell? ⟨b, o0, none⟩ = some u0 ∧ w.cell? ⟨c, r0, none⟩ = some v0 ∧ w.cell? ⟨c, r1, none⟩ = some v1) :
    Below w.heap.size w W ∧ W.cell? ⟨b, o0, none⟩ = some u0 ∧ W.cell? ⟨c, r0, none⟩ = some v0 ∧ W.cell? ⟨c, r1, none⟩ = some v1 :=
  ⟨hb, cell_later hb h.1, cell_later hb h.2.1, cell_later hb h.2.2⟩
/-- while hops are gone through -/
structure DkS (w : World) (ask : Array Value) (K : List ByteArray) (mv : Value) (W : World) : Prop where
  bel : Below w.heap.size w W
  box : W.heap[w.heap.size]? = some (.cells ask 45 (0, 0))
  own : W.ownsRow (w.heap.size + 1) 23 1 mv K.length (K.map Value.string)
theorem DkS.next {w : World} {ask : Array Value} {K : List ByteArray} {mv : Value} {W W' : World} (h : DkS w ask K mv W) (hb : Below W.heap.size W W') : DkS w ask K mv W' :=
  ⟨btr h.bel hb, (hb.block _ (lt_of_heap h.box)).trans h.box, own_below h.own hb⟩
theorem own_cellS {W : World} {B k : Nat} {mo : Option Addr} {n mc : Nat} {K : List ByteArray} {s : ByteArray} (h : W.ownsRow B 23 1 (.slice mo n mc) K.length (K.map Value.string)) (hs : K[k]? = some s) : n = K.length ∧ ∃ b, mo = some ⟨b, 0, none⟩ ∧ W.cell? ⟨b, k, none⟩ = some (.string s) := by
  rcases h.2 with ⟨e, h0⟩ | ⟨g, cap, cur, e, _, h3, _, _, _, h4⟩
  · rw [List.length_eq_zero_iff.1 h0] at hs; simp at hs
  · cases e
    refine ⟨rfl, g, rfl, ?_⟩
    have hx : (K.map Value.string)[k]? = some (.string s) := by rw [List.getElem?_map, hs]; rfl
    rw [← h4, List.getElem?_take] at hx
    split at hx
    · simp only [World.cell?, h3]
      simpa using hx
    · cases hx
theorem loadsR_cap {E : List Edg} {bad : List ByteArray} {a : ByteArray} {h : Hp} (hc : ∀ e ∈ E, 0 ≤ e.cap ∧ e.cap ≤ 2100000000000000) (hl : leadsR E bad a h = true) : 0 ≤ h.amt ∧ h.amt ≤ 2100000000000000000 := by
  rw [← leads_edge] at hl
  exact leads_cap (ways_cap (Q := fun c => 0 ≤ c ∧ c ≤ 2100000000000000) E _ hc) hl
set_option maxRecDepth 100000 in
set_option maxHeartbeats 8000000 in
theorem dcheck_no (oe : Option Addr) (E : List Edg) (ce : Nat) (op : Option Addr) (P : List Plc) (cp : Nat) (A : AskR) (ob : Option Addr) (cb : Nat) (ol : Option Addr) (l : List Hp) (cl : Nat) (w : World) (hs1 : A.frm.size ≤ maxLen) (hs2 : A.dst.size ≤ maxLen)
    (hE : RowsAt 4 edgC oe E w) (hP : RowsAt 9 plcC op P w) (h0 : refusedN isKey E P A ≠ 0) : Calls Tryz.prog 25 #[.slice oe E.length ce, .slice op P.length cp, askV A ob cb, .slice ol l.length cl] w (CheckPost (checkN isKey E P A l) w) := by
  have hf : checkN isKey E P A l = (false, refusedN isKey E P A) := by unfold checkN; rw [if_pos h0]
  rw [hf]
  have HN := Lib.hid (fun W (h : Below w.heap.size w W) => refused_any oe E ce op P cp A ob cb W hs1 hs2 (hE.below h) (hP.below h))
  obtain ⟨af, ad, aa, ax, al, ae, bad⟩ := A
  unfold askV at HN ⊢
  dsimp only at HN ⊢
  obtain ⟨c, hc⟩ : ∃ c, refusedN isKey E P ⟨af, ad, aa, ax, al, ae, bad⟩ = c := ⟨_, rfl⟩
  rw [hc] at h0 HN ⊢
  have e1 : (c != 0) = true := by simpa using h0
  clear hc h0 hf hE hP hs1 hs2
  go_enter Tryz.func25, Tryz.ntmps25
  go_wp2_with ((go_at_call 81; (with_reducible refine Calls.mono (HN.out _ (below_new' _ _)) ?_); rintro e w1 ⟨rfl, hb1⟩; have B1 : Hid (Below w.heap.size w w1) := btr (below_new' _ _) hb1; clear hb1))
  go_ret2
  exact ⟨rfl, B1.out⟩
set_option maxRecDepth 100000 in
set_option maxHeartbeats 8000000 in
theorem dcheck_len (oe : Option Addr) (E : List Edg) (ce : Nat) (op : Option Addr) (P : List Plc) (cp : Nat) (A : AskR) (ob : Option Addr) (cb : Nat) (ol : Option Addr) (l : List Hp) (cl : Nat) (w : World) (hs1 : A.frm.size ≤ maxLen) (hs2 : A.dst.size ≤ maxLen)
    (hE : RowsAt 4 edgC oe E w) (hP : RowsAt 9 plcC op P w) (h0 : refusedN isKey E P A = 0) (hlen : l.length = 0 ∨ 20 < l.length) : Calls Tryz.prog 25 #[.slice oe E.length ce, .slice op P.length cp, askV A ob cb, .slice ol l.length cl] w (CheckPost (checkN isKey E P A l) w) := by
  have hf : checkN isKey E P A l = (false, 0) := by unfold checkN; rw [if_neg (by rw [h0]; decide), if_pos hlen]
  rw [hf]
  have HN := Lib.hid (fun W (h : Below w.heap.size w W) => refused_any oe E ce op P cp A ob cb W hs1 hs2 (hE.below h) (hP.below h))
  rw [h0] at HN
  obtain ⟨af, ad, aa, ax, al, ae, bad⟩ := A
  unfold askV at HN ⊢
  dsimp only at HN ⊢
  obtain ⟨n, hn⟩ : ∃ n : Nat, l.length = n := ⟨_, rfl⟩
  have hlen' : n = 0 ∨ 20 < n := by omega
  rw [hn]
  clear h0 hf hE hP hs1 hs2 hlen hn
  rcases hlen' with rfl | hlen'
  · go_enter Tryz.func25, Tryz.ntmps25
    go_wp2_with ((go_at_call 81; (with_reducible refine Calls.mono (HN.out _ (below_new' _ _)) ?_); rintro e w1 ⟨rfl, hb1⟩; have B1 : Hid (Below w.heap.size w w1) := btr (below_new' _ _) hb1; clear hb1))
    go_ret2
    exact ⟨rfl, B1.out⟩
  · have e1 : decide ((n : Int) < 1) = false := decide_eq_false (by omega)
    have e2 : decide ((20 : Int) < (n : Int)) = true := decide_eq_true (by omega)
    clear hlen'
    go_enter Tryz.func25, Tryz.ntmps25
    go_wp2_with ((go_at_call 81; (with_reducible refine Calls.mono (HN.out _ (below_new' _ _)) ?_); rintro e w1 ⟨rfl, hb1⟩; have B1 : Hid (Below w.heap.size w w1) := btr (below_new' _ _) hb1; clear hb1))
    go_ret2
    exact ⟨rfl, B1.out⟩
set_option maxRecDepth 100000 in
set_option maxHeartbeats 16000000 in
theorem dcheck_yes (oe : Option Addr) (E : List Edg) (ce : Nat) (op : Option Addr) (P : List Plc) (cp : Nat) (A : AskR) (ob : Option Addr) (cb : Nat) (ol : Option Addr) (l : List Hp) (cl : Nat) (w : World) (hs1 : A.frm.size ≤ maxLen) (hs2 : A.dst.size ≤ maxLen)
    (hE : RowsAt 4 edgC oe E w) (hP : RowsAt 9 plcC op P w) (hB : StrsAt ob A.bad w) (hl : RowsAt 4 hpC ol l w) (h0 : refusedN isKey E P A = 0) (hl0 : l.length ≠ 0) (hl1 : l.length ≤ 20) : Calls Tryz.prog 25 #[.slice oe E.length ce, .slice op P.length cp, askV A ob cb, .slice ol l.length cl] w (CheckPost (checkN isKey E P A l) w) := by
  have hfi := fine_of h0
  have hf : checkN isKey E P A l = (endsB A l (checkGoR P E A.bad [A.frm] A.frm none l), 0) := by
    unfold checkN; rw [if_neg (by rw [h0]; decide), if_neg (by omega), ends_same (fun p hp => (hfi.plc p hp).d0) ((time_iff _).2 ⟨hfi.ask.e0, hfi.ask.e1⟩) ((time_iff _).2 ⟨hfi.ask.l0, hfi.ask.l1⟩)]
  rw [hf]
  have HN := Lib.hid (fun W (h : Below w.heap.size w W) => refused_any oe E ce op P cp A ob cb W hs1 hs2 (hE.below h) (hP.below h))
  rw [h0] at HN
  have HFi := Lib.hid hfi
  have HED := Lib.hid (fun W (h : Below w.heap.size w W) (c f t : ByteArray) => edge_any oe E ce ob A.bad cb c f t W (hE.below h) (by
    rcases hB with k | ⟨b, off, k1, k2⟩
    · exact .inl k
    · exact .inr ⟨b, off, k1, fun i s hi => cell_later' h (k2 i s hi)⟩) (by have := hfi.el; omega) (by have := hfi.bl; omega))
  have HAS := Lib.hid (fun W (h : Below w.heap.size w W) (g k : Hp) => asked_any op P cp g k W (hP.below h) hfi.plc (by have := hfi.pl; omega))
  obtain ⟨res, hres⟩ : ∃ o, checkGoR P E A.bad [A.frm] A.frm none l = o := ⟨_, rfl⟩
  rw [hres]
  have HRES := Lib.hid hres
  have HLL := Lib.hid hl
  have HL0 := Lib.hid hl0
  have HL1 := Lib.hid hl1
  have e1 : decide ((l.length : Int) < 1) = false := decide_eq_false (by omega)
  have e2 : decide ((20 : Int) < (l.length : Int)) = false := decide_eq_false (by omega)
  clear h0 hf hfi hE hP hB hs1 hs2 hres hl hl0 hl1
  unfold askV at HN ⊢
  obtain ⟨bl, hbl⟩ : ∃ n, A.bad.length = n := ⟨_, rfl⟩
  rw [hbl] at HN HED ⊢
  clear hbl
  go_enter Tryz.func25, Tryz.ntmps25
  go_wp2_with ((go_at_call 81; (with_reducible refine Calls.mono (HN.out _ (below_new' _ _)) ?_); rintro e w1 ⟨rfl, hb1⟩; have B1 : Hid (Below w.heap.size w w1) := btr (below_new' _ _) hb1; have K1 : Hid (w1.heap[w.heap.size]? = some (.cells (askC A ob bl cb) 45 (0, 0))) := (hb1.block _ (by simp)).trans (heap_alloc_at _ _); obtain ⟨a0, a1, a2, a3, a4, a5, a6, al⟩ := ask_at45 K1.out; clear hb1))
  have HD : Hid (DkS w (askC A ob bl cb) [A.frm] (.slice (some ⟨w1.heap.size, 0, none⟩) 1 1) (w1.alloc (.cells #[.string A.frm] 23))) := ⟨btr B1.out (below_new' _ _), ((below_new' w1 _).block _ (lt_of_heap K1.out)).trans K1.out, own_fresh (cs := #[.string A.frm]) (heap_alloc_at _ _) (by have := lt_of_heap K1.out; omega) (by unfold maxLen; omega) rfl⟩
  clear a0 a1 a2 a3 a4 a5 a6 al K1 B1 HN e1 e2
  generalize (w1.alloc (.cells #[.string A.frm] 23)) = w2 at HD ⊢
  generalize w1.heap.size = mb at HD ⊢
  clear w1
  go_loopw [13, 11, 12] (fun iv av mv wr => ∃ (i : Nat) (a : ByteArray) (met K : List ByteArray), i ≤ l.length ∧ iv = .int .i64 i ∧ av = .string a ∧ Hid (DkS w (askC A ob bl cb) K mv wr) ∧ Hid (checkGoR P E A.bad met a (prevH l i) (l.drop i) = res) ∧ Hid (∀ t, t ∈ K ↔ t ∈ met) ∧ Hid (K.length ≤ i + 1) ∧ Hid (∀ g, prevH l i = some g → g.node = a)) (fun iv _ _ _ => l.length - (intOf iv).toNat)
  case atStart => exact ⟨0, A.frm, [A.frm], [A.frm], Nat.zero_le _, rfl, rfl, HD.out, HRES.out, fun t => Iff.rfl, Nat.le_refl _, fun g h => by cases h⟩
  case round =>
    clear HD
    obtain ⟨i, a, met, K, hi, rfl, rfl, hS, hG, hKM, hKL, hPA⟩ := hrel
    obtain ⟨mo, mc, rfl⟩ := own_slice hS.out.own
    obtain ⟨a0, a1, a2, a3, a4, a5, a6, al⟩ := ask_at45 hS.out.box
    by_cases hlt : i < l.length
    · obtain ⟨⟨hch, hnd, ham, hex⟩, hh⟩ : ∃ h, l[i]? = some h := ⟨_, List.getElem?_eq_getElem hlt⟩
      obtain ⟨pb, po, rfl, hc⟩ := rows_at HLL.out hh
      have hdr : l.drop i = ⟨hch, hnd, ham, hex⟩ :: l.drop (i + 1) := by rw [List.drop_eq_getElem_cons hlt]; congr 1; rw [List.getElem?_eq_getElem hlt] at hh; exact Option.some.inj hh
      rw [hdr] at hG
      have HZ0 : Hid (w.cell? ⟨pb, po + i * 4, none⟩ = some (.string hch)) := hc 0 _ rfl
      have HZ1 : Hid (w.cell? ⟨pb, po + i * 4 + 1, none⟩ = some (.string hnd)) := hc 1 _ rfl
      have HZ2 : Hid (w.cell? ⟨pb, po + i * 4 + 2, none⟩ = some (.int .i64 ham)) := hc 2 _ rfl
      have HZ3 : Hid (w.cell? ⟨pb, po + i * 4 + 3, none⟩ = some (.int .i64 hex)) := hc 3 _ rfl
      have z0 := cell_later' hS.out.bel HZ0.out
      have z1 := cell_later' hS.out.bel HZ1.out
      have hii : (i : Int) < (l.length : Int) := by omega
      have hii2 : (l.length : Int) ≤ 20 := by have := HL1.out; omega
      have HHH := Lib.hid hh
      have HILT := Lib.hid hlt
      obtain ⟨o, ho⟩ : ∃ o, edgeGo A.bad E hch = o := ⟨_, rfl⟩
      have HO := Lib.hid ho
      have HCC := Lib.hid (And.intro a6 (And.intro z0 z1))
      have HSN := Lib.hid (fun (W : World) (h : Below wr.heap.size wr W) => hS.out.next h)
      have HEA : Hid (Calls Tryz.prog 88 #[.slice oe E.length ce, .slice ob bl cb, .string hch, .string a, .string hnd] (wr.alloc (.cells #[.string ⟨#[]⟩, .string ⟨#[]⟩, .string ⟨#[]⟩, .int .i64 0] 51)).drew fun ee w' => ee = .returned (.tuple #[.agg #[.string (edgR o).chan, .string (edgR o).a, .string (edgR o).b, .int .i64 (edgR o).cap], .bool (edgOk o a hnd)]) ∧ Below wr.heap.size wr w' ∧ w'.heap[wr.heap.size]? = some (.cells #[.string ⟨#[]⟩, .string ⟨#[]⟩, .string ⟨#[]⟩, .int .i64 0] 51 (0, 0))) := (HED.out _ (btr hS.out.bel (below_new' wr (.cells #[.string ⟨#[]⟩, .string ⟨#[]⟩, .string ⟨#[]⟩, .int .i64 0] 51)).drew) hch a hnd).mono fun ee w' q => by
        rw [ho] at q
        exact ⟨q.1, btr (below_new' wr (.cells #[.string ⟨#[]⟩, .string ⟨#[]⟩, .string ⟨#[]⟩, .int .i64 0] 51)).drew q.2, (q.2.block _ (by simp)).trans (heap_alloc_at wr _)⟩
      have HEN : Hid (Calls Tryz.prog 88 #[.slice oe E.length ce, .slice ob bl cb, .string hch, .string a, .string hnd] wr.drew fun ee w' => ee = .returned (.tuple #[.agg #[.string (edgR o).chan, .string (edgR o).a, .string (edgR o).b, .int .i64 (edgR o).cap], .bool (edgOk o a hnd)]) ∧ Below wr.heap.size wr w') := (HED.out _ (btr hS.out.bel (Below.refl _ _).drew) hch a hnd).mono fun ee w' q => by
        rw [ho] at q
        exact ⟨q.1, btr (Below.refl _ _).drew q.2⟩
      have HLD := Lib.hid (leadsR_eq E A.bad a ⟨hch, hnd, ham, hex⟩)
      rw [ho] at HLD
      have HCP : Hid (edgOk o a hnd = true → wrap64 ((edgR o).cap * 1000) = (edgR o).cap * 1000) := fun hok => by
        cases hoo : o with
        | none => rw [hoo] at hok; cases hok
        | some e =>
          have h1 := HFi.out.edg e (edgeGo_mem (ho.trans hoo))
          show wrap64 (e.cap * 1000) = e.cap * 1000
          unfold wrap64; omega
      obtain ⟨b, hb⟩ : ∃ b, edgOk o a hnd = b := ⟨_, rfl⟩
      rw [hb] at HEA HEN HCP HLD
      clear hc hdr hi hh ho hb hS
      go_wp2_with fail
      go_cut [14, 15] from 38 to 123 (fun pv okv wx => ∃ xb, pv = .pointer (some ⟨xb, 0, none⟩) ∧ okv = .bool b ∧ Hid (Below wr.heap.size wr wx) ∧ Hid (wx.heap[xb]? = some (.cells #[.string (edgR o).chan, .string (edgR o).a, .string (edgR o).b, .int .i64 (edgR o).cap] 51 (0, 0))))
      case first =>
        go_region_held3 (fun W => Below wr.heap.size wr W ∧ W.cell? ⟨w.heap.size, 6, none⟩ = some (.slice ob bl cb) ∧ W.cell? ⟨pb, po + i * 4, none⟩ = some (.string hch) ∧ W.cell? ⟨pb, po + i * 4 + 1, none⟩ = some (.string hnd))
          ((go_split_ands; exact keep3c (by (repeat' (first | (with_reducible exact Below.refl _ _) | (with_reducible assumption) | (with_reducible refine Below.alloc ?_ ?_ _) | (with_reducible refine Below.drew ?_) | (with_reducible refine Below.setCell ?_ ?_ _) | (with_reducible refine bdN ?_ _) | assumption | go_size | (simp; omega)))) HCC.out))
          ((first
            | (go_at_call 88; (with_reducible refine Calls.mono HEA.out ?_); rintro e8 w8 ⟨rfl, hb8, hk8⟩; have hs8 := hb8.size; obtain ⟨y0, y1, y2, y3, yl⟩ := cells4 hk8; have f0 := froz9 hk8 0; have f1 := froz9 hk8 1; have f2 := froz9 hk8 2; have f3 := froz9 hk8 3)
            | (go_at_call 88; (with_reducible refine Calls.mono HEN.out ?_); rintro e8 w8 ⟨rfl, hb8⟩; have hs8 := hb8.size)))
        all_goals go_wp2_with fail
        all_goals go_meet
        · exact ⟨w8.heap.size, rfl, rfl, btr hb8 (below_new' w8 _), heap_alloc_at _ _⟩
        · exact ⟨wr.heap.size, rfl, rfl, below_fr hb8 fr4_set (Nat.le_refl _) hs8, row4_set hk8⟩
      case rest =>
        obtain ⟨xb, rfl, rfl, hB9, hX9⟩ := hcut
        clear HEA HEN HCC z0 z1 a0 a1 a2 a3 a4 a5 a6 al
        have S9 := Lib.hid (HSN.out _ hB9.out)
        clear HSN hB9
        generalize edgR o = e9 at hX9 HLD HCP
        obtain ⟨ec, ea, eb, ecap⟩ := e9
        dsimp only at hX9 HLD HCP
        obtain ⟨x0, x1, x2, x3, xl⟩ := cells4 hX9.out
        have z2 := cell_later' S9.out.bel HZ2.out
        have pl : pb < wc.heap.size := World.block_lt_of_cell? wc _ z2
        have HE0F := Lib.hid (fun (h : leadsR E A.bad a ⟨hch, hnd, ham, hex⟩ = false ∨ hnd ∈ met ∨ linkR P (prevH l i) ⟨hch, hnd, ham, hex⟩ = false) => (show endsB A l res = false by rw [goR_none hG.out h]; rfl))
        cases b with
        | false =>
          have HE0 := Lib.hid (HE0F.out (.inl (by rw [HLD.out]; rfl)))
          clear HLD HE0F HCP hG
          go_wp2_with fail
          go_quiet (fail)
          go_wp2_with fail
          go_ret2
          exact ⟨by rw [HE0.out]; rfl, bdN S9.out.bel _⟩
        | true =>
          have hmul : wrap64 (ecap * 1000) = ecap * 1000 := HCP.out rfl
          by_cases c1 : 0 ≤ ham
          · have d1 : decide (ham < 0) = false := decide_eq_false (by omega)
            by_cases c2 : ham ≤ ecap * 1000
            · have d2 : decide (ecap * 1000 < ham) = false := decide_eq_false (by omega)
              have HLT : Hid (leadsR E A.bad a ⟨hch, hnd, ham, hex⟩ = true) := by show _ = _; rw [HLD.out, decide_eq_true c1, decide_eq_true c2]; rfl
              clear HLD c1 c2 HCP
              go_wp2_with fail
              go_quiet (fail)
              generalize hq : wc.drewN _ = w10
              have S10 : Hid (DkS w (askC A ob bl cb) K (.slice mo K.length mc) w10) := by rw [← hq]; exact S9.out.next (bdN (Below.refl _ _) _)
              clear hq S9 hX9 x0 x1 x2 x3 xl z2 pl hmul d1 d2
              go_wp2_with fail
              go_loopw [16] (fun kv wq => ∃ k : Nat, k ≤ K.length ∧ kv = .int .i64 k ∧ Hid (hnd ∉ K.take k) ∧ Hid (DkS w (askC A ob bl cb) K (.slice mo K.length mc) wq)) (fun kv _ => K.length - (intOf kv).toNat)
              case atStart => exact ⟨0, Nat.zero_le _, rfl, by show _ ∉ _; simp, S10.out⟩
              case round =>
                clear S10
                obtain ⟨k, hk, rfl, hT, S10⟩ := hrel
                have y1 := cell_later' S10.out.bel HZ1.out
                have yl : pb < wr.heap.size := World.block_lt_of_cell? wr _ y1
                have hkl := hKL.out
                by_cases hlt2 : k < K.length
                · obtain ⟨s, hs⟩ : ∃ s, K[k]? = some s := ⟨_, List.getElem?_eq_getElem hlt2⟩
                  obtain ⟨-, kb, rfl, hks⟩ := own_cellS S10.out.own hs
                  have kl : kb < wr.heap.size := World.block_lt_of_cell? wr _ hks
                  have hkk : (k : Int) < (K.length : Int) := by omega
                  have hkk2 : (K.length : Int) ≤ 21 := by omega
                  have HKK := Lib.hid hlt2
                  by_cases hsn : s = hnd
                  · have q1 : s.toList = hnd.toList := by rw [hsn]
                    have HE0 := Lib.hid (HE0F.out (.inr (.inl ((hKM.out hnd).1 (by rw [← hsn]; exact List.mem_of_getElem? hs)))))
                    clear hs hk hlt2 hsn hT HE0F hG hkl
                    go_wp2_with fail
                    go_quiet (fail)
                    go_wp2_with fail
                    go_ret2
                    exact ⟨by rw [HE0.out]; rfl, bdN S10.out.bel _⟩
                  · have q1 := toList_ne hsn
                    have HT2 : Hid (hnd ∉ K.take (k + 1)) := by
                      show _ ∉ _
                      rw [List.take_add_one, hs]
                      intro h
                      rcases List.mem_append.1 h with h | h
                      · exact hT.out h
                      · have h' : hnd = s := by simpa using h
                        exact hsn h'.symm
                    clear hs hk hlt2 hsn hT hkl
                    go_wp2_with fail
                    go_quiet (fail)
                    go_wp2_with fail
                    go_roundw
                    case rel => exact ⟨k + 1, HKK.out, by rw [Int.natCast_succ], HT2.out, S10.out.next (bdN (Below.refl _ _) _)⟩
                    case measure => have := HKK.out; simp only [intOf]; omega
                · obtain rfl : k = K.length := by omega
                  have HNM : Hid (hnd ∉ met) := fun h => by have h1 := hT.out; rw [List.take_length] at h1; exact h1 ((hKM.out hnd).2 h)
                  have hkk2 : (K.length : Int) ≤ 21 := by omega
                  obtain ⟨z0', z2', z3'⟩ := And.intro (cell_later' S10.out.bel HZ0.out) (And.intro (cell_later' S10.out.bel HZ2.out) (cell_later' S10.out.bel HZ3.out))
                  clear hk hlt2 hT hkl
                  obtain ⟨i0, hi0, hz0, hz1, hz2⟩ := info_parts Tryz.info23
                  have HKM2 : Hid (∀ t, t ∈ K ++ [hnd] ↔ t ∈ hnd :: met) := fun t => by
                    constructor
                    · intro h
                      rcases List.mem_append.1 h with h | h
                      · exact List.mem_cons_of_mem _ ((hKM.out t).1 h)
                      · obtain rfl : t = hnd := by simpa using h
                        exact List.mem_cons_self ..
                    · intro h
                      rcases List.mem_cons.1 h with rfl | h
                      · exact List.mem_append_right _ (by simp)
                      · exact List.mem_append_left _ ((hKM.out t).2 h)
                  have HNOD : Hid (∀ g, prevH l (i + 1) = some g → g.node = hnd) := fun g hg => by
                    have h1 : some (⟨hch, hnd, ham, hex⟩ : Hp) = some g := HHH.out.symm.trans hg
                    cases h1; rfl
                  cases i with
                  | zero =>
                    have HG2 : Hid (checkGoR P E A.bad (hnd :: met) hnd (prevH l (0 + 1)) (l.drop (0 + 1)) = res) := by
                      have h1 := goR_some hG.out HLT.out HNM.out rfl
                      have h2 : prevH l (0 + 1) = some ⟨hch, hnd, ham, hex⟩ := HHH.out
                      show _ = _
                      rw [h2]; exact h1
                    have S11 := S10
                    clear hG HE0F
                    go_wp2_with fail
                    go_quiet (fail)
                    generalize hq : wr.drewN _ = w12
                    have S12 : Hid (DkS w (askC A ob bl cb) K (.slice mo K.length mc) w12) := by rw [← hq]; exact S11.out.next (bdN (Below.refl _ _) _)
                    have u1 : w12.cell? ⟨pb, po + 0 * 4 + 1, none⟩ = some (.string hnd) := cell_later' S12.out.bel HZ1.out
                    clear hq S11 S10 y1 yl z0' z2' z3'
                    have ul : pb < w12.heap.size := World.block_lt_of_cell? w12 _ u1
                    go_wp2_with (at_builtin; refine wpList_append_lies _ rfl _ _ _ rfl (w.heap.size + 1) 23 i0 _ 1 16 Tryz.underlying22 hi0 hz0 hz1 hz2 rfl (by omega) (.slice mo K.length mc) K.length (K.map Value.string) rfl (World.ownsRow.alloc S12.out.own _) ⟨w12.heap.size, 0, none⟩ 1 1 #[.string hnd].toList rfl rfl (World.news_of_block (cs := #[.string hnd]) (t := 23) (fr := (0, 0)) (heap_alloc_at w12 _)) (by simp [Value.oneCell']) (by omega) (by unfold maxLen; omega) (by omega) (by have := lt_of_heap S12.out.box; simp; omega) (w12.heap.size + 1) (by simp) ?_; intro g cap w13 hown hgrow hat hlt9; have S13 : Hid (DkS w (askC A ob bl cb) (K ++ [hnd]) (.slice (some ⟨g, 0, none⟩) (K.length + 1) cap) w13) := ⟨grown_belB S12.out.bel (by omega) S12.out.own hgrow, grown_keepB S12.out.own hgrow S12.out.box (by omega), by rw [List.length_append, List.map_append]; simpa using hown⟩; clear hown hgrow hat hlt9)
                    go_roundw
                    case rel => exact ⟨0 + 1, hnd, hnd :: met, K ++ [hnd], HILT.out, rfl, rfl, S13.out, HG2.out, HKM2.out, by have := hKL.out; show _ ≤ _; rw [List.length_append, List.length_singleton]; omega, HNOD.out⟩
                    case measure => have := HILT.out; simp only [intOf]; omega
                  | succ j =>
                    obtain ⟨g, hg⟩ : ∃ g, l[j]? = some g := ⟨_, List.getElem?_eq_getElem (by have := HILT.out; omega)⟩
                    obtain ⟨gc, gn, ga, gx⟩ := g
                    obtain ⟨pb', po', epo, hcg⟩ := rows_at HLL.out hg
                    cases epo
                    have hpr : prevH l (j + 1) = some ⟨gc, gn, ga, gx⟩ := hg
                    rw [hpr] at hG HE0F
                    have g0 : wr.cell? ⟨pb, po + j * 4, none⟩ = some (.string gc) := cell_later' S10.out.bel (hcg 0 _ rfl)
                    have g1 : wr.cell? ⟨pb, po + j * 4 + 1, none⟩ = some (.string gn) := cell_later' S10.out.bel (hcg 1 _ rfl)
                    have g2 : wr.cell? ⟨pb, po + j * 4 + 2, none⟩ = some (.int .i64 ga) := cell_later' S10.out.bel (hcg 2 _ rfl)
                    have g3 : wr.cell? ⟨pb, po + j * 4 + 3, none⟩ = some (.int .i64 gx) := cell_later' S10.out.bel (hcg 3 _ rfl)
                    have hj1 : (0 : Int) < (j : Int) + 1 := by omega
                    have hj2 : (j : Int) < (l.length : Int) := by have := HILT.out; omega
                    have hj3 : (j : Int) ≤ 20 := by omega
                    have hj4 : wrap64 (j : Int) = (j : Int) := by unfold wrap64; omega
                    have HAK : Hid (∀ n : Later wr, Calls Tryz.prog 89 #[.slice op P.length cp, .agg #[.string gc, .string gn, .int .i64 ga, .int .i64 gx], .agg #[.string hch, .string hnd, .int .i64 ham, .int .i64 hex]] n.at_ fun ee w' => ee = .returned (.bool (askedR P ⟨gc, gn, ga, gx⟩ ⟨hch, hnd, ham, hex⟩)) ∧ Below n.at_.heap.size n.at_ w') := fun n => HAS.out n.at_ (btr S10.out.bel n.below) ⟨gc, gn, ga, gx⟩ ⟨hch, hnd, ham, hex⟩
                    have HLK : Hid (linkR P (some ⟨gc, gn, ga, gx⟩) ⟨hch, hnd, ham, hex⟩ = askedR P ⟨gc, gn, ga, gx⟩ ⟨hch, hnd, ham, hex⟩) := rfl
                    clear hcg hg hpr
                    cases hak : askedR P ⟨gc, gn, ga, gx⟩ ⟨hch, hnd, ham, hex⟩ with
                    | false =>
                      rw [hak] at HAK HLK
                      have HE0 := Lib.hid (HE0F.out (.inr (.inr HLK.out)))
                      clear hak hG HLK HE0F
                      go_wp2_with fail
                      replace y1 := Later.cell y1; replace z0' := Later.cell z0'; replace z2' := Later.cell z2'; replace z3' := Later.cell z3'; replace g0 := Later.cell g0; replace g1 := Later.cell g1; replace g2 := Later.cell g2; replace g3 := Later.cell g3
                      refine wp_region_later (by kernel_rfl) (by kernel_rfl) ?_
                      repeat (go_big_quiet_step ((go_at_call 89; exact calls_later (HAK.out _))))
                      refine wpQuiet_nil ?_
                      intro _ hw'
                      obtain ⟨nq, rfl⟩ := hw'
                      have B11 : Hid (Below w.heap.size w nq.at_) := btr S10.out.bel nq.below
                      clear y1 z0' z2' z3' g0 g1 g2 g3 HAK
                      generalize nq.at_ = w11 at B11 ⊢
                      go_wp2_with fail
                      go_ret2
                      exact ⟨by rw [HE0.out]; rfl, B11.out⟩
                    | true =>
                      rw [hak] at HAK HLK
                      have HG2 : Hid (checkGoR P E A.bad (hnd :: met) hnd (prevH l (j + 1 + 1)) (l.drop (j + 1 + 1)) = res) := by
                        have h1 := goR_some hG.out HLT.out HNM.out HLK.out
                        have h2 : prevH l (j + 1 + 1) = some ⟨hch, hnd, ham, hex⟩ := HHH.out
                        show _ = _
                        rw [h2]; exact h1
                      clear hak hG HLK HE0F
                      go_wp2_with fail
                      replace y1 := Later.cell y1; replace z0' := Later.cell z0'; replace z2' := Later.cell z2'; replace z3' := Later.cell z3'; replace g0 := Later.cell g0; replace g1 := Later.cell g1; replace g2 := Later.cell g2; replace g3 := Later.cell g3
                      refine wp_region_later (by kernel_rfl) (by kernel_rfl) ?_
                      repeat (go_big_quiet_step ((go_at_call 89; exact calls_later (HAK.out _))))
                      refine wpQuiet_nil ?_
                      intro _ hw'
                      obtain ⟨nq, rfl⟩ := hw'
                      have S12 : Hid (DkS w (askC A ob bl cb) K (.slice mo K.length mc) nq.at_) := S10.out.next nq.below
                      clear y1 z0' z2' z3' g0 g1 g2 g3 HAK S10 yl
                      generalize nq.at_ = w12 at S12 ⊢
                      have u1 : w12.cell? ⟨pb, po + (j + 1) * 4 + 1, none⟩ = some (.string hnd) := cell_later' S12.out.bel HZ1.out
                      have ul : pb < w12.heap.size := World.block_lt_of_cell? w12 _ u1
                      go_wp2_with (at_builtin; refine wpList_append_lies _ rfl _ _ _ rfl (w.heap.size + 1) 23 i0 _ 1 16 Tryz.underlying22 hi0 hz0 hz1 hz2 rfl (by omega) (.slice mo K.length mc) K.length (K.map Value.string) rfl (World.ownsRow.alloc S12.out.own _) ⟨w12.heap.size, 0, none⟩ 1 1 #[.string hnd].toList rfl rfl (World.news_of_block (cs := #[.string hnd]) (t := 23) (fr := (0, 0)) (heap_alloc_at w12 _)) (by simp [Value.oneCell']) (by omega) (by unfold maxLen; omega) (by omega) (by have := lt_of_heap S12.out.box; simp; omega) (w12.heap.size + 1) (by simp) ?_; intro g cap w13 hown hgrow hat hlt9; have S13 : Hid (DkS w (askC A ob bl cb) (K ++ [hnd]) (.slice (some ⟨g, 0, none⟩) (K.length + 1) cap) w13) := ⟨grown_belB S12.out.bel (by omega) S12.out.own hgrow, grown_keepB S12.out.own hgrow S12.out.box (by omega), by rw [List.length_append, List.map_append]; simpa using hown⟩; clear hown hgrow hat hlt9)
                      go_roundw
                      case rel => exact ⟨j + 1 + 1, hnd, hnd :: met, K ++ [hnd], HILT.out, by rw [Int.natCast_succ (j + 1), Int.natCast_succ j], rfl, S13.out, HG2.out, HKM2.out, by have := hKL.out; show _ ≤ _; rw [List.length_append, List.length_singleton]; omega, HNOD.out⟩
                      case measure => have := HILT.out; simp only [intOf]; omega
            · have d2 : decide (ecap * 1000 < ham) = true := decide_eq_true (by omega)
              have HE0 := Lib.hid (HE0F.out (.inl (by rw [HLD.out, decide_eq_false c2]; simp)))
              clear HLD HE0F HCP hG c1 c2
              go_wp2_with fail
              go_quiet (fail)
              go_wp2_with fail
              go_ret2
              exact ⟨by rw [HE0.out]; rfl, bdN S9.out.bel _⟩
          · have d1 : decide (ham < 0) = true := decide_eq_true (by omega)
            have HE0 := Lib.hid (HE0F.out (.inl (by rw [HLD.out, decide_eq_false c1]; simp)))
            clear HLD HE0F HCP hG c1
            go_wp2_with fail
            go_quiet (fail)
            go_wp2_with fail
            go_ret2
            exact ⟨by rw [HE0.out]; rfl, bdN S9.out.bel _⟩
    · obtain rfl : i = l.length := by omega
      have hra : res = some a := by have := hG.out; rw [List.drop_length] at this; exact this.symm
      obtain ⟨f, hf0⟩ : ∃ f, l[0]? = some f := ⟨_, List.getElem?_eq_getElem (by have := HL0.out; omega)⟩
      obtain ⟨m, hm⟩ : ∃ m, l.length = m + 1 := ⟨l.length - 1, by have := HL0.out; omega⟩
      obtain ⟨g, hgm⟩ : ∃ g, l[m]? = some g := ⟨_, List.getElem?_eq_getElem (by omega)⟩
      have hga : g.node = a := hPA.out g (by unfold prevH; rw [if_neg (by omega), hm, Nat.add_sub_cancel]; exact hgm)
      have HHD : Hid (l.headD hpZ = f) := by
        cases l with
        | nil => cases hf0
        | cons x l => exact Option.some.inj hf0
      have HLA : Hid (l.getLastD hpZ = g) := by
        show _ = _
        rw [List.getLastD_eq_getLast?, List.getLast?_eq_getElem?, hm, Nat.add_sub_cancel, hgm]; rfl
      have hfa : 0 ≤ f.amt ∧ f.amt ≤ 2100000000000000000 := by
        have h1 := HRES.out
        rw [hra] at h1
        cases l with
        | nil => cases hf0
        | cons x l =>
          obtain rfl : x = f := Option.some.inj hf0
          exact loadsR_cap HFi.out.edg ((goR_cons ..).1 h1).1
      obtain ⟨pb, po, rfl, hcf⟩ := rows_at HLL.out hf0
      obtain ⟨pb', po', epo, hcg⟩ := rows_at HLL.out hgm
      cases epo
      subst hra
      obtain ⟨fc, fn, fa, fx⟩ := f
      obtain ⟨gc, gn, ga, gx⟩ := g
      dsimp only at hga
      subst hga
      have z2 : wr.cell? ⟨pb, po + 2, none⟩ = some (.int .i64 fa) := cell_later' hS.out.bel (by have := hcf 2 _ rfl; simpa using this)
      have z3 : wr.cell? ⟨pb, po + 3, none⟩ = some (.int .i64 fx) := cell_later' hS.out.bel (by have := hcf 3 _ rfl; simpa using this)
      have v0 : wr.cell? ⟨pb, po + m * 4, none⟩ = some (.string gc) := cell_later' hS.out.bel (hcg 0 _ rfl)
      have v1 : wr.cell? ⟨pb, po + m * 4 + 1, none⟩ = some (.string gn) := cell_later' hS.out.bel (hcg 1 _ rfl)
      have v2 : wr.cell? ⟨pb, po + m * 4 + 2, none⟩ = some (.int .i64 ga) := cell_later' hS.out.bel (hcg 2 _ rfl)
      have v3 : wr.cell? ⟨pb, po + m * 4 + 3, none⟩ = some (.int .i64 gx) := cell_later' hS.out.bel (hcg 3 _ rfl)
      have HSB := Lib.hid hS.out.bel
      have hm1 : (m : Int) ≤ 20 := by have := HL1.out; omega
      have hm2 : wrap64 (m : Int) = (m : Int) := by unfold wrap64; omega
      have hm0 : (0 : Int) < (m : Int) + 1 := by omega
      have hzl : pb < wr.heap.size := World.block_lt_of_cell? wr _ z2
      rw [hm]
      obtain ⟨aamt, haamt⟩ : ∃ q, A.amt = q := ⟨_, rfl⟩
      have hask := HFi.out.ask
      have hsub : wrap64 (fa - aamt) = fa - aamt := by have h1 := hask.a0; have h2 := hask.a1; dsimp only at hfa; rw [haamt] at h1 h2; unfold wrap64; omega
      obtain ⟨aexp, haexp⟩ : ∃ q, A.exp = q := ⟨_, rfl⟩
      obtain ⟨afee, hafee⟩ : ∃ q, A.fee = q := ⟨_, rfl⟩
      obtain ⟨alat, halat⟩ : ∃ q, A.latest = q := ⟨_, rfl⟩
      obtain ⟨adst, hadst⟩ : ∃ q, A.dst = q := ⟨_, rfl⟩
      have HEF := Lib.hid (fun (hc : ¬ (gn = adst ∧ ga = aamt ∧ gx = aexp ∧ fa - aamt ≤ afee ∧ fx ≤ alat)) => ends_f (A := A) (a := gn) HHD.out HLA.out (by rw [haamt, haexp, hafee, halat, hadst]; exact hc))
      have HET := Lib.hid (fun (hc : gn = adst ∧ ga = aamt ∧ gx = aexp ∧ fa - aamt ≤ afee ∧ fx ≤ alat) => ends_t (A := A) (a := gn) HHD.out HLA.out (by rw [haamt, haexp, hafee, halat, hadst]; exact hc))
      rw [hadst] at a1; rw [haamt] at a2; rw [haexp] at a3; rw [halat] at a4; rw [hafee] at a5
      clear hlt hi hG hm hcf hcg hf0 hgm hfa haamt haexp hafee halat hadst hask hS hPA hKM hKL
      by_cases c1 : gn = adst
      · subst c1
        by_cases c2 : ga = aamt
        · subst c2
          by_cases c3 : gx = aexp
          · subst c3
            by_cases c4 : fa - ga ≤ afee
            · have d4 : decide (fa - ga ≤ afee) = true := decide_eq_true c4
              by_cases c5 : fx ≤ alat
              · have d5 : decide (fx ≤ alat) = true := decide_eq_true c5
                have HE := Lib.hid (HET.out ⟨rfl, rfl, rfl, c4, c5⟩)
                clear c4 c5
                go_wp2_with fail
                go_quiet (fail)
                go_wp2_with fail
                go_ret2
                exact ⟨by rw [HE.out]; rfl, bdN (btr HSB.out (below_new' _ _)) _⟩
              · have d5 : decide (fx ≤ alat) = false := decide_eq_false c5
                have HE := Lib.hid (HEF.out (fun h => c5 h.2.2.2.2))
                clear c4 c5
                go_wp2_with fail
                go_quiet (fail)
                go_wp2_with fail
                go_ret2
                exact ⟨by rw [HE.out]; rfl, bdN (btr HSB.out (below_new' _ _)) _⟩
            · have d4 : decide (fa - ga ≤ afee) = false := decide_eq_false c4
              have HE := Lib.hid (HEF.out (fun h => c4 h.2.2.2.1))
              clear c4
              go_wp2_with fail
              go_quiet (fail)
              go_wp2_with fail
              go_ret2
              exact ⟨by rw [HE.out]; rfl, bdN (btr HSB.out (below_new' _ _)) _⟩
          · have d3 : (gx == aexp) = false := by simp [c3]
            have HE := Lib.hid (HEF.out (fun h => c3 h.2.2.1))
            clear c3
            go_wp2_with fail
            go_quiet (fail)
            go_wp2_with fail
            go_ret2
            exact ⟨by rw [HE.out]; rfl, bdN (btr HSB.out (below_new' _ _)) _⟩
        · have d2 : (ga == aamt) = false := by simp [c2]
          have HE := Lib.hid (HEF.out (fun h => c2 h.2.1))
          clear c2
          go_wp2_with fail
          go_quiet (fail)
          go_wp2_with fail
          go_ret2
          exact ⟨by rw [HE.out]; rfl, bdN (btr HSB.out (below_new' _ _)) _⟩
      · have q1 := toList_ne c1
        have HE := Lib.hid (HEF.out (fun h => c1 h.1))
        clear c1
        go_wp2_with fail
        go_quiet (fail)
        go_wp2_with fail
        go_ret2
        exact ⟨by rw [HE.out]; rfl, bdN (btr HSB.out (below_new' _ _)) _⟩
theorem dcheck_any (oe : Option Addr) (E : List Edg) (ce : Nat) (op : Option Addr) (P : List Plc) (cp : Nat) (A : AskR) (ob : Option Addr) (cb : Nat) (ol : Option Addr) (l : List Hp) (cl : Nat) (w : World) (hs1 : A.frm.size ≤ maxLen) (hs2 : A.dst.size ≤ maxLen)
    (hE : RowsAt 4 edgC oe E w) (hP : RowsAt 9 plcC op P w) (hB : StrsAt ob A.bad w) (hl : RowsAt 4 hpC ol l w) : Calls Tryz.prog 25 #[.slice oe E.length ce, .slice op P.length cp, askV A ob cb, .slice ol l.length cl] w (CheckPost (checkN isKey E P A l) w) := by
  by_cases h0 : refusedN isKey E P A = 0
  · by_cases h1 : l.length = 0 ∨ 20 < l.length
    · exact dcheck_len oe E ce op P cp A ob cb ol l cl w hs1 hs2 hE hP h0 h1
    · exact dcheck_yes oe E ce op P cp A ob cb ol l cl w hs1 hs2 hE hP hB hl h0 (by omega) (by omega)
  · exact dcheck_no oe E ce op P cp A ob cb ol l cl w hs1 hs2 hE hP h0
end Go.Proofs.YtbdimlppnhcicaaGreatDoor
