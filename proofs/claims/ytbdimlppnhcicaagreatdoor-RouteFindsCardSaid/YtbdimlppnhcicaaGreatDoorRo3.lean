/- route: what is to reach a way's beginning -/
import Derived.StillTailTactics
import Derived.Lib.ParseIntB
import Derived.Lib.Bytealg
import Derived.Lib.ItoaNum
import Derived.Lib.ParseIntBCases
import Derived.Shelf.Strings.Builder1
import Derived.Shelf.Small.Bits
import Derived.Shelf.Small.Strs
import Derived.Shelf.Small.Wraps
import Derived.Shelf.Strings.BuilderF
import Derived.Shelf.Strings.BuilderK
import Derived.Shelf.Strconv.Itoa0
import Derived.Shelf.Strconv.Itoa1
import Derived.Shelf.LaysM
import Derived.Shelf.Strconv.Itoa2
import Derived.Shelf.Strconv.Itoa3
import Derived.Shelf.Strconv.Itoa4
import Derived.Shelf.Strconv.ParseIntEmpty
import Derived.Shelf.Strconv.Clone
import Derived.Shelf.Strconv.SyntaxError
import Derived.Shelf.LaysC
import Derived.Shelf.Strconv.ToError
import Derived.Shelf.Strconv.Lower
import Derived.Shelf.Strconv.ParseUint10
import Derived.Shelf.Strconv.ParseUint10Empty
import Derived.Shelf.Strconv.ParseUint10Any
import Derived.Shelf.Strconv.ParseInt10
import Derived.Shelf.Strconv.RangeError
import Derived.Shelf.Strconv.ToErrorRange
import Derived.Shelf.Strconv.ParseUintEmpty
import Derived.Shelf.Strconv.ParseUint10b64
import Derived.Shelf.Strconv.ParseUint10b32
import Derived.Shelf.Strconv.ParseUint10b16
import Derived.Shelf.Strconv.ParseUint10b8
import Derived.Shelf.Strconv.ParseUint10At
import Derived.Shelf.Strconv.ParseInt10At64
import Derived.Shelf.Strconv.ParseInt10At32
import Derived.Shelf.Strconv.ParseInt10At16
import Derived.Shelf.Strconv.ParseInt10At8
import Derived.Shelf.Strconv.ParseInt10All
import Derived.Shelf.Strconv.ParseIntPublic10
import Derived.Shelf.Strconv.ErrVarParseInt
import Derived.Shelf.Strings.Search1
import Derived.Shelf.Bits.Mul64
import Derived.Shelf.Strings.BuilderCap
import Derived.Ground.Names2Prog
import Derived.Shelf.Slices.Clone
import Derived.Shelf.Slices.SearchI
import Derived.Ground.SlgnProg
import Derived.Shelf.SlicesE.Clone
import Derived.WalkKit
import Derived.WalkSpells
import Derived.WalkLawsBesides
import Derived.Handy
import Derived.Lib.Hide
import Derived.Deep.QuietTactic
import Derived.BigQuiet
import Derived.Deep.RegionHeld3
import Derived.Lib.Strings
import Derived.Lib.IndexBytes
import Derived.BigRegion
import Derived.Deep.RegionLaw
import Derived.Deep.AppendLies
import Derived.Deep.LoopGhost
import Derived.Deep.Onto
import Derived.Deep.WholeRow
import Derived.Deep.CutRange
import Derived.Laws.CopyOwn
import Derived.Lib.ItoaLen
import Derived.Lib.AppendIntMem
import Derived.Deep.CutBlock
import Derived.Deep.MidRow
import Derived.Deep.RegionHeld
import Derived.Outline
import Derived.Laws.Tables
import Derived.Laws.MakeOwn
import Derived.Laws.OwnMore
import Derived.WalkMore
import Derived.MapKept
import Derived.Carry
import Derived.Test.YtbdimlppnhcicaaGreatDoorRows
import Derived.Test.YtbdimlppnhcicaaGreatDoorProg
import Derived.Test.YtbdimlppnhcicaaGreatDoorNu
import Derived.Test.YtbdimlppnhcicaaGreatDoorTa
import Derived.Test.YtbdimlppnhcicaaGreatDoorTl
import Derived.Test.YtbdimlppnhcicaaGreatDoorRg
import Derived.Test.YtbdimlppnhcicaaGreatDoorBa
import Derived.Test.YtbdimlppnhcicaaGreatDoorVa
import Derived.Test.YtbdimlppnhcicaaGreatDoorWg
import Derived.Test.YtbdimlppnhcicaaGreatDoorSo
import Derived.Test.YtbdimlppnhcicaaGreatDoorOnA
import Derived.Test.YtbdimlppnhcicaaGreatDoorOb
import Derived.Test.YtbdimlppnhcicaaGreatDoorOe
import Derived.Test.YtbdimlppnhcicaaGreatDoorMny
import Derived.Test.YtbdimlppnhcicaaGreatDoorRo1
import Derived.Test.YtbdimlppnhcicaaGreatDoorOf
import Derived.Test.YtbdimlppnhcicaaGreatDoorOh
import Derived.Test.YtbdimlppnhcicaaGreatDoorOj
import Derived.Test.YtbdimlppnhcicaaGreatDoorRo2
namespace Go.Proofs.YtbdimlppnhcicaaGreatDoor
set_option linter.unusedVariables false
open Go.RowKit Rte
/-! route: what is to reach a way's beginning -/
structure EnOk (v : En) : Prop where
  a0 : 0 ≤ v.amt
  a1 : v.amt ≤ 2100000000000000000
  e0 : -9223372036854775808 ≤ v.exp
  e1 : v.exp ≤ 9223372036854775807
  few : v.hops.length ≤ 100
structure PlcOk (p : Plc) : Prop where
  d0 : 0 ≤ p.delta
  d1 : p.delta < 2147483648
def wayV (w : Rte.Way) (ea eb : ByteArray) : Value := .agg #[.string w.chan, .string ea, .string eb, .int .i64 w.cap, .string w.frm, .string w.dst]
def BefPost (o : Option En) (w : World) (e : Ending) (w' : World) : Prop := Below w.heap.size w w' ∧ match o with
  | none => e = .returned (.pointer none)
  | some x => ∃ b, e = .returned (.pointer (some ⟨b, 0, none⟩)) ∧ EndAt w' b x.amt x.exp x.hops
theorem btr {a b c : World} (h : Below a.heap.size a b) (k : Below b.heap.size b c) : Below a.heap.size a c := h.trans ⟨k.os, k.tape, k.output, k.size, fun i hi => k.block i (Nat.lt_of_lt_of_le hi h.size)⟩
/-- what is read of memory while a way's beginning is reckoned -/
structure BS (w : World) (vb qb xb : Nat) (va vx pb pr pd : Int) (vh : List Hp) (ch dt : ByteArray) (W : World) : Prop where
  bel : Below w.heap.size w W
  e : EndAt W vb va vx vh
  z0 : W.cell? ⟨vb, 0, none⟩ = some (.int .i64 va)
  z1 : W.cell? ⟨vb, 1, none⟩ = some (.int .i64 vx)
  z2 : W.cell? ⟨vb, 2, none⟩ = some (.int .i64 (vh.length : Int))
  y0 : W.cell? ⟨xb, 0, none⟩ = some (.string ch)
  y5 : W.cell? ⟨xb, 5, none⟩ = some (.string dt)
  q3 : W.cell? ⟨qb, 3, none⟩ = some (.int .i64 pb)
  q4 : W.cell? ⟨qb, 4, none⟩ = some (.int .i64 pr)
  q5 : W.cell? ⟨qb, 5, none⟩ = some (.int .i64 pd)
theorem BS.next {w : World} {vb qb xb : Nat} {va vx pb pr pd : Int} {vh : List Hp} {ch dt : ByteArray} {W W' : World} (h : BS w vb qb xb va vx pb pr pd vh ch dt W) (k : Below W.heap.size W W') : BS w vb qb xb va vx pb pr pd vh ch dt W' :=
  ⟨btr h.bel k, h.e.below k, cell_later' k h.z0, cell_later' k h.z1, cell_later' k h.z2, cell_later' k h.y0, cell_later' k h.y5, cell_later' k h.q3, cell_later' k h.q4, cell_later' k h.q5⟩
theorem BS.cells {w : World} {vb qb xb : Nat} {va vx pb pr pd : Int} {vh : List Hp} {ch dt : ByteArray} {W : World} (h : BS w vb qb xb va vx pb pr pd vh ch dt W) : W.cell? ⟨vb, 0, none⟩ = some (.int .i64 va) ∧ W.cell? ⟨qb, 3, none⟩ = some (.int .i64 pb) ∧ W.cell? ⟨qb, 4, none⟩ = some (.int .i64 pr) := ⟨h.z0, h.q3, h.q4⟩
set_option maxRecDepth 100000 in
set_option maxHeartbeats 8000000 in
theorem before_any (nb pm vb : Nat) (rv : Value) (P : List Plc) (wy : Rte.Way) (ea eb : ByteArray) (v : En) (w : World)
    (hn : w.heap[nb]? = some (.cells #[rv, .map (some pm)] 145 (0, 0))) (hP : ∃ es c, w.heap[pm]? = some (.map es c) ∧ LiesG kvP es.toList P) (hv : EndAt w vb v.amt v.exp v.hops) (hok : EnOk v) (hpl : ∀ p ∈ P, PlcOk p) :
    Calls Tryz.prog 80 #[.pointer (some ⟨nb, 0, none⟩), wayV wy ea eb, .pointer (some ⟨vb, 0, none⟩)] w (BefPost (beforeW P wy v) w) := by
  obtain ⟨ch, cp, fr, dt⟩ := wy
  obtain ⟨va, vx, vh⟩ := v
  have B1 : Hid (Below w.heap.size w (w.alloc (.cells #[.string ch, .string ea, .string eb, .int .i64 cp, .string fr, .string dt] 147))) := below_new' w _
  have HX : Hid ((w.alloc (.cells #[.string ch, .string ea, .string eb, .int .i64 cp, .string fr, .string dt] 147)).heap[w.heap.size]? = some (.cells #[.string ch, .string ea, .string eb, .int .i64 cp, .string fr, .string dt] 147 (0, 0))) := heap_alloc_at w _
  have HV : Hid (EndAt (w.alloc (.cells #[.string ch, .string ea, .string eb, .int .i64 cp, .string fr, .string dt] 147)) vb va vx vh) := hv.below B1.out
  have HN : Hid ((w.alloc (.cells #[.string ch, .string ea, .string eb, .int .i64 cp, .string fr, .string dt] 147)).heap[nb]? = some (.cells #[rv, .map (some pm)] 145 (0, 0))) := (B1.out.block nb (lt_of_heap hn)).trans hn
  obtain ⟨es, c, hm, hl⟩ := hP
  have HM : Hid ((w.alloc (.cells #[.string ch, .string ea, .string eb, .int .i64 cp, .string fr, .string dt] 147)).heap[pm]? = some (.map es c)) := (B1.out.block pm (lt_of_heap hm)).trans hm
  clear hn hm hv
  show Calls Tryz.prog 80 #[.pointer (some ⟨nb, 0, none⟩), .agg #[.string ch, .string ea, .string eb, .int .i64 cp, .string fr, .string dt], .pointer (some ⟨vb, 0, none⟩)] w (BefPost (beforeW P ⟨ch, cp, fr, dt⟩ ⟨va, vx, vh⟩) w)
  obtain ⟨out, hout⟩ : ∃ o, beforeW P ⟨ch, cp, fr, dt⟩ ⟨va, vx, vh⟩ = o := ⟨_, rfl⟩
  rw [hout]
  have HO := Lib.hid hout
  clear hout
  go_enter Tryz.func80, Tryz.ntmps80
  go_wp2_with fail
  generalize (w.alloc (.cells #[.string ch, .string ea, .string eb, .int .i64 cp, .string fr, .string dt] 147)) = w1 at B1 HX HV HN HM ⊢
  go_loopw [7] (fun pv wr => ∃ (c1 : Nat) (a1 e1 : Int) (t1 : List Hp), pv = .pointer (some ⟨c1, 0, none⟩) ∧ Hid (EndAt wr c1 a1 e1 t1) ∧ Hid (hasN t1 fr = hasN vh fr) ∧ Hid (Below w1.heap.size w1 wr)) (fun pv wr => cntE wr pv)
  case atStart => exact ⟨vb, va, vx, vh, rfl, HV.out, rfl, Below.refl _ _⟩
  case round =>
    obtain ⟨c1, a1, e1, t1, rfl, hE1, hH, hB⟩ := hrel
    cases t1 with
    | nil =>
      have p7 : wr.cell? ⟨c1, 7, none⟩ = some (.pointer none) := by rw [cell_of_row _ _ _ _ _ _ hE1.out]; rfl
      have hhas : hasN vh fr = false := by rw [← hH.out]; rfl
      have BB : Hid (Below w.heap.size w wr) := btr B1.out hB.out
      have hnr : wr.heap[nb]? = some (.cells #[rv, .map (some pm)] 145 (0, 0)) := (hB.out.block nb (lt_of_heap HN.out)).trans HN.out
      have hmr : wr.heap[pm]? = some (.map es c) := (hB.out.block pm (lt_of_heap HM.out)).trans HM.out
      have hxr : wr.heap[w.heap.size]? = some (.cells #[.string ch, .string ea, .string eb, .int .i64 cp, .string fr, .string dt] 147 (0, 0)) := (hB.out.block w.heap.size (lt_of_heap HX.out)).trans HX.out
      have HVR : Hid (EndAt wr vb va vx vh) := HV.out.below hB.out
      have HK := Lib.hid hB.out
      clear HV hB HN HM HX B1 hE1 hH
      have n1 : wr.cell? ⟨nb, 1, none⟩ = some (.map (some pm)) := by rw [cell_of_row _ _ _ _ _ _ hnr]; rfl
      have x0 : wr.cell? ⟨w.heap.size, 0, none⟩ = some (.string ch) := by rw [cell_of_row _ _ _ _ _ _ hxr]; rfl
      have x4 : wr.cell? ⟨w.heap.size, 4, none⟩ = some (.string fr) := by rw [cell_of_row _ _ _ _ _ _ hxr]; rfl
      cases hpo : polOf P ch fr with
      | none =>
        have hlk : ∀ W, W.heap[pm]? = some (.map es c) → (Instr.lookup 143 (.map (some pm)) (keyP ch fr) true).run Tryz.prog W = .ok (.tuple #[plcV plcZ, .bool false]) W := fun W h => by
          have := run_lookP ch fr es c pm P W hl h
          rw [hpo] at this
          exact this
        have ho : out = none := by
          rw [← HO.out]
          unfold beforeW
          rw [if_neg (by rw [hhas]; decide), hpo]
        subst ho
        have hl1 := hlk wr.drew hmr
        have hl2 := hlk (wr.alloc (.cells #[.string ⟨#[]⟩, .string ⟨#[]⟩, .int .i64 0, .int .i64 0, .int .i64 0, .int .i64 0, .int .i64 0, .int .i64 0, .bool false] 53)).drew ((heap_alloc_old _ _ (lt_of_heap hmr)).trans hmr)
        have l1 := lt_of_heap hxr
        have l2 := lt_of_heap hnr
        unfold keyP plcV plcZ at hl1 hl2
        clear hlk hpo hl hmr hxr hnr hpl hok
        go_wp2_with fail
        go_region
        all_goals (go_wp2_with fail; go_quiet (fail); go_wp2_with fail; go_ret)
        all_goals exact ⟨by repeat (first | exact btr BB.out (below_new' _ _) | refine bdN ?_ _ | refine Below.drew ?_), rfl⟩
      | some p =>
        have hp := hpl _ (pol_mem hpo)
        have hlk : ∀ W, W.heap[pm]? = some (.map es c) → (Instr.lookup 143 (.map (some pm)) (keyP ch fr) true).run Tryz.prog W = .ok (.tuple #[plcV p, .bool true]) W := fun W h => by
          have := run_lookP ch fr es c pm P W hl h
          rw [hpo] at this
          exact this
        have ho : befP ⟨ch, cp, fr, dt⟩ ⟨va, vx, vh⟩ p = out := by
          rw [← HO.out]
          unfold beforeW
          rw [if_neg (by rw [hhas]; decide), hpo]
        have HB := Lib.hid ho
        obtain ⟨pc, pf, ps, pb, pr, pd, pmn, pmx, po⟩ := p
        have hl1 := hlk wr.drew hmr
        have hl2 := hlk (wr.alloc (.cells #[.string ⟨#[]⟩, .string ⟨#[]⟩, .int .i64 0, .int .i64 0, .int .i64 0, .int .i64 0, .int .i64 0, .int .i64 0, .bool false] 53)).drew ((heap_alloc_old _ _ (lt_of_heap hmr)).trans hmr)
        have l1 := lt_of_heap hxr
        have l2 := lt_of_heap hnr
        obtain ⟨vc, vn, vp, vq, vv, kv⟩ := end_cells HVR.out
        have v0 : wr.cell? ⟨vb, 0, none⟩ = some (.int .i64 va) := by rw [cell_of_row _ _ _ _ _ _ kv]; rfl
        have v1 : wr.cell? ⟨vb, 1, none⟩ = some (.int .i64 vx) := by rw [cell_of_row _ _ _ _ _ _ kv]; rfl
        have v2 : wr.cell? ⟨vb, 2, none⟩ = some (.int .i64 (vh.length : Int)) := by rw [cell_of_row _ _ _ _ _ _ kv]; rfl
        have l3 := lt_of_heap kv
        have x5 : wr.cell? ⟨w.heap.size, 5, none⟩ = some (.string dt) := by rw [cell_of_row _ _ _ _ _ _ hxr]; rfl
        unfold keyP plcV at hl1 hl2
        dsimp only at hl1 hl2
        have HOK := Lib.hid hok
        have HP := Lib.hid hp
        clear hlk hpo hl hmr hxr hnr hpl hok ho HO hp kv
        have BW : Hid (Below w.heap.size w (wr.alloc (.cells #[.string pc, .string pf, .int .i64 ps, .int .i64 pb, .int .i64 pr, .int .i64 pd, .int .i64 pmn, .int .i64 pmx, .bool po] 53)).drew) := (btr BB.out (below_new' _ _)).drew
        have HV2 : Hid (EndAt (wr.alloc (.cells #[.string pc, .string pf, .int .i64 ps, .int .i64 pb, .int .i64 pr, .int .i64 pd, .int .i64 pmn, .int .i64 pmx, .bool po] 53)).drew vb va vx vh) := HVR.out.below (below_new' _ _).drew
        have kp : (wr.alloc (.cells #[.string pc, .string pf, .int .i64 ps, .int .i64 pb, .int .i64 pr, .int .i64 pd, .int .i64 pmn, .int .i64 pmx, .bool po] 53)).drew.heap[wr.heap.size]? = some (.cells #[.string pc, .string pf, .int .i64 ps, .int .i64 pb, .int .i64 pr, .int .i64 pd, .int .i64 pmn, .int .i64 pmx, .bool po] 53 (0, 0)) := heap_alloc_at _ _
        have v0' : (wr.alloc (.cells #[.string pc, .string pf, .int .i64 ps, .int .i64 pb, .int .i64 pr, .int .i64 pd, .int .i64 pmn, .int .i64 pmx, .bool po] 53)).drew.cell? ⟨vb, 0, none⟩ = some (.int .i64 va) := cell_later' (below_new' wr _).drew v0
        have v1' : (wr.alloc (.cells #[.string pc, .string pf, .int .i64 ps, .int .i64 pb, .int .i64 pr, .int .i64 pd, .int .i64 pmn, .int .i64 pmx, .bool po] 53)).drew.cell? ⟨vb, 1, none⟩ = some (.int .i64 vx) := cell_later' (below_new' wr _).drew v1
        have v2' : (wr.alloc (.cells #[.string pc, .string pf, .int .i64 ps, .int .i64 pb, .int .i64 pr, .int .i64 pd, .int .i64 pmn, .int .i64 pmx, .bool po] 53)).drew.cell? ⟨vb, 2, none⟩ = some (.int .i64 (vh.length : Int)) := cell_later' (below_new' wr _).drew v2
        have x0' : (wr.alloc (.cells #[.string pc, .string pf, .int .i64 ps, .int .i64 pb, .int .i64 pr, .int .i64 pd, .int .i64 pmn, .int .i64 pmx, .bool po] 53)).drew.cell? ⟨w.heap.size, 0, none⟩ = some (.string ch) := cell_later' (below_new' wr _).drew x0
        have x4' : (wr.alloc (.cells #[.string pc, .string pf, .int .i64 ps, .int .i64 pb, .int .i64 pr, .int .i64 pd, .int .i64 pmn, .int .i64 pmx, .bool po] 53)).drew.cell? ⟨w.heap.size, 4, none⟩ = some (.string fr) := cell_later' (below_new' wr _).drew x4
        have x5' : (wr.alloc (.cells #[.string pc, .string pf, .int .i64 ps, .int .i64 pb, .int .i64 pr, .int .i64 pd, .int .i64 pmn, .int .i64 pmx, .bool po] 53)).drew.cell? ⟨w.heap.size, 5, none⟩ = some (.string dt) := cell_later' (below_new' wr _).drew x5
        have p3' : (wr.alloc (.cells #[.string pc, .string pf, .int .i64 ps, .int .i64 pb, .int .i64 pr, .int .i64 pd, .int .i64 pmn, .int .i64 pmx, .bool po] 53)).drew.cell? ⟨wr.heap.size, 3, none⟩ = some (.int .i64 pb) := by rw [cell_of_row _ _ _ _ _ _ kp]; rfl
        have p4' : (wr.alloc (.cells #[.string pc, .string pf, .int .i64 ps, .int .i64 pb, .int .i64 pr, .int .i64 pd, .int .i64 pmn, .int .i64 pmx, .bool po] 53)).drew.cell? ⟨wr.heap.size, 4, none⟩ = some (.int .i64 pr) := by rw [cell_of_row _ _ _ _ _ _ kp]; rfl
        have p5' : (wr.alloc (.cells #[.string pc, .string pf, .int .i64 ps, .int .i64 pb, .int .i64 pr, .int .i64 pd, .int .i64 pmn, .int .i64 pmx, .bool po] 53)).drew.cell? ⟨wr.heap.size, 5, none⟩ = some (.int .i64 pd) := by rw [cell_of_row _ _ _ _ _ _ kp]; rfl
        have p6' : (wr.alloc (.cells #[.string pc, .string pf, .int .i64 ps, .int .i64 pb, .int .i64 pr, .int .i64 pd, .int .i64 pmn, .int .i64 pmx, .bool po] 53)).drew.cell? ⟨wr.heap.size, 6, none⟩ = some (.int .i64 pmn) := by rw [cell_of_row _ _ _ _ _ _ kp]; rfl
        have p7' : (wr.alloc (.cells #[.string pc, .string pf, .int .i64 ps, .int .i64 pb, .int .i64 pr, .int .i64 pd, .int .i64 pmn, .int .i64 pmx, .bool po] 53)).drew.cell? ⟨wr.heap.size, 7, none⟩ = some (.int .i64 pmx) := by rw [cell_of_row _ _ _ _ _ _ kp]; rfl
        have p8' : (wr.alloc (.cells #[.string pc, .string pf, .int .i64 ps, .int .i64 pb, .int .i64 pr, .int .i64 pd, .int .i64 pmn, .int .i64 pmx, .bool po] 53)).drew.cell? ⟨wr.heap.size, 8, none⟩ = some (.bool po) := by rw [cell_of_row _ _ _ _ _ _ kp]; rfl
        clear kp
        go_wp2_with fail
        go_region
        all_goals (
          clear v0 v1 v2 x0 x4 x5 hl1 hl2 n1 p7
          generalize (wr.alloc (.cells #[.string pc, .string pf, .int .i64 ps, .int .i64 pb, .int .i64 pr, .int .i64 pd, .int .i64 pmn, .int .i64 pmx, .bool po] 53)).drew = w2 at BW HV2 v0' v1' v2' x0' x4' x5' p3' p4' p5' p6' p7' p8' ⊢
          generalize hpb : wr.heap.size = qb at p3' p4' p5' p6' p7' p8' ⊢
          clear hpb l1 l2 l3
          cases po with
          | true =>
            have ho : out = none := by rw [← HB.out]; unfold befP; rw [if_pos (.inl rfl)]
            subst ho
            go_wp2_with fail
            go_quiet (fail)
            go_wp2_with fail
            go_ret
            exact ⟨by repeat (first | exact BW.out | refine bdN ?_ _ | refine Below.drew ?_), rfl⟩
          | false =>
            by_cases hmn : va < pmn
            · have d1 : decide (va < pmn) = true := decide_eq_true hmn
              have ho : out = none := by rw [← HB.out]; unfold befP; rw [if_pos (.inr (.inl hmn))]
              subst ho
              go_wp2_with fail
              go_quiet (fail)
              go_wp2_with fail
              go_ret
              exact ⟨by repeat (first | exact BW.out | refine bdN ?_ _ | refine Below.drew ?_), rfl⟩
            · have d1 : decide (va < pmn) = false := decide_eq_false hmn
              by_cases hmx : pmx < va
              · have d2 : decide (pmx < va) = true := decide_eq_true hmx
                have ho : out = none := by rw [← HB.out]; unfold befP; rw [if_pos (.inr (.inr hmx))]
                subst ho
                go_wp2_with fail
                go_quiet (fail)
                go_wp2_with fail
                go_ret
                exact ⟨by repeat (first | exact BW.out | refine bdN ?_ _ | refine Below.drew ?_), rfl⟩
              · have d2 : decide (pmx < va) = false := decide_eq_false hmx
                have hbp : out = (match Mny.grossO va pb pr with | none => none | some g => if timeB (vx + pd) = true then some ⟨g, vx + pd, ⟨ch, dt, va, vx⟩ :: vh⟩ else none) := by
                  rw [← HB.out]; unfold befP
                  rw [if_neg (by rintro (h | h | h); cases h; exact hmn h; exact hmx h)]
                  rfl
                have HQ := Lib.hid hbp
                clear hbp HB
                have HBS : Hid (BS w vb qb w.heap.size va vx pb pr pd vh ch dt w2) := ⟨BW.out, HV2.out, v0', v1', v2', x0', x5', p3', p4', p5'⟩
                go_wp2_with fail
                go_quiet (fail)
                generalize hq : w2.drewN _ = w5
                have HB5 : Hid (BS w vb qb w.heap.size va vx pb pr pd vh ch dt w5) := by rw [← hq]; exact HBS.out.next (bdN (Below.refl _ _) _)
                clear hq v0' v1' v2' x0' x4' x5' p3' p4' p5' p6' p7' p8' BW HV2 HBS d1 d2 hmn hmx
                go_wp2_with fail
                have Z0 : BS w vb qb w.heap.size va vx pb pr pd vh ch dt w5.drew := HB5.out.next (Below.refl _ _).drew
                obtain ⟨z0, q3, q4⟩ := Z0.cells
                cases hg : Mny.grossO va pb pr with
                | none =>
                  have ho : out = none := by rw [HQ.out, hg]
                  subst ho
                  have HG : Hid (∀ W, BS w vb qb w.heap.size va vx pb pr pd vh ch dt W → Calls Tryz.prog 138 #[.int .i64 va, .int .i64 pb, .int .i64 pr] W fun e w' => e = .returned (.tuple #[.int .i64 0, .int .i64 40]) ∧ BS w vb qb w.heap.size va vx pb pr pd vh ch dt w') := fun W hW => (Mny.gross_any va pb pr W).mono fun e w' h => ⟨(Mny.opt_none h hg).1, hW.next (Mny.opt_none h hg).2⟩
                  clear hg
                  go_region_held3 (fun w' => w'.cell? ⟨vb, 0, none⟩ = some (.int .i64 va) ∧ w'.cell? ⟨qb, 3, none⟩ = some (.int .i64 pb) ∧ w'.cell? ⟨qb, 4, none⟩ = some (.int .i64 pr))
                    (first | exact BS.cells (by assumption) | go_keep)
                    ((first | (go_at_call 138; (with_reducible refine Calls.mono (HG.out _ (by assumption)) ?_); rintro y wa ⟨rfl, Za⟩)))
                  go_wp2_with fail
                  go_quiet (fail)
                  go_wp2_with fail
                  go_ret
                  exact ⟨by repeat (first | exact Za.bel | refine bdN ?_ _ | refine Below.drew ?_), rfl⟩
                | some g =>
                  have HG : Hid (∀ W, BS w vb qb w.heap.size va vx pb pr pd vh ch dt W → Calls Tryz.prog 138 #[.int .i64 va, .int .i64 pb, .int .i64 pr] W fun e w' => e = .returned (.tuple #[.int .i64 g, .int .i64 0]) ∧ BS w vb qb w.heap.size va vx pb pr pd vh ch dt w') := fun W hW => (Mny.gross_any va pb pr W).mono fun e w' h => ⟨(Mny.opt_some h hg).1, hW.next (Mny.opt_some h hg).2⟩
                  rw [hg] at HQ
                  clear hg
                  go_region_held3 (fun w' => w'.cell? ⟨vb, 0, none⟩ = some (.int .i64 va) ∧ w'.cell? ⟨qb, 3, none⟩ = some (.int .i64 pb) ∧ w'.cell? ⟨qb, 4, none⟩ = some (.int .i64 pr))
                    (first | exact BS.cells (by assumption) | go_keep)
                    ((first | (go_at_call 138; (with_reducible refine Calls.mono (HG.out _ (by assumption)) ?_); rintro y wa ⟨rfl, Za⟩)))
                  clear Z0 z0 q3 q4
                  have HZa := Lib.hid Za
                  have t1 := Za.z1
                  have t5 := Za.q5
                  clear Za
                  by_cases ht : timeB (vx + pd) = true
                  · obtain ⟨xs, hxs⟩ : ∃ xs, vx + pd = xs := ⟨_, rfl⟩
                    have HXS := Lib.hid hxs
                    obtain ⟨h0x, h1x⟩ := (time_iff _).1 ht
                    have hsum : wrap64 (vx + pd) = vx + pd := by
                      unfold wrap64; omega
                    rw [hxs] at HQ hsum h0x h1x ht
                    have ho : out = some ⟨g, xs, ⟨ch, dt, va, vx⟩ :: vh⟩ := by rw [HQ.out]; rw [if_pos ht]
                    subst ho
                    have ht2 : (xs / 2147483648 != 0) = false := by
                      have : xs / 2147483648 = 0 := by omega
                      simp [this]
                    clear ht h0x h1x
                    go_wp2_with fail
                    go_quiet (fail)
                    generalize hq : wa.drewN _ = w7
                    have HB7 : Hid (BS w vb qb w.heap.size va vx pb pr pd vh ch dt w7) := by rw [← hq]; exact HZa.out.next (bdN (Below.refl _ _) _)
                    clear hq t1 t5 ht2
                    go_wp2_with fail
                    obtain ⟨nn, hnn⟩ : ∃ n : Int, (vh.length : Int) = n := ⟨_, rfl⟩
                    have hcnt : wrap64 (nn + 1) = nn + 1 := by have := HOK.out.few; dsimp only at this; unfold wrap64; omega
                    have r0 := HB7.out.z0; have r1 := HB7.out.z1; have r2 := HB7.out.z2; have r3 := HB7.out.y0; have r4 := HB7.out.y5; have r5 := HB7.out.q5
                    rw [hnn] at r2
                    have HNN := Lib.hid hnn
                    clear hnn
                    go_still_tail 29, (by kernel_rfl)
                    change wpList _ _ _ _ _ w7.drew
                    have HB8 : Hid (BS w vb qb w.heap.size va vx pb pr pd vh ch dt w7.drew) := HB7.out.next (Below.refl _ _).drew
                    clear r0 r1 r2 r3 r4 r5 HB7
                    generalize w7.drew = w8 at HB8 ⊢
                    go_wp2_with fail
                    rw [hsum, hcnt, ← HNN.out]
                    go_ret
                    refine ⟨btr HB8.out.bel (below_new' _ _), w8.heap.size, by simp [go_sem], vb, heap_alloc_at _ _, HB8.out.e.below (below_new' _ _)⟩
                  · have ho : out = none := by rw [HQ.out]; rw [if_neg ht]
                    subst ho
                    obtain ⟨ys, hys⟩ : ∃ y, wrap64 (vx + pd) = y := ⟨_, rfl⟩
                    have ht2 : (ys / 2147483648 != 0) = true := by
                      have hk : ¬ (0 ≤ vx + pd ∧ vx + pd < 2147483648) := fun k => ht ((time_iff _).2 k)
                      have hb0 := HOK.out.e0; have hb1 := HOK.out.e1; have hb2 := HP.out.d0; have hb3 := HP.out.d1
                      dsimp only at hb0 hb1 hb2 hb3
                      have : ¬ ys / 2147483648 = 0 := by unfold wrap64 at hys; omega
                      simp [this]
                    clear ht
                    go_wp2_with fail
                    go_quiet (fail)
                    go_wp2_with fail
                    go_ret
                    exact ⟨by repeat (first | exact HZa.out.bel | refine bdN ?_ _ | refine Below.drew ?_), rfl⟩)
    | cons h t =>
      obtain ⟨d1, k1, n1⟩ := hE1.out
      have p4 : wr.cell? ⟨c1, 4, none⟩ = some (.string h.node) := by rw [cell_of_row _ _ _ _ _ _ k1]; rfl
      have p7 : wr.cell? ⟨c1, 7, none⟩ = some (.pointer (some ⟨d1, 0, none⟩)) := by rw [cell_of_row _ _ _ _ _ _ k1]; rfl
      have hxr : wr.heap[w.heap.size]? = some (.cells #[.string ch, .string ea, .string eb, .int .i64 cp, .string fr, .string dt] 147 (0, 0)) := (hB.out.block w.heap.size (lt_of_heap HX.out)).trans HX.out
      have x4 : wr.cell? ⟨w.heap.size, 4, none⟩ = some (.string fr) := by rw [cell_of_row _ _ _ _ _ _ hxr]; rfl
      have HN1 := Lib.hid n1
      clear k1 n1 hxr
      by_cases hf : h.node = fr
      · subst hf
        go_wp2_with fail
        go_quiet (fail)
        go_wp2_with fail
        have ho : out = none := by
          rw [← HO.out]
          unfold beforeW
          rw [if_pos (by rw [← hH.out]; simp [hasN])]
        subst ho
        go_ret
        exact ⟨bdN (btr B1.out hB.out) _, rfl⟩
      · have q1 := toList_ne hf
        go_wp2_with fail
        go_quiet (fail)
        go_wp2_with fail
        go_roundw
        case rel => exact ⟨d1, h.amt, h.exp, t, rfl, HN1.out.below (bdN (Below.refl _ _) _), by show hasN t fr = hasN vh fr; rw [← hH.out]; simp [hasN, hf], bdN hB.out _⟩
        case measure => rw [cntE_at (HN1.out.below (bdN (Below.refl _ _) _)), cntE_at hE1.out]; simp
end Go.Proofs.YtbdimlppnhcicaaGreatDoor
/- route: is it a public key -/
namespace Go.Proofs.YtbdimlppnhcicaaGreatDoor
set_option linter.unusedVariables false
open Go.RowKit Rte
/-! route: is it a public key; a number that serves -/
def isKey (t : ByteArray) : Bool := decide ((op4 t.data.toList).op = 80)
set_option maxRecDepth 100000 in
set_option maxHeartbeats 4000000 in
theorem isKey_any (t : ByteArray) (w : World) (hm : t.size ≤ maxLen) (hL : LibOk w) : Calls Tryz.prog 132 #[.string t] w fun e w' => e = .returned (.bool (isKey t)) ∧ Below w.heap.size w w' := by
  have HO := Lib.hid ((open_any t w hm hL).mono fun e w' h => one_form h)
  have HP : Hid (isKey t = decide ((op4 t.data.toList).op = 80)) := rfl
  generalize isKey t = r at HP ⊢
  generalize op4 t.data.toList = q at HO HP
  clear hL hm
  obtain ⟨op, n, u, vs, b⟩ := q
  dsimp only at HP
  by_cases hop : op = 80
  · subst hop
    obtain rfl : r = true := by rw [HP.out]; rfl
    go_enter Tryz.func132, Tryz.ntmps132
    go_wp2_with ((go_at_call 120; (with_reducible refine Calls.mono HO.out ?_); rintro e w1 ⟨hb1, o, k, rfl, -⟩; have B1 := Lib.hid hb1; clear hb1))
    go_ret
    exact ⟨by simp [go_sem], by repeat (first | exact B1.out | exact btr B1.out (below_new' _ _) | refine bdN ?_ _ | refine Below.drew ?_)⟩
  · obtain rfl : r = false := by rw [HP.out]; exact decide_eq_false hop
    have e1 : ((op : Int) == 80) = false := by simp; omega
    go_enter Tryz.func132, Tryz.ntmps132
    go_wp2_with ((go_at_call 120; (with_reducible refine Calls.mono HO.out ?_); rintro e w1 ⟨hb1, o, k, rfl, -⟩; have B1 := Lib.hid hb1; clear hb1))
    go_ret
    exact ⟨by simp [go_sem], by repeat (first | exact B1.out | exact btr B1.out (below_new' _ _) | refine bdN ?_ _ | refine Below.drew ?_)⟩
theorem right_num (a : Int) (w : World) : Calls Tryz.prog 133 #[.int .i64 a] w fun e w' => e = .returned (.bool (Mny.rightB a)) ∧ w' = w := by
  by_cases h0 : 0 ≤ a
  · by_cases h1 : a ≤ 2100000000000000000
    · have hr := Mny.rightB_t h0 h1
      rw [hr]
      have d1 : decide (a ≤ 2100000000000000000) = true := decide_eq_true h1
      have d0 : decide (0 ≤ a) = true := decide_eq_true h0
      go_enter Tryz.func133, Tryz.ntmps133
      go_wp2_with fail
      go_ret
      exact ⟨rfl, rfl⟩
    · have hr := Mny.rightB_f (a := a) (fun h => h1 h.2)
      rw [hr]
      have d1 : decide (a ≤ 2100000000000000000) = false := decide_eq_false h1
      have d0 : decide (0 ≤ a) = true := decide_eq_true h0
      go_enter Tryz.func133, Tryz.ntmps133
      go_wp2_with fail
      go_ret
      exact ⟨rfl, rfl⟩
  · have hr := Mny.rightB_f (a := a) (fun h => h0 h.1)
    rw [hr]
    have d0 : decide (0 ≤ a) = false := decide_eq_false h0
    go_enter Tryz.func133, Tryz.ntmps133
    go_wp2_with fail
    go_ret
    exact ⟨rfl, rfl⟩
end Go.Proofs.YtbdimlppnhcicaaGreatDoor
/- route: what was met, what is kept -/
namespace Go.Proofs.YtbdimlppnhcicaaGreatDoor
set_option linter.unusedVariables false
open Go.RowKit Rte
/-! route: the set of names that were met, the policies that are kept -/
def kvK (s : ByteArray) : Value × Value := (.string s, .bool true)
def isK (n : ByteArray) (t : ByteArray) : Bool := n == t
theorem run_findNowS (h : ByteArray) : ∀ (es : List MapEntry) (L : List ByteArray) (j : Nat), LiesG kvK es L → Instr.findNow .string (.string h) es j = some ((posP (isK h) L j).map fun x => (x.1, (.bool true)))
  | [], [], j, _ => rfl
  | [], _ :: _, _, hl => by simp [LiesG] at hl
  | _ :: _, [], _, hl => by simp [LiesG] at hl
  | e :: es, c :: L, j, hl => by
    simp only [LiesG, List.map_cons, List.cons.injEq] at hl
    obtain ⟨h1, h3⟩ := hl
    have h1a : e.key = .string c := congrArg Prod.fst h1
    have h1b : e.val = .bool true := congrArg Prod.snd h1
    have ih := run_findNowS h es L (j + 1) h3
    unfold Instr.findNow
    rw [h1a]
    simp only [Instr.sameNow]
    cases hb : isK h c with
    | true => rw [posP_t hb]; rw [show (h == c) = true from hb]; simp [h1b]
    | false => rw [posP_f hb]; rw [show (h == c) = false from hb]; simp [ih]
theorem run_findS (h : ByteArray) (es : List MapEntry) (L : List ByteArray) (w : World) (hl : LiesG kvK es L) : (Instr.findKey 9 (.string h) es).run Tryz.prog w = .ok ((posP (isK h) L 0).map fun x => (x.1, .bool true)) w := by
  simp only [Instr.findKey, Sem.run_bind, run_underlying Tryz.underlying9, Result.andThen_ok, run_findNowS h es L 0 hl, Sem.run_pure]
theorem run_checkKeyS (e : Bool) (h : ByteArray) (w : World) : (Instr.checkKey e 10000 9 (.string h)).run Tryz.prog w = .ok () w := by kernel_rfl
theorem posS_mem (h : ByteArray) : ∀ (L : List ByteArray) (j : Nat), (posP (isK h) L j).isSome = decide (h ∈ L)
  | [], _ => by simp [posP]
  | e :: r, j => by
    cases he : isK h e with
    | true =>
      have := (ba_beq h e).1 he
      rw [posP_t he]; simp [this]
    | false =>
      rw [posP_f he, posS_mem h r (j + 1)]
      have : h ≠ e := fun x => by rw [show isK h e = true from (ba_beq h e).2 x] at he; cases he
      simp [this]
theorem run_lookS (h : ByteArray) (es : Array MapEntry) (c mm : Nat) (L : List ByteArray) (w : World) (hl : LiesG kvK es.toList L) (hb : w.heap[mm]? = some (.map es c)) :
    (Instr.lookup 214 (.map (some mm)) (.string h) false).run Tryz.prog w = .ok (.bool (decide (h ∈ L))) w := by
  have hz : (zeroValue 4).run Tryz.prog w = .ok (.bool false) w := by kernel_rfl
  have hf := run_findS h es.toList L w hl
  simp only [Instr.lookup, Sem.run_bind, run_underlying Tryz.underlying214, Result.andThen_ok, run_getObj_map w mm es c hb, Sem.run_pure, run_checkKeyS, hf]
  rw [← posS_mem h L 0]
  cases posP (isK h) L 0 with
  | none => simp [hz, go_sem]
  | some x => simp [go_sem]
theorem run_updS (h : ByteArray) (es : Array MapEntry) (c mm : Nat) (L : List ByteArray) (w : World) (hl : LiesG kvK es.toList L) (hb : w.heap[mm]? = some (.map es c)) :
    ∃ es' c' L', (Instr.mapUpdate 214 (.map (some mm)) (.string h) (.bool true)).run Tryz.prog w = .ok () (putO w mm (.map es' c')) ∧ LiesG kvK es'.toList L' ∧ ∀ t, t ∈ L' ↔ t = h ∨ t ∈ L := by
  have hf := run_findS h es.toList L w hl
  cases hp : posP (isK h) L 0 with
  | none =>
    rw [hp] at hf
    refine ⟨es.push ⟨.string h, .bool true, c⟩, c + 1, L ++ [h], ?_, LiesG.push (kv := kvK) hl h c, fun t => by simp [or_comm]⟩
    simp only [Instr.mapUpdate, Sem.run_bind, run_underlying Tryz.underlying214, Result.andThen_ok, run_getObj_map w mm es c hb, run_checkKeyS, hf, Option.map_none, MapKept.run_setObj_map _ hb]
    rfl
  | some y =>
    obtain ⟨i, t⟩ := y
    rw [hp] at hf
    obtain ⟨_, h2, h3⟩ := posP_spec _ _ _ _ _ hp
    have ht : h = t := (ba_beq _ _).1 h3
    simp only [Nat.sub_zero] at h2
    have hlen : es.toList.length = L.length := by have := congrArg List.length hl; simpa using this
    have hi : i < L.length := by
      rcases Nat.lt_or_ge i L.length with h | h
      · exact h
      · rw [List.getElem?_eq_none h] at h2; cases h2
    have hie : i < es.size := by rw [← hlen] at hi; simpa using hi
    have hke : es[i].key = .string h := by
      have := congrArg (fun l => l[i]?) hl
      simp only [List.getElem?_map, h2, Option.map_some, Array.getElem?_toList, Array.getElem?_eq_getElem hie, Option.some.injEq] at this
      rw [ht]; exact congrArg Prod.fst this
    have hve : es[i].val = .bool true := by
      have := congrArg (fun l => l[i]?) hl
      simp only [List.getElem?_map, h2, Option.map_some, Array.getElem?_toList, Array.getElem?_eq_getElem hie, Option.some.injEq] at this
      exact congrArg Prod.snd this
    have hsb : Instr.sameBits 10000 (.string h) (.string h) = true := by
      show (h == h) = true
      simp
    refine ⟨es.modify i fun e => { e with key := .string h, val := .bool true }, c, L, ?_, ?_, fun t' => ⟨fun h => .inr h, fun h => ?_⟩⟩
    · simp only [Instr.mapUpdate, Sem.run_bind, run_underlying Tryz.underlying214, Result.andThen_ok, run_getObj_map w mm es c hb, run_checkKeyS, hf, Option.map_some, Array.getElem?_eq_getElem hie, Option.getD_some, hke, Instr.keyThatStays, hsb, if_true, Sem.run_pure, MapKept.run_setObj_map _ hb]
      rfl
    · unfold LiesG at *
      rw [Array.toList_modify, ← hl]
      apply List.ext_getElem
      · simp
      · intro k h1 h2
        simp only [List.getElem_map, List.getElem_modify]
        by_cases hk : i = k
        · subst hk
          simp only [if_true]
          rw [Array.getElem_toList, hke, hve]
        · simp [hk]
    · rcases h with rfl | h
      · rw [ht]; exact List.mem_of_getElem? h2
      · exact h
/-- a policy is kept if none was there for its channel and end -/
def addP (L : List Plc) (p : Plc) : List Plc := if (polOf L p.chan p.frm).isNone = true then L ++ [p] else L
theorem pol_app (L M : List Plc) (c f : ByteArray) : polOf (L ++ M) c f = (polOf L c f).or (polOf M c f) := by unfold polOf; rw [List.find?_append]
theorem pol_fold : ∀ (P L : List Plc) (c f : ByteArray), polOf (P.foldl addP L) c f = (polOf L c f).or (polOf P c f)
  | [], L, c, f => by
    show polOf L c f = (polOf L c f).or none
    cases polOf L c f <;> rfl
  | p :: P, L, c, f => by
    rw [List.foldl_cons, pol_fold P (addP L p) c f]
    have hc : polOf (p :: P) c f = if p.chan = c ∧ p.frm = f then some p else polOf P c f := by
      unfold polOf
      rw [List.find?_cons]
      by_cases h : p.chan = c ∧ p.frm = f
      · simp [h]
      · rw [if_neg h, decide_eq_false h]
    have h1 : polOf [p] c f = if p.chan = c ∧ p.frm = f then some p else none := by
      unfold polOf
      rw [List.find?_cons]
      by_cases h : p.chan = c ∧ p.frm = f
      · simp [h]
      · rw [if_neg h, decide_eq_false h]; rfl
    rw [hc]
    unfold addP
    cases hp : polOf L p.chan p.frm with
    | none =>
      rw [if_pos (show (none : Option Plc).isNone = true from rfl), pol_app, h1]
      by_cases h : p.chan = c ∧ p.frm = f
      · obtain ⟨rfl, rfl⟩ := h
        rw [hp]; simp
      · rw [if_neg h, if_neg h]
        cases polOf L c f <;> rfl
    | some q =>
      rw [if_neg (by simp)]
      by_cases h : p.chan = c ∧ p.frm = f
      · obtain ⟨rfl, rfl⟩ := h
        rw [hp]; rfl
      · rw [if_neg h]
theorem pol_all (P : List Plc) (c f : ByteArray) : polOf (P.foldl addP []) c f = polOf P c f := by rw [pol_fold]; rfl
theorem add_mem : ∀ (P L : List Plc) (p : Plc), p ∈ P.foldl addP L → p ∈ L ∨ p ∈ P
  | [], L, p, h => .inl h
  | q :: P, L, p, h => by
    rw [List.foldl_cons] at h
    rcases add_mem P _ p h with h | h
    · unfold addP at h
      split at h
      · rcases List.mem_append.1 h with h | h
        · exact .inl h
        · exact .inr (by simp at h; simp [h])
      · exact .inl h
    · exact .inr (List.mem_cons_of_mem _ h)
theorem ways_congr : ∀ (E : List Edg) (m m' : List ByteArray), (∀ t, t ∈ m ↔ t ∈ m') → waysGo m E = waysGo m' E
  | [], _, _, _ => rfl
  | e :: E, m, m', h => by
    unfold waysGo
    rw [ways_congr E (e.chan :: m) (e.chan :: m') (fun t => by simp [h t])]
    congr 1
    by_cases hc : e.chan ∈ m ∨ e.a = e.b
    · rw [if_pos hc, if_pos (by rcases hc with hc | hc; exact .inl ((h _).1 hc); exact .inr hc)]
    · rw [if_neg hc, if_neg (fun hc' => hc (by rcases hc' with hc' | hc'; exact .inl ((h _).2 hc'); exact .inr hc'))]
end Go.Proofs.YtbdimlppnhcicaaGreatDoor
