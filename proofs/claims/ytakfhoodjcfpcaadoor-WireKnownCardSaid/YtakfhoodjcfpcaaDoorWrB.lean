/- wire: the table of kinds -/
import Derived.Calls
import Derived.WalkKit
import Derived.WalkSpells
import Derived.WalkLawsBesides
import Derived.Handy
import Derived.Lib.Hide
import Derived.Deep.AppendLies
import Derived.Deep.LoopGhost
import Derived.Outline
import Derived.Laws.BitsAllLaws
import Derived.Laws.BitsLemmas
import Derived.Lib.AppendZeros
import Derived.Lib.AppendZerosOnto
import Derived.Maps.AppendAt
import Derived.Laws.Append
import Derived.Laws.AppendOwn
import Derived.Deep.QuietTactic
import Derived.BigQuiet
import Derived.Deep.RegionHeld3
import Derived.Lib.ConvBytes
import Derived.Laws.BytesArg
import Derived.Lib.ParseIntB
import Derived.Lib.Bytealg
import Derived.Shelf.Small.Strs
import Derived.Shelf.Strconv.Itoa0
import Derived.Shelf.Strconv.ParseIntEmpty
import Derived.Shelf.LaysM
import Derived.Shelf.Strconv.Clone
import Derived.Shelf.Strconv.SyntaxError
import Derived.Shelf.LaysC
import Derived.Shelf.Strconv.ToError
import Derived.Shelf.Strconv.Lower
import Derived.Shelf.Strconv.ParseUint10
import Derived.Shelf.Strconv.ParseUint10Empty
import Derived.Shelf.Strconv.ParseUint10Any
import Derived.Shelf.Strconv.ParseInt10
import Derived.Shelf.Strconv.RangeError
import Derived.Shelf.Strconv.ToErrorRange
import Derived.Shelf.Strconv.ParseUintEmpty
import Derived.Shelf.Strconv.ParseUint10b64
import Derived.Shelf.Strconv.ParseUint10b32
import Derived.Shelf.Strconv.ParseUint10b16
import Derived.Shelf.Strconv.ParseUint10b8
import Derived.Shelf.Strconv.ParseUint10At
import Derived.Shelf.Strconv.ParseInt10At64
import Derived.Shelf.Strconv.ParseInt10At32
import Derived.Shelf.Strconv.ParseInt10At16
import Derived.Shelf.Strconv.ParseInt10At8
import Derived.Shelf.Strconv.ParseInt10All
import Derived.Shelf.Strconv.ParseIntPublic10
import Derived.Shelf.Strconv.ErrVarParseInt
import Derived.Shelf.Strings.Search1
import Derived.Lib.Strings
import Derived.Lib.IndexBytes
import Derived.BigRegion
import Derived.Deep.RegionLaw
import Derived.Deep.Onto
import Derived.Deep.WholeRow
import Derived.Deep.CutRange
import Derived.Laws.CopyOwn
import Derived.Below
import Derived.WalkMore
import Derived.MapKept
import Derived.Carry
import Derived.Test.YtakfhoodjcfpcaaDoorRows
import Derived.Test.YtakfhoodjcfpcaaDoorProg
import Derived.Test.YtakfhoodjcfpcaaDoorPl
import Derived.Test.YtakfhoodjcfpcaaDoorTlA
import Derived.Test.YtakfhoodjcfpcaaDoorTa
import Derived.Test.YtakfhoodjcfpcaaDoorRefG
import Derived.Test.YtakfhoodjcfpcaaDoorWirP
namespace Go.Proofs.YtakfhoodjcfpcaaDoor.T
set_option linter.unusedVariables false
set_option maxRecDepth 100000
open Go.RowKit Tlv Wire
/-! wire: the table of kinds -/
def rowV (x : Nat × Nat × Nat) : Value × Value := (.int .u16 (x.1 : Int), .agg #[.int .i64 (x.2.1 : Int), .int .i64 (x.2.2 : Int)])
def KeyR (es : List MapEntry) (L : List (Nat × Nat × Nat)) : Prop := es.map (fun e => (e.key, e.val)) = L.map rowV
def posR (k : Nat) : List (Nat × Nat × Nat) → Nat → Option (Nat × (Nat × Nat × Nat))
  | [], _ => none
  | x :: r, i => if k = x.1 then some (i, x) else posR k r (i + 1)
theorem posR_look (k : Nat) : ∀ (L : List (Nat × Nat × Nat)) (j : Nat), Wire.look L k = match posR k L j with | some (_, x) => (x.2.1, x.2.2, true) | none => (0, 0, false)
  | [], _ => rfl
  | (a, b, c) :: r, j => by
    unfold posR Wire.look
    by_cases h : k = a
    · subst h; simp
    · rw [if_neg (fun e => h e.symm), if_neg h]; exact posR_look k r (j + 1)
theorem run_findNowR (k : Nat) : ∀ (es : List MapEntry) (L : List (Nat × Nat × Nat)) (j : Nat), KeyR es L → Instr.findNow (.int .u16) (.int .u16 (k : Int)) es j = some ((posR k L j).map fun x => (x.1, (rowV x.2).2))
  | [], [], j, _ => rfl
  | [], _ :: _, _, hl => by simp [KeyR] at hl
  | _ :: _, [], _, hl => by simp [KeyR] at hl
  | e :: es, c :: L, j, hl => by
    simp only [KeyR, List.map_cons, List.cons.injEq] at hl
    obtain ⟨h1, h3⟩ := hl
    have h1a : e.key = (rowV c).1 := congrArg Prod.fst h1
    have h1b : e.val = (rowV c).2 := congrArg Prod.snd h1
    have ih := run_findNowR k es L (j + 1) h3
    unfold Instr.findNow posR
    rw [h1a, h1b]
    simp only [rowV, Instr.sameNow, if_true]
    by_cases hk : k = c.1
    · subst hk; simp
    · have : ((k : Int) == (c.1 : Int)) = false := by simp; omega
      rw [this, if_neg hk]
      exact ih
theorem run_findKeyR (k : Nat) (es : List MapEntry) (L : List (Nat × Nat × Nat)) (w : World) (hl : KeyR es L) : (Instr.findKey 22 (.int .u16 (k : Int)) es).run Tryd.prog w = .ok ((posR k L 0).map fun x => (x.1, (rowV x.2).2)) w := by
  simp only [Instr.findKey, Sem.run_bind, run_underlying Tryd.underlying22, Result.andThen_ok, run_findNowR k es L 0 hl, Sem.run_pure]
theorem run_checkKeyR (e : Bool) (k : Int) (w : World) : (Instr.checkKey e 10000 22 (.int .u16 k)).run Tryd.prog w = .ok () w := by kernel_rfl
/-- a map of kinds -/
def MapR (w : World) (mm : Nat) (L : List (Nat × Nat × Nat)) : Prop := ∃ es c, w.heap[mm]? = some (.map es c) ∧ KeyR es.toList L
theorem run_lookR (k : Nat) (mm : Nat) (L : List (Nat × Nat × Nat)) (w : World) (h : MapR w mm L) :
    (Instr.lookup 54 (.map (some mm)) (.int .u16 (k : Int)) true).run Tryd.prog w = .ok (.tuple #[.agg #[.int .i64 ((Wire.look L k).1 : Int), .int .i64 ((Wire.look L k).2.1 : Int)], .bool (Wire.look L k).2.2]) w := by
  obtain ⟨es, c, hb, hl⟩ := h
  have hz : (zeroValue 52).run Tryd.prog w = .ok (.agg #[.int .i64 0, .int .i64 0]) w := by kernel_rfl
  have hf := run_findKeyR k es.toList L w hl
  rw [posR_look k L 0]
  simp only [Instr.lookup, Sem.run_bind, run_underlying Tryd.underlying54, Result.andThen_ok, MapKept.run_getObj_map hb, Sem.run_pure, run_checkKeyR, hf]
  cases posR k L 0 with
  | none => simp [hz, go_sem]
  | some x => simp [go_sem, rowV]
theorem run_updR (k : Nat) (a b : Nat) (mm : Nat) (L : List (Nat × Nat × Nat)) (w : World) (h : MapR w mm L) (hno : posR k L 0 = none) :
    ∃ w', (Instr.mapUpdate 54 (.map (some mm)) (.int .u16 (k : Int)) (.agg #[.int .i64 (a : Int), .int .i64 (b : Int)])).run Tryd.prog w = .ok () w' ∧ MapR w' mm (L ++ [(k, a, b)]) ∧ ∀ B, B ≤ mm → Below B w w' := by
  obtain ⟨es, c, hb, hl⟩ := h
  have hf := run_findKeyR k es.toList L w hl
  rw [hno] at hf
  refine ⟨{ w with heap := w.heap.setIfInBounds mm (.map (es.push ⟨.int .u16 (k : Int), .agg #[.int .i64 (a : Int), .int .i64 (b : Int)], c⟩) (c + 1)) }, by simp only [Instr.mapUpdate, Sem.run_bind, run_underlying Tryd.underlying54, Result.andThen_ok, MapKept.run_getObj_map hb, run_checkKeyR, hf, Option.map_none, MapKept.run_setObj_map _ hb], ⟨_, _, (MapKept.heap_set hb).1, ?_⟩, fun B hB => ⟨rfl, rfl, rfl, by simp, fun i hi => (MapKept.heap_set hb).2 i (by omega)⟩⟩
  unfold KeyR at *
  rw [Array.toList_push, List.map_append, List.map_append, hl]
  rfl
theorem wpList_ins {ops : Array Oper} {rest : List Oper} {o : Oper} {a : Act} {w : World} {Q : Exit → Act → World → Prop} (hgd : o.guard = none) (m x v : Operand) (ho : o.op = .insert 54 m x v)
    (mm : Nat) (L : List (Nat × Nat × Nat)) (hM : MapR w mm L) (B : Nat) (hB : B ≤ mm) (w0 : World) (hW : Below B w0 w) (k p q : Nat) (hm : a.eval m = .map (some mm)) (hx : a.eval x = .int .u16 (k : Int)) (hv : a.eval v = .agg #[.int .i64 (p : Int), .int .i64 (q : Int)]) (hno : posR k L 0 = none)
    (h : ∀ w', MapR w' mm (L ++ [(k, p, q)]) → Below B w0 w' → wpList Tryd.prog ops Q rest (a.put o.dst undef) w') : wpList Tryd.prog ops Q (o :: rest) a w := by
  refine wpList_plain hgd fun _ hK => ?_
  obtain ⟨w', hrun, h1, h2⟩ := run_updR k p q mm L w hM hno
  unfold Oper.wp
  simp [execOp, ho, hm, hx, hv, hrun, Result.andThen]
  exact hK _ _ (h w' h1 (hW.trans (h2 B hB)))
set_option maxHeartbeats 8000000 in
theorem kinds_any (w : World) : Calls Tryd.prog 20 #[] w fun e w' => e = .returned (.map (some w.heap.size)) ∧ MapR w' w.heap.size rows ∧ Below w.heap.size w w' := by
  have hmk := run_makeMap (P := Tryd.prog) 54 w
  have hM : MapR (w.alloc (.map #[] 0)) w.heap.size [] := ⟨#[], 0, heap_alloc_at w _, rfl⟩
  have hB : Below w.heap.size w (w.alloc (.map #[] 0)) := (Below.refl _ _).alloc (Nat.le_refl _) _
  go_enter Tryd.func20, Tryd.ntmps20
  go_wp2_with (refine wpList_ins rfl _ _ _ rfl w.heap.size _ (by assumption) w.heap.size (Nat.le_refl _) w (by assumption) _ _ _ rfl rfl rfl (by decide) ?_; clear hM hB; intro w' hM hB)
  go_ret
  exact ⟨rfl, hM, hB⟩
end Go.Proofs.YtakfhoodjcfpcaaDoor.T
