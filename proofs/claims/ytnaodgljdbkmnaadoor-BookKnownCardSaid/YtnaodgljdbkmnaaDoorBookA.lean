/- book: bills, maps of bills; New, find, Count. -/
import Derived.Test.YtnaodgljdbkmnaaDoorSeedL
import Derived.MapKept
import Derived.Carry
namespace Go.Proofs.YtnaodgljdbkmnaaDoor
set_option linter.unusedVariables false
open Go.RowKit
/-- a bill -/
structure Bil where
  hash : ByteArray
  pre : ByteArray
  amt : Int
  stamp : Int
  exp : Int
  delta : Int
  memo : ByteArray
  paid : Bool
def Bil.cells (b : Bil) : List Value := [.string b.hash, .string b.pre, .int .i64 b.amt, .int .i64 b.stamp, .int .i64 b.exp, .int .i64 b.delta, .string b.memo, .bool b.paid]
/-- a bill, and the block where it lies -/
abbrev Ent := Nat × Bil
structure BilOk (b : Bil) : Prop where
  a0 : 0 ≤ b.amt
  a1 : b.amt ≤ 2100000000000000000
  s0 : 0 ≤ b.stamp
  s1 : b.stamp < 34359738368
  e0 : 0 ≤ b.exp
  e1 : b.exp < 34359738368
  d0 : 0 ≤ b.delta
  d1 : b.delta < 2147483648
  hs : b.hash.size ≤ 639
  ps : b.pre.size ≤ 16384
  ms : b.memo.size ≤ 639
def Ent.ptr (e : Ent) : Value := .pointer (some ⟨e.1, 0, none⟩)
def findB (h : ByteArray) : List Ent → Nat → Option (Nat × Ent)
  | [], _ => none
  | e :: r, i => if (h == e.2.hash) = true then some (i, e) else findB h r (i + 1)
theorem ba_beq (a b : ByteArray) : (a == b) = true ↔ a = b := MapKept.bytes_beq a b
def LiesB (es : List MapEntry) (L : List Ent) : Prop := es.map (fun e => (e.key, e.val)) = L.map fun e => (Value.string e.2.hash, e.ptr)
theorem run_findNow (h : ByteArray) : ∀ (es : List MapEntry) (L : List Ent) (j : Nat), LiesB es L → Instr.findNow .string (.string h) es j = some ((findB h L j).map fun x => (x.1, x.2.ptr))
  | [], [], j, _ => rfl
  | [], _ :: _, _, hl => by simp [LiesB] at hl
  | _ :: _, [], _, hl => by simp [LiesB] at hl
  | e :: es, c :: L, j, hl => by
    simp only [LiesB, List.map_cons, List.cons.injEq, Prod.mk.injEq] at hl
    obtain ⟨⟨h1, h2⟩, h3⟩ := hl
    have ih := run_findNow h es L (j + 1) h3
    unfold Instr.findNow findB
    rw [h1]
    simp only [Instr.sameNow]
    cases hb : (h == c.2.hash) with
    | true => simp [h2]
    | false => simp [ih]
theorem run_findKeyB (h : ByteArray) (es : List MapEntry) (L : List Ent) (w : World) (hl : LiesB es L) : (Instr.findKey 22 (.string h) es).run Tryd.prog w = .ok ((findB h L 0).map fun x => (x.1, x.2.ptr)) w := by
  simp only [Instr.findKey, Sem.run_bind, run_underlying Tryd.underlying22, Result.andThen_ok, run_findNow h es L 0 hl, Sem.run_pure]
theorem run_checkKeyB (e : Bool) (h : ByteArray) (w : World) : (Instr.checkKey e 10000 22 (.string h)).run Tryd.prog w = .ok () w := by kernel_rfl
/-- m[k] with 'ok' -/
theorem run_lookB (h : ByteArray) (es : Array MapEntry) (c mm : Nat) (L : List Ent) (w : World) (hl : LiesB es.toList L) (hb : w.heap[mm]? = some (.map es c)) :
    (Instr.lookup 88 (.map (some mm)) (.string h) true).run Tryd.prog w = .ok (.tuple #[((findB h L 0).map fun x => x.2.ptr).getD (.pointer none), .bool (findB h L 0).isSome]) w := by
  have hz : (zeroValue 91).run Tryd.prog w = .ok (.pointer none) w := by kernel_rfl
  have hf := run_findKeyB h es.toList L w hl
  simp only [Instr.lookup, Sem.run_bind, run_underlying Tryd.underlying88, Result.andThen_ok, run_getObj_map w mm es c hb, Sem.run_pure, run_checkKeyB, hf]
  cases findB h L 0 with
  | none => simp [hz, go_sem]
  | some x => simp [go_sem]
theorem run_lookB1 (h : ByteArray) (es : Array MapEntry) (c mm : Nat) (L : List Ent) (w : World) (hl : LiesB es.toList L) (hb : w.heap[mm]? = some (.map es c)) :
    (Instr.lookup 88 (.map (some mm)) (.string h) false).run Tryd.prog w = .ok (((findB h L 0).map fun x => x.2.ptr).getD (.pointer none)) w := by
  have hz : (zeroValue 91).run Tryd.prog w = .ok (.pointer none) w := by kernel_rfl
  have hf := run_findKeyB h es.toList L w hl
  simp only [Instr.lookup, Sem.run_bind, run_underlying Tryd.underlying88, Result.andThen_ok, run_getObj_map w mm es c hb, Sem.run_pure, run_checkKeyB, hf]
  cases findB h L 0 with
  | none => simp [hz, go_sem]
  | some x => simp [go_sem]
/-- a map's block turned -/
def putO (w : World) (b : Nat) (o : Obj) : World := { w with heap := w.heap.setIfInBounds b o }
theorem putO_same {w : World} {b : Nat} {o o' : Obj} (h : w.heap[b]? = some o') : (putO w b o).heap[b]? = some o := (MapKept.heap_set h).1
theorem putO_other {w : World} {b k : Nat} {o : Obj} (h : k ≠ b) : (putO w b o).heap[k]? = w.heap[k]? := by
  simp only [putO]; rw [Array.getElem?_setIfInBounds]; rw [if_neg (fun e => h e.symm)]
@[simp] theorem putO_size (w : World) (b : Nat) (o : Obj) : (putO w b o).heap.size = w.heap.size := by simp [putO]
theorem Fr.putO {S : Nat → Prop} {a b : World} (h : Fr S a b) (k : Nat) (o : Obj) (hs : S k) : Fr S a (putO b k o) :=
  ⟨h.os, h.tape, h.output, by simpa using h.size, fun i hi hr => (putO_other (fun e => hr (by rw [e]; exact hs))).trans (h.block i hi hr)⟩
/-- m[k] = v where the key is not there -/
theorem run_updB (h : ByteArray) (v : Value) (es : Array MapEntry) (c mm : Nat) (L : List Ent) (w : World) (hl : LiesB es.toList L) (hb : w.heap[mm]? = some (.map es c)) (hno : findB h L 0 = none) :
    (Instr.mapUpdate 88 (.map (some mm)) (.string h) v).run Tryd.prog w = .ok () (putO w mm (.map (es.push ⟨.string h, v, c⟩) (c + 1))) := by
  have hf := run_findKeyB h es.toList L w hl
  rw [hno] at hf
  simp only [Instr.mapUpdate, Sem.run_bind, run_underlying Tryd.underlying88, Result.andThen_ok, run_getObj_map w mm es c hb, run_checkKeyB, hf, Option.map_none, MapKept.run_setObj_map _ hb]
  rfl
/-- delete(m, k) where the key is there -/
theorem run_delB (h : ByteArray) (es : Array MapEntry) (c mm : Nat) (L : List Ent) (w : World) (hl : LiesB es.toList L) (hb : w.heap[mm]? = some (.map es c)) (ty : TypeId) (j : Nat) (e : Ent) (hf : findB h L 0 = some (j, e)) :
    (Builtin.delete_ #[88, 22] ty #[.map (some mm), .string h]).run Tryd.prog w = .ok (.tuple #[]) (putO w mm (.map (es.eraseIdxIfInBounds j) c)) := by
  have hr := run_findKeyB h es.toList L w hl
  rw [hf] at hr
  simp only [Option.map_some] at hr
  simp [Builtin.delete_, run_underlying Tryd.underlying88, run_getObj_map w mm es c hb, run_checkKeyB, hr, MapKept.run_setObj_map _ hb, Result.andThen]
  rfl
theorem LiesB.push {es : Array MapEntry} {L : List Ent} (h : LiesB es.toList L) (e : Ent) (c : Nat) : LiesB (es.push ⟨.string e.2.hash, e.ptr, c⟩).toList (L ++ [e]) := by
  unfold LiesB at *
  rw [Array.toList_push, List.map_append, List.map_append, h]; rfl
/-- a book in blocks bk (itself), mm (its map), its row's, and its bills' -/
structure BookAt (w : World) (base bk mm : Nat) (v : Value) (L : List Ent) : Prop where
  bkk : w.heap[bk]? = some (.cells #[.map (some mm), v] 90 (0, 0))
  map : ∃ es c, w.heap[mm]? = some (.map es c) ∧ LiesB es.toList L
  own : w.ownsRow base 22 1 v L.length (L.map fun e => .string e.2.hash)
  bills : ∀ e ∈ L, w.heap[e.1]? = some (.cells e.2.cells.toArray 58 (0, 0)) ∧ base ≤ e.1
  far : (L.map (·.1)).Nodup
  uni : (L.map (·.2.hash)).Nodup
  few : L.length ≤ 256
  ok : ∀ e ∈ L, BilOk e.2
  h1 : base ≤ bk
  h2 : base ≤ mm
theorem BookAt.below {w w' : World} {base bk mm : Nat} {v : Value} {L : List Ent} (h : BookAt w base bk mm v L) (hb : Below w.heap.size w w') : BookAt w' base bk mm v L := by
  obtain ⟨es, c, hm, hl⟩ := h.map
  exact { h with
    bkk := (hb.block bk (lt_of_heap h.bkk)).trans h.bkk
    map := ⟨es, c, (hb.block mm (lt_of_heap hm)).trans hm, hl⟩
    own := own_below h.own hb
    bills := fun e he => ⟨(hb.block e.1 (lt_of_heap (h.bills e he).1)).trans (h.bills e he).1, (h.bills e he).2⟩ }
theorem BookAt.cells {w : World} {base bk mm : Nat} {v : Value} {L : List Ent} (h : BookAt w base bk mm v L) : w.cell? ⟨bk, 0, none⟩ = some (.map (some mm)) ∧ w.cell? ⟨bk, 1, none⟩ = some v :=
  ⟨by rw [cell_of_row _ _ _ _ _ _ h.bkk]; rfl, by rw [cell_of_row _ _ _ _ _ _ h.bkk]; rfl⟩
set_option maxRecDepth 100000 in
set_option maxHeartbeats 4000000 in
theorem bnew_any (w : World) : Calls Tryd.prog 27 #[] w fun e w' => ∃ bk mm, e = .returned (.pointer (some ⟨bk, 0, none⟩)) ∧ BookAt w' w.heap.size bk mm (.slice none 0 0) [] ∧ Below w.heap.size w w' := by
  have hmm := @run_makeMap Tryd.prog
  go_enter Tryd.func27, Tryd.ntmps27
  go_wp2
  go_ret
  refine ⟨w.heap.size + 1, w.heap.size, rfl, ⟨?_, ⟨#[], 0, ?_, rfl⟩, World.ownsRow_nil _ _ _ _, by simp, by simp, by simp, by simp, by simp, by omega, by omega⟩, ((Below.refl _ _).alloc (Nat.le_refl _) _).alloc (by simp) _⟩
  · have := heap_alloc_at (w.alloc (.map #[] 0)) (.cells #[Value.map (some w.heap.size), Value.slice none 0 0] 90)
    simpa using this
  · rw [heap_alloc_old _ _ (by simp)]
    exact heap_alloc_at w _
/-- what find tells -/
def fndV (o : Option (Nat × Ent)) : Value := .tuple #[(o.map fun x => x.2.ptr).getD (.pointer none), .int .i64 (if o.isSome then 0 else 230)]
set_option maxRecDepth 100000 in
set_option maxHeartbeats 4000000 in
theorem bfind_any (base bk mm : Nat) (v : Value) (L : List Ent) (w : World) (h : BookAt w base bk mm v L) (x : ByteArray) : Calls Tryd.prog 49 #[.pointer (some ⟨bk, 0, none⟩), .string x] w fun e w' => e = .returned (fndV (findB x L 0)) ∧ Below w.heap.size w w' := by
  obtain ⟨c0, c1⟩ := h.cells
  obtain ⟨es, c, hm, hl⟩ := h.map
  have hlk := run_lookB x es c mm L w hl hm
  unfold fndV
  cases hf : findB x L 0 with
  | none =>
    rw [hf] at hlk
    simp only [Option.map_none, Option.getD_none, Option.isSome_none] at hlk
    clear h hm hl hf
    go_enter Tryd.func49, Tryd.ntmps49
    go_wp2_with fail
    go_ret2
    exact ⟨rfl, Below.refl _ _⟩
  | some q =>
    rw [hf] at hlk
    simp only [Option.map_some, Option.getD_some, Option.isSome_some] at hlk
    unfold Ent.ptr at hlk
    clear h hm hl hf
    go_enter Tryd.func49, Tryd.ntmps49
    go_wp2_with fail
    go_ret2
    exact ⟨rfl, Below.refl _ _⟩
set_option maxRecDepth 100000 in
set_option maxHeartbeats 4000000 in
theorem bcount_any (base bk mm : Nat) (v : Value) (L : List Ent) (w : World) (h : BookAt w base bk mm v L) : Calls Tryd.prog 36 #[.pointer (some ⟨bk, 0, none⟩)] w fun e w' => e = .returned (.int .i64 L.length) ∧ Below w.heap.size w w' := by
  obtain ⟨va, vc, rfl⟩ := own_slice h.own
  obtain ⟨c0, c1⟩ := h.cells
  have hf := h.few
  clear h
  go_enter Tryd.func36, Tryd.ntmps36
  go_wp2_with fail
  go_ret
  exact ⟨rfl, Below.refl _ _⟩
end Go.Proofs.YtnaodgljdbkmnaaDoor
