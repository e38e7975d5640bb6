/- what was seen -/
import Derived.Test.YtbdimlppnhcicaaGreatDoorOnK
import Derived.MapKept
import Derived.Carry
namespace Go.Proofs.YtbdimlppnhcicaaGreatDoor
set_option linter.unusedVariables false
open Go.RowKit
/-! onion: what was seen -/
def posK (h : ByteArray) : List ByteArray → Nat → Option Nat
  | [], _ => none
  | e :: r, i => if (h == e) = true then some i else posK h r (i + 1)
theorem ba_beq (a b : ByteArray) : (a == b) = true ↔ a = b := MapKept.bytes_beq a b
instance : LawfulBEq ByteArray where
  eq_of_beq {a b} h := (ba_beq a b).1 h
  rfl {a} := (ba_beq a a).2 rfl
theorem posK_mem (h : ByteArray) : ∀ (L : List ByteArray) (j : Nat), (posK h L j).isSome = decide (h ∈ L)
  | [], _ => by simp [posK]
  | e :: r, j => by
    unfold posK
    by_cases he : (h == e) = true
    · rw [if_pos he]
      have := (ba_beq h e).1 he
      simp [this]
    · rw [if_neg he, posK_mem h r (j + 1)]
      have : h ≠ e := fun x => he ((ba_beq h e).2 x)
      simp [this]
def KeyL (es : List MapEntry) (L : List ByteArray) : Prop := es.map (fun e => (e.key, e.val)) = L.map fun s => (Value.string s, Value.bool true)
theorem run_findNowK (h : ByteArray) : ∀ (es : List MapEntry) (L : List ByteArray) (j : Nat), KeyL es L → Instr.findNow .string (.string h) es j = some ((posK h L j).map fun x => (x, .bool true))
  | [], [], j, _ => rfl
  | [], _ :: _, _, hl => by simp [KeyL] at hl
  | _ :: _, [], _, hl => by simp [KeyL] at hl
  | e :: es, c :: L, j, hl => by
    simp only [KeyL, List.map_cons, List.cons.injEq, Prod.mk.injEq] at hl
    obtain ⟨⟨h1, h2⟩, h3⟩ := hl
    have ih := run_findNowK h es L (j + 1) h3
    unfold Instr.findNow posK
    rw [h1]
    simp only [Instr.sameNow]
    cases hb : (h == c) with
    | true => simp [h2]
    | false => simp [ih]
theorem run_findKeyK (h : ByteArray) (es : List MapEntry) (L : List ByteArray) (w : World) (hl : KeyL es L) : (Instr.findKey 23 (.string h) es).run Tryz.prog w = .ok ((posK h L 0).map fun x => (x, .bool true)) w := by
  simp only [Instr.findKey, Sem.run_bind, run_underlying Tryz.underlying23, Result.andThen_ok, run_findNowK h es L 0 hl, Sem.run_pure]
theorem run_checkKeyK (e : Bool) (h : ByteArray) (w : World) : (Instr.checkKey e 10000 23 (.string h)).run Tryz.prog w = .ok () w := by kernel_rfl
theorem run_lookK (h : ByteArray) (es : Array MapEntry) (c mm : Nat) (L : List ByteArray) (w : World) (hl : KeyL es.toList L) (hb : w.heap[mm]? = some (.map es c)) :
    (Instr.lookup 161 (.map (some mm)) (.string h) false).run Tryz.prog w = .ok (.bool (decide (h ∈ L))) w := by
  have hz : (zeroValue 4).run Tryz.prog w = .ok (.bool false) w := by kernel_rfl
  have hf := run_findKeyK h es.toList L w hl
  simp only [Instr.lookup, Sem.run_bind, run_underlying Tryz.underlying161, Result.andThen_ok, run_getObj_map w mm es c hb, Sem.run_pure, run_checkKeyK, hf]
  rw [← posK_mem h L 0]
  cases posK h L 0 with
  | none => simp [hz, go_sem]
  | some x => simp [go_sem]
/-- a map's block turned -/
def putO (w : World) (b : Nat) (o : Obj) : World := { w with heap := w.heap.setIfInBounds b o }
theorem putO_same {w : World} {b : Nat} {o o' : Obj} (h : w.heap[b]? = some o') : (putO w b o).heap[b]? = some o := (MapKept.heap_set h).1
theorem putO_other {w : World} {b k : Nat} {o : Obj} (h : k ≠ b) : (putO w b o).heap[k]? = w.heap[k]? := by
  simp only [putO]; rw [Array.getElem?_setIfInBounds]; rw [if_neg (fun e => h e.symm)]
@[simp] theorem putO_size (w : World) (b : Nat) (o : Obj) : (putO w b o).heap.size = w.heap.size := by simp [putO]
theorem Fr.putO {S : Nat → Prop} {a b : World} (h : Fr S a b) (k : Nat) (o : Obj) (hs : S k) : Fr S a (putO b k o) :=
  ⟨h.os, h.tape, h.output, by simpa using h.size, fun i hi hr => (putO_other (fun e => hr (by rw [e]; exact hs))).trans (h.block i hi hr)⟩
theorem run_updK (h : ByteArray) (v : Value) (es : Array MapEntry) (c mm : Nat) (L : List ByteArray) (w : World) (hl : KeyL es.toList L) (hb : w.heap[mm]? = some (.map es c)) (hno : h ∉ L) :
    (Instr.mapUpdate 161 (.map (some mm)) (.string h) v).run Tryz.prog w = .ok () (putO w mm (.map (es.push ⟨.string h, v, c⟩) (c + 1))) := by
  have hf := run_findKeyK h es.toList L w hl
  have hp : posK h L 0 = none := by
    have := posK_mem h L 0
    rw [decide_eq_false hno] at this
    cases hx : posK h L 0 with
    | none => rfl
    | some x => rw [hx] at this; cases this
  rw [hp] at hf
  simp only [Instr.mapUpdate, Sem.run_bind, run_underlying Tryz.underlying161, Result.andThen_ok, run_getObj_map w mm es c hb, run_checkKeyK, hf, Option.map_none, MapKept.run_setObj_map _ hb]
  rfl
theorem KeyL.push {es : Array MapEntry} {L : List ByteArray} (h : KeyL es.toList L) (s : ByteArray) (c : Nat) : KeyL (es.push ⟨.string s, .bool true, c⟩).toList (L ++ [s]) := by
  unfold KeyL at *
  rw [Array.toList_push, List.map_append, List.map_append, h]; rfl
/-- the program's memory -/
structure SeenAt (w : World) (base sb mm : Nat) (L : List ByteArray) : Prop where
  s : w.heap[sb]? = some (.cells #[.map (some mm)] 196 (0, 0))
  map : ∃ es c, w.heap[mm]? = some (.map es c) ∧ KeyL es.toList L
  h1 : base ≤ sb
  h2 : base ≤ mm
theorem SeenAt.below {w w' : World} {base sb mm : Nat} {L : List ByteArray} (h : SeenAt w base sb mm L) (hb : Below w.heap.size w w') : SeenAt w' base sb mm L := by
  obtain ⟨es, c, hm, hl⟩ := h.map
  exact { h with
    s := (hb.block sb (lt_of_heap h.s)).trans h.s
    map := ⟨es, c, (hb.block mm (lt_of_heap hm)).trans hm, hl⟩ }
theorem SeenAt.cell {w : World} {base sb mm : Nat} {L : List ByteArray} (h : SeenAt w base sb mm L) : w.cell? ⟨sb, 0, none⟩ = some (.map (some mm)) := by rw [cell_of_row _ _ _ _ _ _ h.s]; rfl
set_option maxRecDepth 100000 in
set_option maxHeartbeats 4000000 in
theorem seen_nil (w : World) : Calls Tryz.prog 122 #[.pointer none] w fun e w' => e = .returned (.int .i64 0) ∧ Below w.heap.size w w' := by
  go_enter Tryz.func122, Tryz.ntmps122
  go_wp2_with fail
  go_ret
  exact ⟨rfl, Below.refl _ _⟩
set_option maxRecDepth 100000 in
set_option maxHeartbeats 4000000 in
theorem seen_count (base sb mm : Nat) (L : List ByteArray) (w : World) (h : SeenAt w base sb mm L) : Calls Tryz.prog 122 #[.pointer (some ⟨sb, 0, none⟩)] w fun e w' => e = .returned (.int .i64 L.length) ∧ Below w.heap.size w w' := by
  have c0 := h.cell
  obtain ⟨es, c, hm, hl⟩ := h.map
  have hs : es.size = L.length := by
    have := congrArg List.length hl
    simpa using this
  have hln := run_len_map (P := Tryz.prog) (w := w) 161 3 mm es c (by kernel_rfl) hm
  clear hl hm h
  go_enter Tryz.func122, Tryz.ntmps122
  go_wp2_with fail
  go_ret
  exact ⟨rfl, Below.refl _ _⟩
end Go.Proofs.YtbdimlppnhcicaaGreatDoor
